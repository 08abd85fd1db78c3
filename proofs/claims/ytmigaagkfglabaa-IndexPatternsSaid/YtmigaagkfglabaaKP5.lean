/- 'IndexPatterns' answers true, whatever it is handed, and what it is handed reads behind it as it did. -/
import Derived.RangeFuncNested
import Derived.RangeFuncBound
import Derived.RangeFuncCalls
import Derived.RangeFuncLeaves
import Derived.Shelf.Abstract
import Derived.Laws.AppendOwn
import Derived.Laws.OwnMore
import Derived.KernelRfl
import Derived.IntWalk
import Derived.Laws.Append
import Derived.WideLaws
import Derived.Laws.Slices
import Derived.Laws.MakeOwn
import Derived.OrdersIn
import Derived.Laws.Cover3
import Derived.Test.YtmigaagkfglabaaProg
import Derived.Laws.StructEq
import Derived.Shelf.Sort.Plain
import Derived.Sort.OwnSortedInts
import Derived.Shelf.Slices.In.SortNone
import Derived.Maps.RangeRun
import Derived.Lib.AppendZeros
import Derived.Sort.AssemblyPlain
import Derived.Shelf.Small.Bits
import Derived.Sort.Walk7a
import Derived.Laws.Bits64
import Derived.Laws.Bits64b
import Derived.Shelf.Spec.SlicesInsert
import Derived.Shelf.Spec.SlicesInsertGrow
import Derived.ProofKit
import Derived.ChangeSlices
import Derived.Carry
import Derived.Deep.Slices
import Derived.OpenShut
import Derived.Test.YtmigaagkfglabaaRows
import Derived.Test.YtmigaagkfglabaaKP4
set_option linter.unusedVariables false
set_option linter.unusedSimpArgs false
namespace Go.SX
open Go Go.Proofs
def listedE : ER (Int × (List Int)) where
  size := 2
  R := fun H cs x => ∃ v1, cs = [.int .u64 x.1, v1] ∧ RdS (intE .i64) H v1 x.2
  len := fun h => by obtain ⟨v1, rfl, _⟩ := h; rfl
  mono := fun hl h => by obtain ⟨v1, rfl, h0⟩ := h; exact ⟨v1, rfl, h0.mono hl⟩
  one := fun h v hv => by
    obtain ⟨v1, rfl, h0⟩ := h
    simp only [List.mem_cons, List.not_mem_nil, or_false] at hv
    rcases hv with rfl | rfl <;> first | rfl | exact RdS.one (by assumption)

def index_rises_int_l1 (a0 : List Int) (a1 : Int → Int → Int) : Nat → Int → LR (Bool) (Int)
  | 0, _ => .go default
  | ml1 + 1, sl1 => if sl1 < (a0.length : Int) then (if (0 : Int) ≤ (a1 (a0.getD (((sl1 - 1)).toNat) (0 : Int)) (a0.getD sl1.toNat (0 : Int))) then (.ret false) else (index_rises_int_l1 a0 a1 ml1 ((sl1 + 1)))) else (.go sl1)
def index_rises_int_m (a0 : List Int) (a1 : Int → Int → Int) : Bool :=
  LR.on (index_rises_int_l1 a0 a1 (((a0.length : Int) - 1).toNat + 1) 1) (fun r => r) (fun ol1 => true)
set_option maxHeartbeats 3200000 in
theorem index_rises_int_c (H : Heap) (va0 : Value) (a0 : List Int) (ha0 : RdS (intE .i64) H va0 a0) (fa1 : Value) (a1 : Int → Int → Int) (ha1 : ∀ H', HLe H H' → ∀ (z0 : Int) (z1 : Int), Fv Try.prog fa1 [.int .i64 z0, .int .i64 z1] H' (.int .i64 (a1 z0 z1))) (na1 : fa1.oneCell' = true) (hl : a0.length ≤ 2000000) : Fv Try.prog (fnv 130) [va0, fa1] H (.bool (index_rises_int_m a0 a1)) := by
  refine Fc.of_body (N := 24) Try.func130 rfl (by kernel_rfl) rfl rfl ?_
  intro w0
  obtain ⟨Aa0, ca0, rfl, hca0, hda0, ha0⟩ := ha0.shape
  refine T.seq ?_
  refine T.region ?_
  refine R.asE rfl (by conv => lhs; whnf) ?_
  refine TL.nil (Post.thnN ?_)
  refine T.seq ?_
  refine T.seq ?_
  refine T.region ?_
  refine R.asE rfl (by conv => lhs; whnf) ?_
  refine TL.nil (Post.thnN ?_)
  refine T.block ?_
  refine T.loop (ι := Nat × Int) (fun ⟨kl1, n5l1⟩ H' L' ds' => ((a0.length : Int) - n5l1).toNat < kl1 ∧ Has L' [] ∧ 1 ≤ n5l1 ∧ index_rises_int_l1 a0 a1 kl1 n5l1 = index_rises_int_l1 a0 a1 (((a0.length : Int) - 1).toNat + 1) 1) (fun ⟨kl1, n5l1⟩ => [(0, .slice Aa0 a0.length ca0), (1, fa1), (5, .int .i64 n5l1)]) (fun ⟨kl1, n5l1⟩ => kl1) ((((a0.length : Int) - 1).toNat + 1), 1) ?_ ?_ ?_
  · exact ⟨(by omega), Has.nil, (by first | omega | (simp; done) | (simp; omega) | (simp at *; omega)), (by rfl)⟩
  · exact ⟨rfl, rfl, rfl, trivial⟩
  intro ⟨kl1, n5l1⟩ σ_l1 H_l1 L_l1 ds_l1 s_l1 hI_l1
  obtain ⟨hkl1, hI_l1⟩ := hI_l1
  obtain ⟨ml1, rfl⟩ : ∃ m, kl1 = m + 1 := ⟨kl1 - 1, by omega⟩
  obtain ⟨hLl1, hBl1_0, hQl1⟩ := hI_l1
  refine T.has hLl1 ?_
  refine T.seq ?_
  refine T.seq ?_
  refine T.region ?_
  refine R.mvE rfl (by conv => lhs; whnf) ?_
  refine R.mvE rfl (by conv => lhs; whnf) ?_
  refine R.len Try.underlying37 rfl rfl ?_
  refine R.lss rfl rfl rfl ?_
  refine TL.nil (Post.thnN ?_)
  refine T.condD rfl (fun c9 => ?_) (fun c9 => ?_)
  · refine T.set 9 (.bool true) (congrArg Value.bool (decide_eq_true c9)) ?_
    refine T.skip (Post.thnN ?_)
    refine T.seq ?_
    refine T.block ?_
    refine T.seq ?_
    refine T.draw Try_mixed (by kernel_rfl) ?_
    refine Plan.v 0 [1, 2, 3, 4, 5, 6, 7, 8, 9, 10, 11] (by kernel_rfl) (by kernel_rfl) (by kernel_rfl) (by kernel_rfl) rfl (fun _ _ h_ => R.mvE rfl (by conv => lhs; whnf) (TL.nil h_)) ?_
    refine Plan.v 1 [2, 3, 4, 5, 6, 7, 8, 9, 10, 11] (by kernel_rfl) (by kernel_rfl) (by kernel_rfl) (by kernel_rfl) rfl (fun _ _ h_ => R.mvE rfl (by conv => lhs; whnf) (TL.nil h_)) ?_
    refine Plan.v 2 [3, 4, 5, 6, 7, 8, 9, 10, 11] (by kernel_rfl) (by kernel_rfl) (by kernel_rfl) (by kernel_rfl) rfl (fun _ _ h_ => R.mvE rfl (by conv => lhs; whnf) (TL.nil h_)) ?_
    refine Plan.v 3 [4, 5, 6, 7, 8, 9, 10, 11] (by kernel_rfl) (by kernel_rfl) (by kernel_rfl) (by kernel_rfl) rfl (fun _ _ h_ => R.subI rfl rfl rfl (by omega) (TL.nil h_)) ?_
    have hl16 : ((n5l1 - 1)).toNat < a0.length := by first | omega | (simp; done) | (simp; omega) | (simp at *; omega)
    obtain ⟨y16, e16, h16⟩ : ∃ y, y = (a0.getD (((n5l1 - 1)).toNat) (0 : Int)) ∧ a0[((n5l1 - 1)).toNat]? = some y := ⟨_, rfl, getD_get (by first | exact hl16 | simpa using hl16 | (simp only [List.length_set]; omega) | omega | (rw [(sortI_perm _).length_eq]; exact hl16))⟩
    obtain ⟨b16, o16, i16, k16⟩ := RdS.elem (ha0.mono s_l1) h16
    obtain ⟨l16, g16, k16⟩ := k16
    obtain rfl : l16 = [.int .i64 y16] := g16
    refine Plan.v 4 [5, 6, 7, 8, 9, 10, 11] (by kernel_rfl) (by kernel_rfl) (by kernel_rfl) (by kernel_rfl) rfl (fun _ _ h_ => R.ixp Try.underlying37 Try.sizeOf3 rfl rfl rfl (by first | omega | (simp; done) | (simp; omega) | (simp at *; omega)) i16 (TL.nil h_)) ?_
    refine Plan.v 5 [6, 7, 8, 9, 10, 11] (by kernel_rfl) (by kernel_rfl) (by kernel_rfl) (by kernel_rfl) rfl (fun _ _ h_ => R.ldC Try.isAgg3 rfl rfl (k16 0 _ rfl) (TL.nil h_)) ?_
    refine Plan.v 6 [7, 8, 9, 10, 11] (by kernel_rfl) (by kernel_rfl) (by kernel_rfl) (by kernel_rfl) rfl (fun _ _ h_ => R.mvE rfl (by conv => lhs; whnf) (TL.nil h_)) ?_
    refine Plan.v 7 [8, 9, 10, 11] (by kernel_rfl) (by kernel_rfl) (by kernel_rfl) (by kernel_rfl) rfl (fun _ _ h_ => R.mvE rfl (by conv => lhs; whnf) (TL.nil h_)) ?_
    have hl20 : n5l1.toNat < a0.length := by first | omega | (simp; done) | (simp; omega) | (simp at *; omega)
    obtain ⟨y20, e20, h20⟩ : ∃ y, y = (a0.getD n5l1.toNat (0 : Int)) ∧ a0[n5l1.toNat]? = some y := ⟨_, rfl, getD_get (by first | exact hl20 | simpa using hl20 | (simp only [List.length_set]; omega) | omega | (rw [(sortI_perm _).length_eq]; exact hl20))⟩
    obtain ⟨b20, o20, i20, k20⟩ := RdS.elem (ha0.mono s_l1) h20
    obtain ⟨l20, g20, k20⟩ := k20
    obtain rfl : l20 = [.int .i64 y20] := g20
    refine Plan.v 8 [9, 10, 11] (by kernel_rfl) (by kernel_rfl) (by kernel_rfl) (by kernel_rfl) rfl (fun _ _ h_ => R.ixp Try.underlying37 Try.sizeOf3 rfl rfl rfl (by first | omega | (simp; done) | (simp; omega) | (simp at *; omega)) i20 (TL.nil h_)) ?_
    refine Plan.v 9 [10, 11] (by kernel_rfl) (by kernel_rfl) (by kernel_rfl) (by kernel_rfl) rfl (fun _ _ h_ => R.ldC Try.isAgg3 rfl rfl (k20 0 _ rfl) (TL.nil h_)) ?_
    refine Plan.v 10 [11] (by kernel_rfl) (by kernel_rfl) (by kernel_rfl) (by kernel_rfl) rfl (fun _ _ h_ => R.callv rfl rfl rfl (ha1 _ s_l1 (y16) (y20)) (TL.nil h_)) ?_
    refine Plan.v 11 [] (by kernel_rfl) (by kernel_rfl) (by kernel_rfl) (by kernel_rfl) rfl (fun _ _ h_ => R.geq rfl rfl rfl (TL.nil h_)) ?_
    refine Plan.done (Post.thnN ?_)
    refine T.condD rfl (fun c23 => ?_) (fun c23 => ?_)
    · refine T.set 23 (.bool true) (congrArg Value.bool (decide_eq_true c23)) ?_
      refine T.seq ?_
      refine T.region ?_
      refine R.asE rfl (by conv => lhs; whnf) ?_
      refine TL.nil (Post.thnN ?_)
      refine T.has Has.nil ?_
      refine T.ret (Post.blkR (Post.thnR (Post.thnR (Post.blkR (Post.thnR ?_)))))
      have hXl1 : index_rises_int_l1 a0 a1 (((a0.length : Int) - 1).toNat + 1) 1 = .ret false := by subst e20; subst e16; rw [← hQl1, index_rises_int_l1]; rw [if_pos c9, if_pos c23]
      have hM : index_rises_int_m a0 a1 = false := by rw [index_rises_int_m, hXl1, LR.on_ret]
      exact fin1L (v := .bool false) [] rfl rfl (List.Sublist.refl _) ⟨rfl, by first | rw [hM] | rfl⟩
    refine T.set 23 (.bool false) (congrArg Value.bool (decide_eq_false c23)) ?_
    refine T.skip (Post.blkN ?_)
    refine id (Post.thnN ?_)
    refine T.region ?_
    refine R.mvE rfl (by conv => lhs; whnf) ?_
    refine R.addI rfl rfl rfl (by omega) ?_
    refine R.asE rfl (by conv => lhs; whnf) ?_
    refine TL.nil (Post.thnN ?_)
    exact ⟨(ml1, (n5l1 + 1)), s_l1, ⟨(by first | omega | (simp; omega) | (simp at *; omega)), Has.nil, (by first | omega | (simp; done) | (simp; omega) | (simp at *; omega)), (by subst e20; subst e16; rw [← hQl1, index_rises_int_l1]; rw [if_pos c9, if_neg c23])⟩, by show ml1 < ml1 + 1; omega, rfl, rfl, rfl, trivial⟩
  refine T.set 9 (.bool false) (congrArg Value.bool (decide_eq_false c9)) ?_
  refine T.exit (Post.thnE (Post.thnE (Post.blkX ?_)))
  have hEl1 : index_rises_int_l1 a0 a1 (((a0.length : Int) - 1).toNat + 1) 1 = .go n5l1 := (by rw [← hQl1, index_rises_int_l1]; rw [if_neg c9])
  refine id (Post.thnN ?_)
  refine T.seq ?_
  refine T.region ?_
  refine R.asE rfl (by conv => lhs; whnf) ?_
  refine TL.nil (Post.thnN ?_)
  refine T.has Has.nil ?_
  refine T.ret ?_
  have hM : index_rises_int_m a0 a1 = true := by rw [index_rises_int_m, hEl1, LR.on_go]
  exact fin1L (v := .bool true) [] rfl rfl (List.Sublist.refl _) ⟨rfl, by first | rw [hM] | rfl⟩
def cmp_isNaN_int_m (a0 : Int) : Bool :=
  (decide (a0 ≠ a0))
set_option maxHeartbeats 3200000 in
theorem cmp_isNaN_int_c (H : Heap) (a0 : Int) : Fv Try.prog (fnv 155) [.int .i64 a0] H (.bool (cmp_isNaN_int_m a0)) := by
  refine Fc.of_body (N := 6) Try.func155 rfl (by kernel_rfl) rfl rfl ?_
  intro w0
  refine T.seq ?_
  refine T.region ?_
  refine R.asE rfl (by conv => lhs; whnf) ?_
  refine TL.nil (Post.thnN ?_)
  refine T.seq ?_
  refine T.region ?_
  refine R.mvE rfl (by conv => lhs; whnf) ?_
  refine R.mvE rfl (by conv => lhs; whnf) ?_
  refine R.neq rfl rfl rfl ?_
  refine R.asE rfl (by conv => lhs; whnf) ?_
  refine TL.nil (Post.thnN ?_)
  refine T.has Has.nil ?_
  refine T.ret ?_
  have hM : cmp_isNaN_int_m a0 = (decide (a0 ≠ a0)) := by rw [cmp_isNaN_int_m]
  exact fin1L (v := .bool (decide (a0 ≠ a0))) [] rfl rfl (List.Sublist.refl _) ⟨rfl, by first | rw [hM] | rfl⟩
def cmp_Compare_int_m (a0 : Int) (a1 : Int) : Int :=
  if (cmp_isNaN_int_m a0) = true then (if (cmp_isNaN_int_m a1) = true then 0 else (-1)) else (if (cmp_isNaN_int_m a1) = true then 1 else (if a0 < a1 then (-1) else (if a1 < a0 then 1 else 0)))
set_option maxHeartbeats 3200000 in
theorem cmp_Compare_int_c (H : Heap) (a0 : Int) (a1 : Int) : Fv Try.prog (fnv 131) [.int .i64 a0, .int .i64 a1] H (.int .i64 (cmp_Compare_int_m a0 a1)) := by
  refine Fc.of_body (N := 20) Try.func131 rfl (by kernel_rfl) rfl rfl ?_
  intro w0
  refine T.seq ?_
  refine T.region ?_
  refine R.asE rfl (by conv => lhs; whnf) ?_
  refine TL.nil (Post.thnN ?_)
  refine T.seq ?_
  refine T.region ?_
  refine R.mvE rfl (by conv => lhs; whnf) ?_
  refine R.callv rfl rfl rfl (cmp_isNaN_int_c _ (a0)) ?_
  refine R.asE rfl (by conv => lhs; whnf) ?_
  refine TL.nil (Post.thnN ?_)
  refine T.seq ?_
  refine T.region ?_
  refine R.mvE rfl (by conv => lhs; whnf) ?_
  refine R.callv rfl rfl rfl (cmp_isNaN_int_c _ (a1)) ?_
  refine R.asE rfl (by conv => lhs; whnf) ?_
  refine TL.nil (Post.thnN ?_)
  refine T.seq ?_
  refine T.seq ?_
  refine T.region ?_
  refine R.mvE rfl (by conv => lhs; whnf) ?_
  refine TL.nil (Post.thnN ?_)
  refine T.cond rfl (fun c11 => ?_) (fun c11 => ?_)
  · refine T.set 11 (.bool true) (congrArg Value.bool c11) ?_
    refine T.seq ?_
    refine T.seq ?_
    refine T.region ?_
    refine R.mvE rfl (by conv => lhs; whnf) ?_
    refine TL.nil (Post.thnN ?_)
    refine T.cond rfl (fun c12 => ?_) (fun c12 => ?_)
    · refine T.set 12 (.bool true) (congrArg Value.bool c12) ?_
      refine T.seq ?_
      refine T.region ?_
      refine R.asE rfl (by conv => lhs; whnf) ?_
      refine TL.nil (Post.thnN ?_)
      refine T.has Has.nil ?_
      refine T.ret (Post.thnR (Post.thnR ?_))
      have hM : cmp_Compare_int_m a0 a1 = 0 := by rw [cmp_Compare_int_m, if_t c11, if_t c12]
      exact fin1L (v := .int .i64 0) [] rfl rfl (List.Sublist.refl _) ⟨rfl, by first | rw [hM] | rfl⟩
    refine T.set 12 (.bool false) (congrArg Value.bool c12) ?_
    refine T.skip (Post.thnN ?_)
    refine T.seq ?_
    refine T.region ?_
    refine R.asE rfl (by conv => lhs; whnf) ?_
    refine TL.nil (Post.thnN ?_)
    refine T.has Has.nil ?_
    refine T.ret (Post.thnR ?_)
    have hM : cmp_Compare_int_m a0 a1 = (-1) := by rw [cmp_Compare_int_m, if_t c11, if_f c12]
    exact fin1L (v := .int .i64 (-1)) [] rfl rfl (List.Sublist.refl _) ⟨rfl, by first | rw [hM] | rfl⟩
  refine T.set 11 (.bool false) (congrArg Value.bool c11) ?_
  refine T.skip (Post.thnN ?_)
  refine T.seq ?_
  refine T.seq ?_
  refine T.region ?_
  refine R.mvE rfl (by conv => lhs; whnf) ?_
  refine TL.nil (Post.thnN ?_)
  refine T.cond rfl (fun c13 => ?_) (fun c13 => ?_)
  · refine T.set 13 (.bool true) (congrArg Value.bool c13) ?_
    refine T.seq ?_
    refine T.region ?_
    refine R.asE rfl (by conv => lhs; whnf) ?_
    refine TL.nil (Post.thnN ?_)
    refine T.has Has.nil ?_
    refine T.ret (Post.thnR ?_)
    have hM : cmp_Compare_int_m a0 a1 = 1 := by rw [cmp_Compare_int_m, if_f c11, if_t c13]
    exact fin1L (v := .int .i64 1) [] rfl rfl (List.Sublist.refl _) ⟨rfl, by first | rw [hM] | rfl⟩
  refine T.set 13 (.bool false) (congrArg Value.bool c13) ?_
  refine T.skip (Post.thnN ?_)
  refine T.seq ?_
  refine T.seq ?_
  refine T.region ?_
  refine R.mvE rfl (by conv => lhs; whnf) ?_
  refine R.mvE rfl (by conv => lhs; whnf) ?_
  refine R.lss rfl rfl rfl ?_
  refine TL.nil (Post.thnN ?_)
  refine T.condD rfl (fun c16 => ?_) (fun c16 => ?_)
  · refine T.set 16 (.bool true) (congrArg Value.bool (decide_eq_true c16)) ?_
    refine T.seq ?_
    refine T.region ?_
    refine R.asE rfl (by conv => lhs; whnf) ?_
    refine TL.nil (Post.thnN ?_)
    refine T.has Has.nil ?_
    refine T.ret (Post.thnR ?_)
    have hM : cmp_Compare_int_m a0 a1 = (-1) := by rw [cmp_Compare_int_m, if_f c11, if_f c13, if_pos c16]
    exact fin1L (v := .int .i64 (-1)) [] rfl rfl (List.Sublist.refl _) ⟨rfl, by first | rw [hM] | rfl⟩
  refine T.set 16 (.bool false) (congrArg Value.bool (decide_eq_false c16)) ?_
  refine T.skip (Post.thnN ?_)
  refine T.seq ?_
  refine T.seq ?_
  refine T.region ?_
  refine R.mvE rfl (by conv => lhs; whnf) ?_
  refine R.mvE rfl (by conv => lhs; whnf) ?_
  refine R.gtr rfl rfl rfl ?_
  refine TL.nil (Post.thnN ?_)
  refine T.condD rfl (fun c19 => ?_) (fun c19 => ?_)
  · refine T.set 19 (.bool true) (congrArg Value.bool (decide_eq_true c19)) ?_
    refine T.seq ?_
    refine T.region ?_
    refine R.asE rfl (by conv => lhs; whnf) ?_
    refine TL.nil (Post.thnN ?_)
    refine T.has Has.nil ?_
    refine T.ret (Post.thnR ?_)
    have hM : cmp_Compare_int_m a0 a1 = 1 := by rw [cmp_Compare_int_m, if_f c11, if_f c13, if_neg c16, if_pos c19]
    exact fin1L (v := .int .i64 1) [] rfl rfl (List.Sublist.refl _) ⟨rfl, by first | rw [hM] | rfl⟩
  refine T.set 19 (.bool false) (congrArg Value.bool (decide_eq_false c19)) ?_
  refine T.skip (Post.thnN ?_)
  refine T.seq ?_
  refine T.region ?_
  refine R.asE rfl (by conv => lhs; whnf) ?_
  refine TL.nil (Post.thnN ?_)
  refine T.has Has.nil ?_
  refine T.ret ?_
  have hM : cmp_Compare_int_m a0 a1 = 0 := by rw [cmp_Compare_int_m, if_f c11, if_f c13, if_neg c16, if_neg c19]
  exact fin1L (v := .int .i64 0) [] rfl rfl (List.Sublist.refl _) ⟨rfl, by first | rw [hM] | rfl⟩
def slices_ContainsFunc_int_m (a0 : List Int) (a1 : Int → Bool) : Bool :=
  (decide ((0 : Int) ≤ (slices_IndexFunc_int_m a0 a1)))
set_option maxHeartbeats 3200000 in
theorem slices_ContainsFunc_int_c (H : Heap) (va0 : Value) (a0 : List Int) (ha0 : RdS (intE .i64) H va0 a0) (fa1 : Value) (a1 : Int → Bool) (ha1 : ∀ H', HLe H H' → ∀ (z0 : Int), Fv Try.prog fa1 [.int .i64 z0] H' (.bool (a1 z0))) (na1 : fa1.oneCell' = true) : Fv Try.prog (fnv 132) [va0, fa1] H (.bool (slices_ContainsFunc_int_m a0 a1)) := by
  refine Fc.of_body (N := 9) Try.func132 rfl (by kernel_rfl) rfl rfl ?_
  intro w0
  obtain ⟨Aa0, ca0, rfl, hca0, hda0, ha0⟩ := ha0.shape
  refine T.seq ?_
  refine T.region ?_
  refine R.asE rfl (by conv => lhs; whnf) ?_
  refine TL.nil (Post.thnN ?_)
  refine T.seq ?_
  refine T.region ?_
  refine R.mvE rfl (by conv => lhs; whnf) ?_
  refine R.mvE rfl (by conv => lhs; whnf) ?_
  refine R.callv rfl rfl rfl (slices_IndexFunc_int_c _ _ a0 ha0 _ a1 (fun H' h' => ha1 H' ((HLe.refl _).trans h')) na1) ?_
  refine R.geq rfl rfl rfl ?_
  refine R.asE rfl (by conv => lhs; whnf) ?_
  refine TL.nil (Post.thnN ?_)
  refine T.has Has.nil ?_
  refine T.ret ?_
  have hM : slices_ContainsFunc_int_m a0 a1 = (decide ((0 : Int) ≤ (slices_IndexFunc_int_m a0 a1))) := by rw [slices_ContainsFunc_int_m]
  exact fin1L (v := .bool (decide ((0 : Int) ≤ (slices_IndexFunc_int_m a0 a1)))) [] rfl rfl (List.Sublist.refl _) ⟨rfl, by first | rw [hM] | rfl⟩
def index_table_m (a0 : Int) : Bool :=
  if (1 : Int) ≤ a0 then ((decide (a0 ≤ 1048576))) else false
set_option maxHeartbeats 3200000 in
theorem index_table_c (H : Heap) (a0 : Int) : Fv Try.prog (fnv 92) [.int .i64 a0] H (.bool (index_table_m a0)) := by
  refine Fc.of_body (N := 9) Try.func92 rfl (by kernel_rfl) rfl rfl ?_
  intro w0
  refine T.seq ?_
  refine T.region ?_
  refine R.asE rfl (by conv => lhs; whnf) ?_
  refine TL.nil (Post.thnN ?_)
  refine T.seq ?_
  refine T.region ?_
  refine R.mvE rfl (by conv => lhs; whnf) ?_
  refine R.geq rfl rfl rfl ?_
  refine R.mvE rfl (by conv => lhs; whnf) ?_
  refine TL.gsplitD 5 rfl (fun g5 => ?_) (fun g5 => ?_)
  · refine R.mvE rfl (by conv => lhs; whnf) ?_
    refine R.leq rfl rfl rfl ?_
    refine R.pkTE rfl rfl (by conv => lhs; whnf) ?_
    refine R.asE rfl (by conv => lhs; whnf) ?_
    refine TL.nil (Post.thnN ?_)
    refine T.has Has.nil ?_
    refine T.ret ?_
    have hM : index_table_m a0 = (decide (a0 ≤ 1048576)) := by rw [index_table_m, if_pos g5]
    exact fin1L (v := .bool (decide (a0 ≤ 1048576))) [] rfl rfl (List.Sublist.refl _) ⟨rfl, by first | rw [hM] | rfl⟩
  refine TL.off rfl rfl rfl ?_
  refine TL.off rfl rfl rfl ?_
  refine R.pkFE rfl rfl (by conv => lhs; whnf) ?_
  refine R.asE rfl (by conv => lhs; whnf) ?_
  refine TL.nil (Post.thnN ?_)
  refine T.has Has.nil ?_
  refine T.ret ?_
  have hM : index_table_m a0 = false := by rw [index_table_m, if_neg g5]
  exact fin1L (v := .bool false) [] rfl rfl (List.Sublist.refl _) ⟨rfl, by first | rw [hM] | rfl⟩
def index_row_1_m (a0 : Int) : Bool :=
  (!(index_table_m a0))
set_option maxHeartbeats 3200000 in
theorem index_row_1_c (H : Heap) (a0 : Int) : Fv Try.prog (fnv 133) [.int .i64 a0] H (.bool (index_row_1_m a0)) := by
  refine Fc.of_body (N := 6) Try.func133 rfl (by kernel_rfl) rfl rfl ?_
  intro w0
  refine T.seq ?_
  refine T.region ?_
  refine R.asE rfl (by conv => lhs; whnf) ?_
  refine TL.nil (Post.thnN ?_)
  refine T.seq ?_
  refine T.region ?_
  refine R.mvE rfl (by conv => lhs; whnf) ?_
  refine R.callv rfl rfl rfl (index_table_c _ (a0)) ?_
  refine R.not rfl rfl ?_
  refine R.asE rfl (by conv => lhs; whnf) ?_
  refine TL.nil (Post.thnN ?_)
  refine T.has Has.nil ?_
  refine T.ret ?_
  have hM : index_row_1_m a0 = (!(index_table_m a0)) := by rw [index_row_1_m]
  exact fin1L (v := .bool ((!(index_table_m a0)))) [] rfl rfl (List.Sublist.refl _) ⟨rfl, by first | rw [hM] | rfl⟩
def index_row_m (a0 : Int × (List Int)) : Bool :=
  LR.seq (if ((kindG a0.1) : Int) = 2 then true else (if ((kindG a0.1) : Int) = 3 then true else ((decide (((kindG a0.1) : Int) = 4)))) : Bool) (fun sc1 => if sc1 = true then (if (0 : Int) < (a0.2.length : Int) then (if (index_rises_int_m a0.2 ((fun z0 z1 => cmp_Compare_int_m z0 z1))) = true then ((!(slices_ContainsFunc_int_m a0.2 ((fun z0 => index_row_1_m z0))))) else false) else false) else false)
set_option maxHeartbeats 3200000 in
theorem index_row_c (H : Heap) (a0 : Int × (List Int)) (va0_1 : Value) (ha0_1 : RdS (intE .i64) H va0_1 a0.2) (hl : a0.2.length ≤ 2000000) : Fv Try.prog (fnv 86) [.agg #[.int .u64 a0.1, va0_1]] H (.bool (index_row_m a0)) := by
  refine Fc.of_body (N := 36) Try.func86 rfl (by kernel_rfl) rfl rfl ?_
  intro w0
  obtain ⟨Aa0_1, ca0_1, rfl, hca0_1, hda0_1, ha0_1⟩ := ha0_1.shape
  refine T.seq ?_
  refine T.region ?_
  refine R.box rfl (by conv => lhs; whnf) ?_
  intro b1
  refine R.asE rfl (by conv => lhs; whnf) ?_
  refine TL.shut .hd ?_
  intro Hb1_1 sb1_1 qb1_1
  have hb1_1 : Hb1_1 b1 = some (.cells #[.int .u64 (a0.1), .slice Aa0_1 a0.2.length ca0_1] 55) := shut1 qb1_1
  refine TL.nil (Post.thnN ?_)
  refine T.seq ?_
  refine T.region ?_
  refine R.fldA Try.underlying55 rfl Try.sizeOf26 (by decide) rfl rfl ?_
  refine R.ldH Try.isAgg26 rfl rfl hb1_1 rfl ?_
  refine R.callv rfl rfl rfl (kindG_c _ a0.1) ?_
  refine R.asE rfl (by conv => lhs; whnf) ?_
  refine TL.nil (Post.thnN ?_)
  refine T.seq ?_
  refine T.cutK (ι := Bool) (fun b4c1 H' L' ds' => Has L' [] ∧ (if ((kindG a0.1) : Int) = 2 then true else (if ((kindG a0.1) : Int) = 3 then true else ((decide (((kindG a0.1) : Int) = 4)))) : Bool) = b4c1) (fun b4c1 => [(1, .pointer (some ⟨b1, 0, none⟩)), (4, .bool (b4c1))]) ?_ ?_
  · refine T.region ?_
    refine R.mvE rfl (by conv => lhs; whnf) ?_
    refine R.eql rfl rfl rfl ?_
    refine R.mvE rfl (by conv => lhs; whnf) ?_
    refine TL.gsplitD 10 rfl (fun g10 => ?_) (fun g10 => ?_)
    · refine TL.off rfl rfl rfl ?_
      refine TL.off rfl rfl rfl ?_
      refine R.pkTE rfl rfl (by conv => lhs; whnf) ?_
      refine R.mvE rfl (by conv => lhs; whnf) ?_
      refine TL.off rfl rfl rfl ?_
      refine TL.off rfl rfl rfl ?_
      refine R.pkTE rfl rfl (by conv => lhs; whnf) ?_
      refine R.asE rfl (by conv => lhs; whnf) ?_
      refine TL.nil (Post.thnN ?_)
      exact ⟨true, HLe.refl _, ⟨Has.nil, (by rw [if_pos g10])⟩, rfl, rfl, trivial⟩
    refine R.mvE rfl (by conv => lhs; whnf) ?_
    refine R.eql rfl rfl rfl ?_
    refine R.pkFE rfl rfl (by conv => lhs; whnf) ?_
    refine R.mvE rfl (by conv => lhs; whnf) ?_
    refine TL.gsplitD 14 rfl (fun g14 => ?_) (fun g14 => ?_)
    · refine TL.off rfl rfl rfl ?_
      refine TL.off rfl rfl rfl ?_
      refine R.pkTE rfl rfl (by conv => lhs; whnf) ?_
      refine R.asE rfl (by conv => lhs; whnf) ?_
      refine TL.nil (Post.thnN ?_)
      exact ⟨true, HLe.refl _, ⟨Has.nil, (by rw [if_neg g10, if_pos g14])⟩, rfl, rfl, trivial⟩
    refine R.mvE rfl (by conv => lhs; whnf) ?_
    refine R.eql rfl rfl rfl ?_
    refine R.pkFE rfl rfl (by conv => lhs; whnf) ?_
    refine R.asE rfl (by conv => lhs; whnf) ?_
    refine TL.nil (Post.thnN ?_)
    exact ⟨(decide (((kindG a0.1) : Int) = 4)), HLe.refl _, ⟨Has.nil, (by rw [if_neg g10, if_neg g14])⟩, rfl, rfl, trivial⟩
  intro b4c1 σ_c1 H_c1 L_c1 ds_c1 s_c1 hI_c1
  obtain ⟨hLc1, hTc1⟩ := hI_c1
  refine T.has hLc1 ?_
  refine T.seq ?_
  refine T.region ?_
  refine R.mvE rfl (by conv => lhs; whnf) ?_
  refine R.mvE rfl (by conv => lhs; whnf) ?_
  refine TL.gsplit 19 rfl (fun g19 => ?_) (fun g19 => ?_)
  · refine R.fldA Try.underlying55 rfl Try.sizeOf37 (by decide) rfl rfl ?_
    refine R.ldH Try.isAgg37 rfl rfl (s_c1 _ _ hb1_1) rfl ?_
    refine R.len Try.underlying37 rfl rfl ?_
    refine R.gtr rfl rfl rfl ?_
    refine R.pkTE rfl rfl (by conv => lhs; whnf) ?_
    refine R.mvE rfl (by conv => lhs; whnf) ?_
    refine TL.gsplitD 25 rfl (fun g25 => ?_) (fun g25 => ?_)
    · refine R.fldA Try.underlying55 rfl Try.sizeOf37 (by decide) rfl rfl ?_
      refine R.ldH Try.isAgg37 rfl rfl (s_c1 _ _ hb1_1) rfl ?_
      refine R.callv rfl rfl rfl (index_rises_int_c _ _ a0.2 (ha0_1.mono (sb1_1.trans s_c1)) _ (fun z0 z1 => cmp_Compare_int_m z0 z1) (fun H2 h2 z0 z1 => cmp_Compare_int_c H2 z0 z1) rfl (by first | omega | (simp; done) | (simp; omega) | (simp at *; omega))) ?_
      refine R.pkTE rfl rfl (by conv => lhs; whnf) ?_
      refine R.mvE rfl (by conv => lhs; whnf) ?_
      refine TL.gsplit 30 rfl (fun g30 => ?_) (fun g30 => ?_)
      · refine R.fldA Try.underlying55 rfl Try.sizeOf37 (by decide) rfl rfl ?_
        refine R.ldH Try.isAgg37 rfl rfl (s_c1 _ _ hb1_1) rfl ?_
        refine R.callv rfl rfl rfl (slices_ContainsFunc_int_c _ _ a0.2 (ha0_1.mono (sb1_1.trans s_c1)) _ (fun z0 => index_row_1_m z0) (fun H2 h2 z0 => index_row_1_c H2 z0) rfl) ?_
        refine R.not rfl rfl ?_
        refine R.pkTE rfl rfl (by conv => lhs; whnf) ?_
        refine R.asE rfl (by conv => lhs; whnf) ?_
        refine TL.nil (Post.thnN ?_)
        refine T.has Has.nil ?_
        refine T.ret ?_
        have hM : index_row_m a0 = (!(slices_ContainsFunc_int_m a0.2 ((fun z0 => index_row_1_m z0)))) := by rw [index_row_m, hTc1, LR.seq_go, if_t g19, if_pos g25, if_t g30]
        exact fin1L (v := .bool ((!(slices_ContainsFunc_int_m a0.2 ((fun z0 => index_row_1_m z0)))))) [] rfl rfl (List.Sublist.refl _) ⟨rfl, by first | rw [hM] | rfl⟩
      refine TL.off rfl rfl rfl ?_
      refine TL.off rfl rfl rfl ?_
      refine TL.off rfl rfl rfl ?_
      refine TL.off rfl rfl rfl ?_
      refine R.pkFE rfl rfl (by conv => lhs; whnf) ?_
      refine R.asE rfl (by conv => lhs; whnf) ?_
      refine TL.nil (Post.thnN ?_)
      refine T.has Has.nil ?_
      refine T.ret ?_
      have hM : index_row_m a0 = false := by rw [index_row_m, hTc1, LR.seq_go, if_t g19, if_pos g25, if_f g30]
      exact fin1L (v := .bool false) [] rfl rfl (List.Sublist.refl _) ⟨rfl, by first | rw [hM] | rfl⟩
    refine TL.off rfl rfl rfl ?_
    refine TL.off rfl rfl rfl ?_
    refine TL.off rfl rfl rfl ?_
    refine R.pkFE rfl rfl (by conv => lhs; whnf) ?_
    refine R.mvE rfl (by conv => lhs; whnf) ?_
    refine TL.off rfl rfl rfl ?_
    refine TL.off rfl rfl rfl ?_
    refine TL.off rfl rfl rfl ?_
    refine TL.off rfl rfl rfl ?_
    refine R.pkFE rfl rfl (by conv => lhs; whnf) ?_
    refine R.asE rfl (by conv => lhs; whnf) ?_
    refine TL.nil (Post.thnN ?_)
    refine T.has Has.nil ?_
    refine T.ret ?_
    have hM : index_row_m a0 = false := by rw [index_row_m, hTc1, LR.seq_go, if_t g19, if_neg g25]
    exact fin1L (v := .bool false) [] rfl rfl (List.Sublist.refl _) ⟨rfl, by first | rw [hM] | rfl⟩
  refine TL.off rfl rfl rfl ?_
  refine TL.off rfl rfl rfl ?_
  refine TL.off rfl rfl rfl ?_
  refine TL.off rfl rfl rfl ?_
  refine R.pkFE rfl rfl (by conv => lhs; whnf) ?_
  refine R.mvE rfl (by conv => lhs; whnf) ?_
  refine TL.off rfl rfl rfl ?_
  refine TL.off rfl rfl rfl ?_
  refine TL.off rfl rfl rfl ?_
  refine R.pkFE rfl rfl (by conv => lhs; whnf) ?_
  refine R.mvE rfl (by conv => lhs; whnf) ?_
  refine TL.off rfl rfl rfl ?_
  refine TL.off rfl rfl rfl ?_
  refine TL.off rfl rfl rfl ?_
  refine TL.off rfl rfl rfl ?_
  refine R.pkFE rfl rfl (by conv => lhs; whnf) ?_
  refine R.asE rfl (by conv => lhs; whnf) ?_
  refine TL.nil (Post.thnN ?_)
  refine T.has Has.nil ?_
  refine T.ret ?_
  have hM : index_row_m a0 = false := by rw [index_row_m, hTc1, LR.seq_go, if_f g19]
  exact fin1L (v := .bool false) [] rfl rfl (List.Sublist.refl _) ⟨rfl, by first | rw [hM] | rfl⟩
def index_in_l1 (a1 : Int) : List (Int × (List Int)) → ((List Int)) → (List Int)
  | [], sl1 => sl1
  | yl1 :: ysl1, sl1 => if a1 ∈ yl1.2 then (index_in_l1 a1 ysl1 ((sl1 ++ [yl1.1]))) else (index_in_l1 a1 ysl1 sl1)
def index_in_m (a0 : (List (Int × (List Int)))) (a1 : Int) : (List Int) :=
  LR.seq (index_in_l1 a1 a0 []) (fun ol1 => ol1)
set_option maxHeartbeats 3200000 in
theorem index_in_c (H : Heap) (a0 : (List (Int × (List Int)))) (va0_0 : Value) (ha0_0 : RdS listedE H va0_0 a0) (a1 : Int) (hl : (a0).length ≤ 1000) : Fc Try.prog (fnv 83) [.agg #[va0_0], .int .i64 a1] H [] (fun v' H' L' => ∃ u0_0 c0_0, v' = u0_0 ∧ L' = [c0_0] ∧ OwnS (intE .u64) 26 H' u0_0 (index_in_m a0 a1) c0_0) := by
  refine Fc.of_body (N := 26) Try.func83 rfl (by kernel_rfl) rfl rfl ?_
  intro w0
  obtain ⟨Aa0_0, ca0_0, rfl, hca0_0, hda0_0, ha0_0⟩ := ha0_0.shape
  refine T.seq ?_
  refine T.region ?_
  refine R.box rfl (by conv => lhs; whnf) ?_
  intro b2
  refine R.asE rfl (by conv => lhs; whnf) ?_
  refine TL.shut .hd ?_
  intro Hb2_1 sb2_1 qb2_1
  have hb2_1 : Hb2_1 b2 = some (.cells #[.slice Aa0_0 a0.length ca0_0] 46) := shut1 qb2_1
  refine TL.nil (Post.thnN ?_)
  refine T.seq ?_
  refine T.region ?_
  refine R.asE rfl (by conv => lhs; whnf) ?_
  refine TL.nil (Post.thnN ?_)
  refine T.seq ?_
  refine T.seq ?_
  refine T.region ?_
  refine R.fldA Try.underlying46 rfl Try.sizeOf44 (by decide) rfl rfl ?_
  refine R.ldH Try.isAgg44 rfl rfl hb2_1 rfl ?_
  refine R.len Try.underlying44 rfl rfl ?_
  refine R.mvE rfl (by conv => lhs; whnf) ?_
  refine TL.nil (Post.thnN ?_)
  refine T.block ?_
  refine T.loop (ι := Nat × Value × (List Int) × Chunk) (fun ⟨kl1, v5l1, x5l1, c5l1⟩ H' L' ds' => kl1 ≤ a0.length ∧ Has L' [c5l1] ∧ OwnS (intE .u64) 26 H' v5l1 x5l1 c5l1 ∧ x5l1.length ≤ kl1 ∧ index_in_l1 a1 (a0.drop kl1) x5l1 = index_in_l1 a1 a0 []) (fun ⟨kl1, v5l1, x5l1, c5l1⟩ => [(11, .int .i64 (kl1 : Int)), (1, .int .i64 a1), (5, v5l1), (9, .slice Aa0_0 a0.length ca0_0), (10, .int .i64 (a0.length : Int))]) (fun ⟨kl1, v5l1, x5l1, c5l1⟩ => a0.length - kl1) (0, .slice none 0 0, [], []) ?_ ?_ ?_
  · exact ⟨(by omega), (Has.none Has.nil), OwnS.nil, (by first | omega | (simp; done) | (simp; omega) | (simp at *; omega)), (by rfl)⟩
  · exact ⟨rfl, rfl, rfl, rfl, rfl, trivial⟩
  intro ⟨kl1, v5l1, x5l1, c5l1⟩ σ_l1 H_l1 L_l1 ds_l1 s_l1 hI_l1
  obtain ⟨hkl1, hI_l1⟩ := hI_l1
  obtain ⟨hLl1, w5l1, hBl1_0, hQl1⟩ := hI_l1
  obtain ⟨A5l1, p5l1, rfl, m5l1, n5l1_⟩ := OwnS.shape w5l1
  refine T.has hLl1 ?_
  refine T.seq ?_
  refine T.region ?_
  refine R.lss rfl rfl rfl ?_
  refine TL.nil (Post.thnN ?_)
  refine T.seq ?_
  refine T.condD rfl (fun c12 => ?_) (fun c12 => ?_)
  · have hltl1 : kl1 < a0.length := by omega
    obtain ⟨yl1, hyl1⟩ := getk (xs := a0) (k := kl1) (by omega)
    refine T.skip (Post.thnN ?_)
    refine T.seq ?_
    refine T.block ?_
    refine T.seq ?_
    refine T.region ?_
    obtain ⟨b13, o13, i13, k13⟩ := RdS.elem (ha0_0.mono (sb2_1.trans s_l1)) hyl1
    obtain ⟨l13, g13, k13⟩ := k13
    obtain ⟨z13_1, rfl, r13_1⟩ := g13
    obtain ⟨A13_1, p13_1, rfl, m13_1, n13_1, r13_1⟩ := r13_1.shape
    refine R.ixp Try.underlying44 Try.sizeOf55 rfl rfl rfl (by omega) i13 ?_
    refine R.ldK (l := [.int .u64 (yl1.1), .slice A13_1 yl1.2.length p13_1]) Try.isAgg55 Try.sizeOf55 rfl rfl k13 rfl ?_
    refine R.alloc Try.zeroValue55 rfl ?_
    intro b7
    refine R.stX (old := [.int .u64 0, .slice none 0 0]) (l := [.int .u64 (yl1.1), .slice A13_1 yl1.2.length p13_1]) (new := [.int .u64 (yl1.1), .slice A13_1 yl1.2.length p13_1]) (et := 55) Try.sizeOf55 rfl rfl rfl rfl rfl (by show 0 + 2 ≤ 2; decide) rfl (all_one rfl) .hd ?_
    refine TL.shut .hd ?_
    intro Hb7_2 sb7_2 qb7_2
    have hb7_2 : Hb7_2 b7 = some (.cells #[.int .u64 (yl1.1), .slice A13_1 yl1.2.length p13_1] 55) := shut1 qb7_2
    refine TL.nil (Post.thnN ?_)
    refine T.seq ?_
    refine T.region ?_
    refine R.fldA Try.underlying55 rfl Try.sizeOf37 (by decide) rfl rfl ?_
    refine R.ldH Try.isAgg37 rfl rfl hb7_2 rfl ?_
    refine R.mvE rfl (by conv => lhs; whnf) ?_
    refine R.callv rfl rfl rfl (slices_Contains_int_d _ _ yl1.2 (r13_1.mono sb7_2) a1) ?_
    refine TL.nil (Post.thnN ?_)
    refine T.condD rfl (fun c18 => ?_) (fun c18 => ?_)
    · refine T.set 18 (.bool true) (congrArg Value.bool (decide_eq_true c18)) ?_
      refine T.region ?_
      refine R.mvE rfl (by conv => lhs; whnf) ?_
      refine R.fldA Try.underlying55 rfl Try.sizeOf26 (by decide) rfl rfl ?_
      refine R.ldH Try.isAgg26 rfl rfl hb7_2 rfl ?_
      refine R.bs rfl (run_buildSlice1 Try.underlying22 Try.sizeOf26 Try.zeroValue26 rfl rfl) ?_
      intro b22
      have w22 : OwnS (intE .u64) 26 Hb7_2 (.slice (some ⟨b22, 0, none⟩) 1 1) [yl1.1] [(b22, .cells #[.int .u64 (yl1.1)] 26)] := OwnS.lit (xs := [yl1.1]) (cellsOf_cons (a := [.int .u64 (yl1.1)]) rfl cellsOf_nil) (by show 1 ≤ maxLen; decide)
      obtain ⟨k23, y23, r23⟩ := Src.ownA w22
      refine R.app (E := (intE .u64)) (e := 26) (xs := x5l1) (ys := [yl1.1]) Try_ty22 rfl rfl rfl (OwnS.mono w5l1 sb7_2) (.tl .hd) (r23 _ .hd) y23 (by (try simp only [List.length_append, List.length_cons, List.length_nil, List.length_replicate, List.length_take, List.length_drop]); omega) (by (try simp only [List.length_append, List.length_cons, List.length_nil, List.length_replicate, List.length_take, List.length_drop]); omega) ?_
      intro v23 c23 w23
      obtain ⟨A23, p23, rfl, m23, n23⟩ := OwnS.shape w23
      refine TL.del (.tl .hd) ?_
      refine R.asE rfl (by conv => lhs; whnf) ?_
      refine TL.nil (Post.blkN ?_)
      refine id (Post.thnN ?_)
      refine T.region ?_
      refine R.addI rfl rfl rfl (by omega) ?_
      refine R.mvE rfl (by conv => lhs; whnf) ?_
      refine TL.nil (Post.thnN ?_)
      exact ⟨(kl1 + 1, .slice A23 (x5l1 ++ [yl1.1]).length p23, (x5l1 ++ [yl1.1]), c23), (s_l1.trans sb7_2), ⟨(by omega), (Has.cons .hd Has.nil), w23, (by first | omega | (simp; done) | (simp; omega) | (simp at *; omega)), (by rw [← hQl1, drop_cons hyl1, index_in_l1]; rw [if_pos c18])⟩, by show a0.length - (kl1 + 1) < a0.length - kl1; omega, rfl, rfl, rfl, rfl, rfl, trivial⟩
    refine T.set 18 (.bool false) (congrArg Value.bool (decide_eq_false c18)) ?_
    refine T.skip (Post.blkN ?_)
    refine id (Post.thnN ?_)
    refine T.region ?_
    refine R.addI rfl rfl rfl (by omega) ?_
    refine R.mvE rfl (by conv => lhs; whnf) ?_
    refine TL.nil (Post.thnN ?_)
    exact ⟨(kl1 + 1, .slice A5l1 x5l1.length p5l1, x5l1, c5l1), (s_l1.trans sb7_2), ⟨(by omega), (Has.cons .hd Has.nil), (OwnS.mono w5l1 sb7_2), (by first | omega | (simp; done) | (simp; omega) | (simp at *; omega)), (by rw [← hQl1, drop_cons hyl1, index_in_l1]; rw [if_neg c18])⟩, by show a0.length - (kl1 + 1) < a0.length - kl1; omega, rfl, rfl, rfl, rfl, rfl, trivial⟩
  refine T.exit (Post.thnE (Post.thnE (Post.blkX ?_)))
  have hEl1 : index_in_l1 a1 a0 [] = x5l1 := (hQl1.symm.trans (by rw [show kl1 = a0.length by omega, List.drop_length, index_in_l1]))
  refine id (Post.thnN ?_)
  refine T.seq ?_
  refine T.region ?_
  refine R.mvE rfl (by conv => lhs; whnf) ?_
  refine R.asE rfl (by conv => lhs; whnf) ?_
  refine TL.nil (Post.thnN ?_)
  refine T.has (Has.cons .hd Has.nil) ?_
  refine T.ret ?_
  have hM : index_in_m a0 a1 = x5l1 := by rw [index_in_m, hEl1, LR.seq_go]
  exact fin1L (v := .slice A5l1 x5l1.length p5l1) [c5l1] rfl rfl (List.Sublist.refl _) ⟨.slice A5l1 x5l1.length p5l1, c5l1, by first | rw [hM] | rfl, rfl, by rw [hM]; exact w5l1⟩
theorem in_l1 (n : Int) : ∀ (l : List (Int × List Int)) (a : List Int), index_in_l1 n l a = a ++ (l.filter (fun r => decide (n ∈ r.2))).map (fun r => r.1)
  | [], a => by simp [index_in_l1]
  | y :: ys, a => by
    rw [index_in_l1, List.filter_cons]
    by_cases h : n ∈ y.2
    · rw [if_pos h, in_l1 n ys, if_pos (by simpa using h)]; simp
    · rw [if_neg h, in_l1 n ys, if_neg (by simpa using h)]
theorem in_m (a : List (Int × List Int)) (n : Int) : index_in_m a n = (a.filter (fun r => decide (n ∈ r.2))).map (fun r => r.1) := by
  unfold index_in_m; rw [LR.seq_go, in_l1, List.nil_append]
theorem in_len (a : List (Int × List Int)) (n : Int) (r : List Int) (e : r = index_in_m a n) : r.length ≤ a.length := by
  rw [e, in_m, List.length_map]; exact List.length_filter_le _ _
def index_bare_1_m (a0 : Int) : Bool :=
  (decide (((kindG a0) : Int) = 4))
set_option maxHeartbeats 3200000 in
theorem index_bare_1_c (H : Heap) (a0 : Int) : Fv Try.prog (fnv 129) [.int .u64 a0] H (.bool (index_bare_1_m a0)) := by
  refine Fc.of_body (N := 6) Try.func129 rfl (by kernel_rfl) rfl rfl ?_
  intro w0
  refine T.seq ?_
  refine T.region ?_
  refine R.asE rfl (by conv => lhs; whnf) ?_
  refine TL.nil (Post.thnN ?_)
  refine T.seq ?_
  refine T.region ?_
  refine R.mvE rfl (by conv => lhs; whnf) ?_
  refine R.callv rfl rfl rfl (kindG_c _ a0) ?_
  refine R.eql rfl rfl rfl ?_
  refine R.asE rfl (by conv => lhs; whnf) ?_
  refine TL.nil (Post.thnN ?_)
  refine T.has Has.nil ?_
  refine T.ret ?_
  have hM : index_bare_1_m a0 = (decide (((kindG a0) : Int) = 4)) := by rw [index_bare_1_m]
  exact fin1L (v := .bool (decide (((kindG a0) : Int) = 4))) [] rfl rfl (List.Sublist.refl _) ⟨rfl, by first | rw [hM] | rfl⟩
def index_bare_m (a0 : List Int) : (List Int) :=
  LR.seq (slices_DeleteFunc_Id_m a0 ((fun z0 => index_bare_1_m z0))) (fun r5 => r5)
set_option maxHeartbeats 3200000 in
theorem index_bare_c (H : Heap) (va0 : Value) (a0 : List Int) (ha0 : RdS (intE .u64) H va0 a0) (hl : a0.length ≤ 2000000) : Fc Try.prog (fnv 82) [va0] H [] (fun v' H' L' => ∃ u0_0 c0_0, v' = u0_0 ∧ L' = [c0_0] ∧ OwnS (intE .u64) 26 H' u0_0 (index_bare_m a0) c0_0) := by
  refine Fc.of_body (N := 6) Try.func82 rfl (by kernel_rfl) rfl rfl ?_
  intro w0
  obtain ⟨Aa0, ca0, rfl, hca0, hda0, ha0⟩ := ha0.shape
  refine T.seq ?_
  refine T.region ?_
  refine R.asE rfl (by conv => lhs; whnf) ?_
  refine TL.nil (Post.thnN ?_)
  refine T.seq ?_
  refine T.region ?_
  refine R.mvE rfl (by conv => lhs; whnf) ?_
  refine TL.call [] rfl rfl rfl (clone22_c _ _ a0 ha0 (by first | omega | (simp; done) | (simp; omega) | (simp at *; omega))) ?_
  intro v4 H4 L4 s4 q4
  obtain ⟨c4, rfl, w4⟩ := q4
  obtain ⟨x4, e4⟩ : ∃ x, x = a0 := ⟨_, rfl⟩
  rw [← e4] at w4
  obtain ⟨A4, p4, rfl, m4, n4⟩ := OwnS.shape w4
  have t4 : x4.length = a0.length := by rw [e4]
  refine TL.has (Has.cons .hd Has.nil) ?_
  obtain ⟨r5, er5⟩ : ∃ r, r = (slices_DeleteFunc_Id_m x4 ((fun z0 => index_bare_1_m z0))) := ⟨_, rfl⟩
  refine TL.call [true] rfl rfl rfl (slices_DeleteFunc_Id_c _ _ x4 _ w4 _ (fun z0 => index_bare_1_m z0) (fun H2 h2 z0 => index_bare_1_c H2 z0) rfl (by first | omega | (simp; done) | (simp; omega) | (simp at *; omega))) ?_
  intro v5 H5 L5 s5 q5
  rw [← er5] at q5
  obtain ⟨u5_0_0, c5_0_0, rfl, rfl, w5_0_0⟩ := q5
  obtain ⟨A5_0_0, p5_0_0, rfl, m5_0_0, n5_0_0⟩ := OwnS.shape w5_0_0
  have td5 := delf_Id_len _ _ _ er5
  refine R.asE rfl (by conv => lhs; whnf) ?_
  refine TL.nil (Post.thnN ?_)
  refine T.has (Has.cons .hd Has.nil) ?_
  refine T.ret ?_
  have hM : index_bare_m a0 = r5 := by subst er5; subst e4; rw [index_bare_m, LR.seq_go]
  exact fin1L (v := .slice A5_0_0 r5.length p5_0_0) [c5_0_0] rfl rfl (List.Sublist.refl _) ⟨.slice A5_0_0 r5.length p5_0_0, c5_0_0, by first | rw [hM] | rfl, rfl, by rw [hM]; exact w5_0_0⟩
def slices_EqualFunc_Listed_l1 (a1 : List (Int × (List Int))) (a2 : (Int × (List Int)) → (Int × (List Int)) → Bool) : List (Int × (List Int)) → Nat → Unit → LR (Bool) (Unit)
  | [], kl1, sl1 => .go ()
  | yl1 :: ysl1, kl1, sl1 => if (!(a2 yl1 (a1.getD kl1 (((0, []) : Int × (List Int)) : Int × (List Int))))) = true then (.ret false) else (slices_EqualFunc_Listed_l1 a1 a2 ysl1 (kl1 + 1) ())
def slices_EqualFunc_Listed_m (a0 : List (Int × (List Int))) (a1 : List (Int × (List Int))) (a2 : (Int × (List Int)) → (Int × (List Int)) → Bool) : Bool :=
  if (a0.length : Int) ≠ (a1.length : Int) then false else (LR.on (slices_EqualFunc_Listed_l1 a1 a2 a0 0 ()) (fun r => r) (fun ol1 => true))
def index_Same_1_m (a0 : Int × (List Int)) (a1 : Int × (List Int)) : Bool :=
  if a0.1 = a1.1 then ((decide (a0.2 = a1.2))) else false
def index_Same_m (a0 : (List (Int × (List Int)))) (a1 : (List (Int × (List Int)))) : Bool :=
  LR.seq (slices_EqualFunc_Listed_m a0 a1 ((fun z0 z1 => index_Same_1_m z0 z1))) (fun r9 => r9)
def index_rises_Listed_l1 (a0 : List (Int × (List Int))) (a1 : (Int × (List Int)) → (Int × (List Int)) → Int) : Nat → Int → LR (Bool) (Int)
  | 0, _ => .go default
  | ml1 + 1, sl1 => if sl1 < (a0.length : Int) then (if (0 : Int) ≤ (a1 (a0.getD (((sl1 - 1)).toNat) (((0, []) : Int × (List Int)) : Int × (List Int))) (a0.getD sl1.toNat (((0, []) : Int × (List Int)) : Int × (List Int)))) then (.ret false) else (index_rises_Listed_l1 a0 a1 ml1 ((sl1 + 1)))) else (.go sl1)
def index_rises_Listed_m (a0 : List (Int × (List Int))) (a1 : (Int × (List Int)) → (Int × (List Int)) → Int) : Bool :=
  LR.on (index_rises_Listed_l1 a0 a1 (((a0.length : Int) - 1).toNat + 1) 1) (fun r => r) (fun ol1 => true)
set_option maxHeartbeats 3200000 in
theorem index_rises_Listed_c (H : Heap) (va0 : Value) (a0 : List (Int × (List Int))) (ha0 : RdS listedE H va0 a0) (fa1 : Value) (a1 : (Int × (List Int)) → (Int × (List Int)) → Int) (ha1 : ∀ H', HLe H H' → ∀ (z0 : Int × (List Int)) (vz0_1 : Value) (hz0_1 : RdS (intE .i64) H' vz0_1 z0.2) (z1 : Int × (List Int)) (vz1_1 : Value) (hz1_1 : RdS (intE .i64) H' vz1_1 z1.2), Fv Try.prog fa1 [.agg #[.int .u64 z0.1, vz0_1], .agg #[.int .u64 z1.1, vz1_1]] H' (.int .i64 (a1 z0 z1))) (na1 : fa1.oneCell' = true) (hl : a0.length ≤ 2000000) : Fv Try.prog (fnv 85) [va0, fa1] H (.bool (index_rises_Listed_m a0 a1)) := by
  refine Fc.of_body (N := 24) Try.func85 rfl (by kernel_rfl) rfl rfl ?_
  intro w0
  obtain ⟨Aa0, ca0, rfl, hca0, hda0, ha0⟩ := ha0.shape
  refine T.seq ?_
  refine T.region ?_
  refine R.asE rfl (by conv => lhs; whnf) ?_
  refine TL.nil (Post.thnN ?_)
  refine T.seq ?_
  refine T.seq ?_
  refine T.region ?_
  refine R.asE rfl (by conv => lhs; whnf) ?_
  refine TL.nil (Post.thnN ?_)
  refine T.block ?_
  refine T.loop (ι := Nat × Int) (fun ⟨kl1, n5l1⟩ H' L' ds' => ((a0.length : Int) - n5l1).toNat < kl1 ∧ Has L' [] ∧ 1 ≤ n5l1 ∧ index_rises_Listed_l1 a0 a1 kl1 n5l1 = index_rises_Listed_l1 a0 a1 (((a0.length : Int) - 1).toNat + 1) 1) (fun ⟨kl1, n5l1⟩ => [(0, .slice Aa0 a0.length ca0), (1, fa1), (5, .int .i64 n5l1)]) (fun ⟨kl1, n5l1⟩ => kl1) ((((a0.length : Int) - 1).toNat + 1), 1) ?_ ?_ ?_
  · exact ⟨(by omega), Has.nil, (by first | omega | (simp; done) | (simp; omega) | (simp at *; omega)), (by rfl)⟩
  · exact ⟨rfl, rfl, rfl, trivial⟩
  intro ⟨kl1, n5l1⟩ σ_l1 H_l1 L_l1 ds_l1 s_l1 hI_l1
  obtain ⟨hkl1, hI_l1⟩ := hI_l1
  obtain ⟨ml1, rfl⟩ : ∃ m, kl1 = m + 1 := ⟨kl1 - 1, by omega⟩
  obtain ⟨hLl1, hBl1_0, hQl1⟩ := hI_l1
  refine T.has hLl1 ?_
  refine T.seq ?_
  refine T.seq ?_
  refine T.region ?_
  refine R.mvE rfl (by conv => lhs; whnf) ?_
  refine R.mvE rfl (by conv => lhs; whnf) ?_
  refine R.len Try.underlying44 rfl rfl ?_
  refine R.lss rfl rfl rfl ?_
  refine TL.nil (Post.thnN ?_)
  refine T.condD rfl (fun c9 => ?_) (fun c9 => ?_)
  · refine T.set 9 (.bool true) (congrArg Value.bool (decide_eq_true c9)) ?_
    refine T.skip (Post.thnN ?_)
    refine T.seq ?_
    refine T.block ?_
    refine T.seq ?_
    refine T.draw Try_mixed (by kernel_rfl) ?_
    refine Plan.v 0 [1, 2, 3, 4, 5, 6, 7, 8, 9, 10, 11] (by kernel_rfl) (by kernel_rfl) (by kernel_rfl) (by kernel_rfl) rfl (fun _ _ h_ => R.mvE rfl (by conv => lhs; whnf) (TL.nil h_)) ?_
    refine Plan.v 1 [2, 3, 4, 5, 6, 7, 8, 9, 10, 11] (by kernel_rfl) (by kernel_rfl) (by kernel_rfl) (by kernel_rfl) rfl (fun _ _ h_ => R.mvE rfl (by conv => lhs; whnf) (TL.nil h_)) ?_
    refine Plan.v 2 [3, 4, 5, 6, 7, 8, 9, 10, 11] (by kernel_rfl) (by kernel_rfl) (by kernel_rfl) (by kernel_rfl) rfl (fun _ _ h_ => R.mvE rfl (by conv => lhs; whnf) (TL.nil h_)) ?_
    refine Plan.v 3 [4, 5, 6, 7, 8, 9, 10, 11] (by kernel_rfl) (by kernel_rfl) (by kernel_rfl) (by kernel_rfl) rfl (fun _ _ h_ => R.subI rfl rfl rfl (by omega) (TL.nil h_)) ?_
    have hl16 : ((n5l1 - 1)).toNat < a0.length := by first | omega | (simp; done) | (simp; omega) | (simp at *; omega)
    obtain ⟨y16, e16, h16⟩ : ∃ y, y = (a0.getD (((n5l1 - 1)).toNat) (((0, []) : Int × (List Int)) : Int × (List Int))) ∧ a0[((n5l1 - 1)).toNat]? = some y := ⟨_, rfl, getD_get (by first | exact hl16 | simpa using hl16 | (simp only [List.length_set]; omega) | omega | (rw [(sortI_perm _).length_eq]; exact hl16))⟩
    obtain ⟨b16, o16, i16, k16⟩ := RdS.elem (ha0.mono s_l1) h16
    obtain ⟨l16, g16, k16⟩ := k16
    obtain ⟨z16_1, rfl, r16_1⟩ := g16
    obtain ⟨A16_1, p16_1, rfl, m16_1, n16_1, r16_1⟩ := r16_1.shape
    refine Plan.v 4 [5, 6, 7, 8, 9, 10, 11] (by kernel_rfl) (by kernel_rfl) (by kernel_rfl) (by kernel_rfl) rfl (fun _ _ h_ => R.ixp Try.underlying44 Try.sizeOf55 rfl rfl rfl (by first | omega | (simp; done) | (simp; omega) | (simp at *; omega)) i16 (TL.nil h_)) ?_
    refine Plan.v 5 [6, 7, 8, 9, 10, 11] (by kernel_rfl) (by kernel_rfl) (by kernel_rfl) (by kernel_rfl) rfl (fun _ _ h_ => R.ldK (l := [.int .u64 (y16.1), .slice A16_1 y16.2.length p16_1]) Try.isAgg55 Try.sizeOf55 rfl rfl k16 rfl (TL.nil h_)) ?_
    refine Plan.v 6 [7, 8, 9, 10, 11] (by kernel_rfl) (by kernel_rfl) (by kernel_rfl) (by kernel_rfl) rfl (fun _ _ h_ => R.mvE rfl (by conv => lhs; whnf) (TL.nil h_)) ?_
    refine Plan.v 7 [8, 9, 10, 11] (by kernel_rfl) (by kernel_rfl) (by kernel_rfl) (by kernel_rfl) rfl (fun _ _ h_ => R.mvE rfl (by conv => lhs; whnf) (TL.nil h_)) ?_
    have hl20 : n5l1.toNat < a0.length := by first | omega | (simp; done) | (simp; omega) | (simp at *; omega)
    obtain ⟨y20, e20, h20⟩ : ∃ y, y = (a0.getD n5l1.toNat (((0, []) : Int × (List Int)) : Int × (List Int))) ∧ a0[n5l1.toNat]? = some y := ⟨_, rfl, getD_get (by first | exact hl20 | simpa using hl20 | (simp only [List.length_set]; omega) | omega | (rw [(sortI_perm _).length_eq]; exact hl20))⟩
    obtain ⟨b20, o20, i20, k20⟩ := RdS.elem (ha0.mono s_l1) h20
    obtain ⟨l20, g20, k20⟩ := k20
    obtain ⟨z20_1, rfl, r20_1⟩ := g20
    obtain ⟨A20_1, p20_1, rfl, m20_1, n20_1, r20_1⟩ := r20_1.shape
    refine Plan.v 8 [9, 10, 11] (by kernel_rfl) (by kernel_rfl) (by kernel_rfl) (by kernel_rfl) rfl (fun _ _ h_ => R.ixp Try.underlying44 Try.sizeOf55 rfl rfl rfl (by first | omega | (simp; done) | (simp; omega) | (simp at *; omega)) i20 (TL.nil h_)) ?_
    refine Plan.v 9 [10, 11] (by kernel_rfl) (by kernel_rfl) (by kernel_rfl) (by kernel_rfl) rfl (fun _ _ h_ => R.ldK (l := [.int .u64 (y20.1), .slice A20_1 y20.2.length p20_1]) Try.isAgg55 Try.sizeOf55 rfl rfl k20 rfl (TL.nil h_)) ?_
    refine Plan.v 10 [11] (by kernel_rfl) (by kernel_rfl) (by kernel_rfl) (by kernel_rfl) rfl (fun _ _ h_ => R.callv rfl rfl rfl (ha1 _ s_l1 y16 _ r16_1 y20 _ r20_1) (TL.nil h_)) ?_
    refine Plan.v 11 [] (by kernel_rfl) (by kernel_rfl) (by kernel_rfl) (by kernel_rfl) rfl (fun _ _ h_ => R.geq rfl rfl rfl (TL.nil h_)) ?_
    refine Plan.done (Post.thnN ?_)
    refine T.condD rfl (fun c23 => ?_) (fun c23 => ?_)
    · refine T.set 23 (.bool true) (congrArg Value.bool (decide_eq_true c23)) ?_
      refine T.seq ?_
      refine T.region ?_
      refine R.asE rfl (by conv => lhs; whnf) ?_
      refine TL.nil (Post.thnN ?_)
      refine T.has Has.nil ?_
      refine T.ret (Post.blkR (Post.thnR (Post.thnR (Post.blkR (Post.thnR ?_)))))
      have hXl1 : index_rises_Listed_l1 a0 a1 (((a0.length : Int) - 1).toNat + 1) 1 = .ret false := by subst e20; subst e16; rw [← hQl1, index_rises_Listed_l1]; rw [if_pos c9, if_pos c23]
      have hM : index_rises_Listed_m a0 a1 = false := by rw [index_rises_Listed_m, hXl1, LR.on_ret]
      exact fin1L (v := .bool false) [] rfl rfl (List.Sublist.refl _) ⟨rfl, by first | rw [hM] | rfl⟩
    refine T.set 23 (.bool false) (congrArg Value.bool (decide_eq_false c23)) ?_
    refine T.skip (Post.blkN ?_)
    refine id (Post.thnN ?_)
    refine T.region ?_
    refine R.mvE rfl (by conv => lhs; whnf) ?_
    refine R.addI rfl rfl rfl (by omega) ?_
    refine R.asE rfl (by conv => lhs; whnf) ?_
    refine TL.nil (Post.thnN ?_)
    exact ⟨(ml1, (n5l1 + 1)), s_l1, ⟨(by first | omega | (simp; omega) | (simp at *; omega)), Has.nil, (by first | omega | (simp; done) | (simp; omega) | (simp at *; omega)), (by subst e20; subst e16; rw [← hQl1, index_rises_Listed_l1]; rw [if_pos c9, if_neg c23])⟩, by show ml1 < ml1 + 1; omega, rfl, rfl, rfl, trivial⟩
  refine T.set 9 (.bool false) (congrArg Value.bool (decide_eq_false c9)) ?_
  refine T.exit (Post.thnE (Post.thnE (Post.blkX ?_)))
  have hEl1 : index_rises_Listed_l1 a0 a1 (((a0.length : Int) - 1).toNat + 1) 1 = .go n5l1 := (by rw [← hQl1, index_rises_Listed_l1]; rw [if_neg c9])
  refine id (Post.thnN ?_)
  refine T.seq ?_
  refine T.region ?_
  refine R.asE rfl (by conv => lhs; whnf) ?_
  refine TL.nil (Post.thnN ?_)
  refine T.has Has.nil ?_
  refine T.ret ?_
  have hM : index_rises_Listed_m a0 a1 = true := by rw [index_rises_Listed_m, hEl1, LR.on_go]
  exact fin1L (v := .bool true) [] rfl rfl (List.Sublist.refl _) ⟨rfl, by first | rw [hM] | rfl⟩
def slices_BinarySearchFunc_Listed_l1 (a0 : List (Int × (List Int))) (a1 : Int × (List Int)) (a2 : (Int × (List Int)) → (Int × (List Int)) → Int) : Nat → (Int × Int) → Int × Int
  | 0, _ => default
  | ml1 + 1, sl1 => if sl1.1 < sl1.2 then (if ((a2 (a0.getD (((IntKind.i64.wrap (bshr .u64 (IntKind.u64.wrap (sl1.1 + sl1.2)) 1))).toNat) (((0, []) : Int × (List Int)) : Int × (List Int))) a1) : Int) < 0 then (slices_BinarySearchFunc_Listed_l1 a0 a1 a2 ml1 ((((IntKind.i64.wrap (bshr .u64 (IntKind.u64.wrap (sl1.1 + sl1.2)) 1)) + 1), sl1.2))) else (slices_BinarySearchFunc_Listed_l1 a0 a1 a2 ml1 ((sl1.1, (IntKind.i64.wrap (bshr .u64 (IntKind.u64.wrap (sl1.1 + sl1.2)) 1)))))) else ((sl1.1, sl1.2))
def slices_BinarySearchFunc_Listed_m (a0 : List (Int × (List Int))) (a1 : Int × (List Int)) (a2 : (Int × (List Int)) → (Int × (List Int)) → Int) : Int × Bool :=
  LR.seq (slices_BinarySearchFunc_Listed_l1 a0 a1 a2 ((((a0.length : Int)) - 0).toNat + 1) ((0, (a0.length : Int)))) (fun ol1 => if ol1.1 < (a0.length : Int) then ((ol1.1, (decide (((a2 (a0.getD ol1.1.toNat (((0, []) : Int × (List Int)) : Int × (List Int))) a1) : Int) = 0)))) else ((ol1.1, false)))
set_option maxHeartbeats 3200000 in
theorem slices_BinarySearchFunc_Listed_c (H : Heap) (va0 : Value) (a0 : List (Int × (List Int))) (ha0 : RdS listedE H va0 a0) (a1 : Int × (List Int)) (va1_1 : Value) (ha1_1 : RdS (intE .i64) H va1_1 a1.2) (fa2 : Value) (a2 : (Int × (List Int)) → (Int × (List Int)) → Int) (ha2 : ∀ H', HLe H H' → ∀ (z0 : Int × (List Int)) (vz0_1 : Value) (hz0_1 : RdS (intE .i64) H' vz0_1 z0.2) (z1 : Int × (List Int)) (vz1_1 : Value) (hz1_1 : RdS (intE .i64) H' vz1_1 z1.2), Fv Try.prog fa2 [.agg #[.int .u64 z0.1, vz0_1], .agg #[.int .u64 z1.1, vz1_1]] H' (.int .i64 (a2 z0 z1))) (na2 : fa2.oneCell' = true) (hl : a0.length ≤ 2000000) : Fv Try.prog (fnv 78) [va0, .agg #[.int .u64 a1.1, va1_1], fa2] H (.tuple #[.int .i64 (slices_BinarySearchFunc_Listed_m a0 a1 a2).1, .bool (slices_BinarySearchFunc_Listed_m a0 a1 a2).2]) := by
  refine Fc.of_body (N := 49) Try.func78 rfl (by kernel_rfl) rfl rfl ?_
  intro w0
  obtain ⟨Aa0, ca0, rfl, hca0, hda0, ha0⟩ := ha0.shape
  obtain ⟨Aa1_1, ca1_1, rfl, hca1_1, hda1_1, ha1_1⟩ := ha1_1.shape
  refine T.seq ?_
  refine T.region ?_
  refine R.box rfl (by conv => lhs; whnf) ?_
  intro b4
  refine R.asE rfl (by conv => lhs; whnf) ?_
  refine R.asE rfl (by conv => lhs; whnf) ?_
  refine TL.shut .hd ?_
  intro Hb4_1 sb4_1 qb4_1
  have hb4_1 : Hb4_1 b4 = some (.cells #[.int .u64 (a1.1), .slice Aa1_1 a1.2.length ca1_1] 55) := shut1 qb4_1
  refine TL.nil (Post.thnN ?_)
  refine T.seq ?_
  refine T.region ?_
  refine R.mvE rfl (by conv => lhs; whnf) ?_
  refine R.len Try.underlying44 rfl rfl ?_
  refine R.asE rfl (by conv => lhs; whnf) ?_
  refine TL.nil (Post.thnN ?_)
  refine T.seq ?_
  refine T.region ?_
  refine R.mvE rfl (by conv => lhs; whnf) ?_
  refine R.asE rfl (by conv => lhs; whnf) ?_
  refine R.asE rfl (by conv => lhs; whnf) ?_
  refine TL.nil (Post.thnN ?_)
  refine T.seq ?_
  refine T.block ?_
  refine T.loop (ι := Nat × Int × Int) (fun ⟨kl1, n9l1, n10l1⟩ H' L' ds' => (n10l1 - n9l1).toNat < kl1 ∧ Has L' [] ∧ 0 ≤ n9l1 ∧ n9l1 ≤ n10l1 ∧ n10l1 ≤ (a0.length : Int) ∧ slices_BinarySearchFunc_Listed_l1 a0 a1 a2 kl1 ((n9l1, n10l1)) = slices_BinarySearchFunc_Listed_l1 a0 a1 a2 ((((a0.length : Int)) - 0).toNat + 1) ((0, (a0.length : Int)))) (fun ⟨kl1, n9l1, n10l1⟩ => [(0, .slice Aa0 a0.length ca0), (2, fa2), (4, .pointer (some ⟨b4, 0, none⟩)), (8, .int .i64 (a0.length : Int)), (9, .int .i64 n9l1), (10, .int .i64 n10l1)]) (fun ⟨kl1, n9l1, n10l1⟩ => kl1) (((((a0.length : Int)) - 0).toNat + 1), 0, (a0.length : Int)) ?_ ?_ ?_
  · exact ⟨(by omega), Has.nil, (by first | omega | (simp; done) | (simp; omega) | (simp at *; omega)), (by first | omega | (simp; done) | (simp; omega) | (simp at *; omega)), (by first | omega | (simp; done) | (simp; omega) | (simp at *; omega)), (by rfl)⟩
  · exact ⟨rfl, rfl, rfl, rfl, rfl, rfl, trivial⟩
  intro ⟨kl1, n9l1, n10l1⟩ σ_l1 H_l1 L_l1 ds_l1 s_l1 hI_l1
  obtain ⟨hkl1, hI_l1⟩ := hI_l1
  obtain ⟨ml1, rfl⟩ : ∃ m, kl1 = m + 1 := ⟨kl1 - 1, by omega⟩
  obtain ⟨hLl1, hBl1_0, hBl1_1, hBl1_2, hQl1⟩ := hI_l1
  refine T.has hLl1 ?_
  refine T.seq ?_
  refine T.seq ?_
  refine T.region ?_
  refine R.mvE rfl (by conv => lhs; whnf) ?_
  refine R.mvE rfl (by conv => lhs; whnf) ?_
  refine R.lss rfl rfl rfl ?_
  refine TL.nil (Post.thnN ?_)
  refine T.condD rfl (fun c17 => ?_) (fun c17 => ?_)
  · refine T.set 17 (.bool true) (congrArg Value.bool (decide_eq_true c17)) ?_
    refine T.skip (Post.thnN ?_)
    refine T.block ?_
    refine T.seq ?_
    refine T.region ?_
    refine R.mvE rfl (by conv => lhs; whnf) ?_
    refine R.mvE rfl (by conv => lhs; whnf) ?_
    refine R.addI rfl rfl rfl (by omega) ?_
    refine R.conv Try.underlying3 Try.underlying88 rfl rfl ?_
    refine R.shr rfl rfl rfl (by omega) ?_
    refine R.conv Try.underlying88 Try.underlying3 rfl rfl ?_
    refine R.asE rfl (by conv => lhs; whnf) ?_
    refine TL.nil (Post.thnN ?_)
    refine T.seq ?_
    have hmid := midI (i := n9l1) (j := n10l1) (by omega) (by omega) (by omega)
    refine T.draw Try_mixed (by kernel_rfl) ?_
    refine Plan.v 0 [1, 2, 3, 4, 5, 6, 7] (by kernel_rfl) (by kernel_rfl) (by kernel_rfl) (by kernel_rfl) rfl (fun _ _ h_ => R.mvE rfl (by conv => lhs; whnf) (TL.nil h_)) ?_
    refine Plan.v 1 [2, 3, 4, 5, 6, 7] (by kernel_rfl) (by kernel_rfl) (by kernel_rfl) (by kernel_rfl) rfl (fun _ _ h_ => R.mvE rfl (by conv => lhs; whnf) (TL.nil h_)) ?_
    refine Plan.v 2 [3, 4, 5, 6, 7] (by kernel_rfl) (by kernel_rfl) (by kernel_rfl) (by kernel_rfl) rfl (fun _ _ h_ => R.mvE rfl (by conv => lhs; whnf) (TL.nil h_)) ?_
    have hl27 : ((IntKind.i64.wrap (bshr .u64 (IntKind.u64.wrap (n9l1 + n10l1)) 1))).toNat < a0.length := by first | omega | (simp; done) | (simp; omega) | (simp at *; omega)
    obtain ⟨y27, e27, h27⟩ : ∃ y, y = (a0.getD (((IntKind.i64.wrap (bshr .u64 (IntKind.u64.wrap (n9l1 + n10l1)) 1))).toNat) (((0, []) : Int × (List Int)) : Int × (List Int))) ∧ a0[((IntKind.i64.wrap (bshr .u64 (IntKind.u64.wrap (n9l1 + n10l1)) 1))).toNat]? = some y := ⟨_, rfl, getD_get (by first | exact hl27 | simpa using hl27 | (simp only [List.length_set]; omega) | omega | (rw [(sortI_perm _).length_eq]; exact hl27))⟩
    obtain ⟨b27, o27, i27, k27⟩ := RdS.elem (ha0.mono (sb4_1.trans s_l1)) h27
    obtain ⟨l27, g27, k27⟩ := k27
    obtain ⟨z27_1, rfl, r27_1⟩ := g27
    obtain ⟨A27_1, p27_1, rfl, m27_1, n27_1, r27_1⟩ := r27_1.shape
    refine Plan.v 3 [4, 5, 6, 7] (by kernel_rfl) (by kernel_rfl) (by kernel_rfl) (by kernel_rfl) rfl (fun _ _ h_ => R.ixp Try.underlying44 Try.sizeOf55 rfl rfl rfl (by first | omega | (simp; done) | (simp; omega) | (simp at *; omega)) i27 (TL.nil h_)) ?_
    refine Plan.v 4 [5, 6, 7] (by kernel_rfl) (by kernel_rfl) (by kernel_rfl) (by kernel_rfl) rfl (fun _ _ h_ => R.ldK (l := [.int .u64 (y27.1), .slice A27_1 y27.2.length p27_1]) Try.isAgg55 Try.sizeOf55 rfl rfl k27 rfl (TL.nil h_)) ?_
    refine Plan.v 5 [6, 7] (by kernel_rfl) (by kernel_rfl) (by kernel_rfl) (by kernel_rfl) rfl (fun _ _ h_ => R.ldXH (cs := [.int .u64 (a1.1), .slice Aa1_1 a1.2.length ca1_1]) (l := [.int .u64 (a1.1), .slice Aa1_1 a1.2.length ca1_1]) Try.isAgg55 Try.sizeOf55 rfl rfl (s_l1 _ _ hb4_1) rfl rfl (TL.nil h_)) ?_
    refine Plan.v 6 [7] (by kernel_rfl) (by kernel_rfl) (by kernel_rfl) (by kernel_rfl) rfl (fun _ _ h_ => R.callv rfl rfl rfl (ha2 _ (sb4_1.trans s_l1) y27 _ r27_1 a1 _ (ha1_1.mono (sb4_1.trans s_l1))) (TL.nil h_)) ?_
    refine Plan.v 7 [] (by kernel_rfl) (by kernel_rfl) (by kernel_rfl) (by kernel_rfl) rfl (fun _ _ h_ => R.lss rfl rfl rfl (TL.nil h_)) ?_
    refine Plan.done (Post.thnN ?_)
    refine T.condD rfl (fun c31 => ?_) (fun c31 => ?_)
    · refine T.set 31 (.bool true) (congrArg Value.bool (decide_eq_true c31)) ?_
      refine T.region ?_
      refine R.mvE rfl (by conv => lhs; whnf) ?_
      refine R.addI rfl rfl rfl (by omega) ?_
      refine R.asE rfl (by conv => lhs; whnf) ?_
      refine TL.nil (Post.blkN ?_)
      refine id (Post.thnN ?_)
      exact ⟨(ml1, ((IntKind.i64.wrap (bshr .u64 (IntKind.u64.wrap (n9l1 + n10l1)) 1)) + 1), n10l1), s_l1, ⟨(by first | omega | (simp; omega) | (simp at *; omega)), Has.nil, (by first | omega | (simp; done) | (simp; omega) | (simp at *; omega)), (by first | omega | (simp; done) | (simp; omega) | (simp at *; omega)), (by first | omega | (simp; done) | (simp; omega) | (simp at *; omega)), (by subst e27; rw [← hQl1, slices_BinarySearchFunc_Listed_l1]; rw [if_pos c17, if_pos c31])⟩, by show ml1 < ml1 + 1; omega, rfl, rfl, rfl, rfl, rfl, rfl, trivial⟩
    refine T.set 31 (.bool false) (congrArg Value.bool (decide_eq_false c31)) ?_
    refine T.region ?_
    refine R.mvE rfl (by conv => lhs; whnf) ?_
    refine R.asE rfl (by conv => lhs; whnf) ?_
    refine TL.nil (Post.blkN ?_)
    refine id (Post.thnN ?_)
    exact ⟨(ml1, n9l1, (IntKind.i64.wrap (bshr .u64 (IntKind.u64.wrap (n9l1 + n10l1)) 1))), s_l1, ⟨(by first | omega | (simp; omega) | (simp at *; omega)), Has.nil, (by first | omega | (simp; done) | (simp; omega) | (simp at *; omega)), (by first | omega | (simp; done) | (simp; omega) | (simp at *; omega)), (by first | omega | (simp; done) | (simp; omega) | (simp at *; omega)), (by subst e27; rw [← hQl1, slices_BinarySearchFunc_Listed_l1]; rw [if_pos c17, if_neg c31])⟩, by show ml1 < ml1 + 1; omega, rfl, rfl, rfl, rfl, rfl, rfl, trivial⟩
  refine T.set 17 (.bool false) (congrArg Value.bool (decide_eq_false c17)) ?_
  refine T.exit (Post.thnE (Post.thnE (Post.blkX ?_)))
  have hEl1 : slices_BinarySearchFunc_Listed_l1 a0 a1 a2 ((((a0.length : Int)) - 0).toNat + 1) ((0, (a0.length : Int))) = (n9l1, n10l1) := (by rw [← hQl1, slices_BinarySearchFunc_Listed_l1]; rw [if_neg c17])
  refine id (Post.thnN ?_)
  refine T.seq ?_
  refine T.draw Try_mixed (by kernel_rfl) ?_
  refine Plan.v 0 [1, 2, 3, 4, 5, 6, 7, 8, 9, 10, 11, 12, 13, 14, 15] (by kernel_rfl) (by kernel_rfl) (by kernel_rfl) (by kernel_rfl) rfl (fun _ _ h_ => R.mvE rfl (by conv => lhs; whnf) (TL.nil h_)) ?_
  refine Plan.v 1 [2, 3, 4, 5, 6, 7, 8, 9, 10, 11, 12, 13, 14, 15] (by kernel_rfl) (by kernel_rfl) (by kernel_rfl) (by kernel_rfl) rfl (fun _ _ h_ => R.mvE rfl (by conv => lhs; whnf) (TL.nil h_)) ?_
  refine Plan.v 2 [3, 4, 5, 6, 7, 8, 9, 10, 11, 12, 13, 14, 15] (by kernel_rfl) (by kernel_rfl) (by kernel_rfl) (by kernel_rfl) rfl (fun _ _ h_ => R.mvE rfl (by conv => lhs; whnf) (TL.nil h_)) ?_
  refine Plan.v 3 [4, 5, 6, 7, 8, 9, 10, 11, 12, 13, 14, 15] (by kernel_rfl) (by kernel_rfl) (by kernel_rfl) (by kernel_rfl) rfl (fun _ _ h_ => R.lss rfl rfl rfl (TL.nil h_)) ?_
  refine Plan.v 4 [5, 6, 7, 8, 9, 10, 11, 12, 13, 14, 15] (by kernel_rfl) (by kernel_rfl) (by kernel_rfl) (by kernel_rfl) rfl (fun _ _ h_ => R.mvE rfl (by conv => lhs; whnf) (TL.nil h_)) ?_
  refine Plan.gsplitD 39 rfl (fun g39 => ?_) (fun g39 => ?_)
  · refine Plan.v 5 [6, 7, 8, 9, 10, 11, 12, 13, 14, 15] (by kernel_rfl) (by kernel_rfl) (by kernel_rfl) (by kernel_rfl) rfl (fun _ _ h_ => R.mvE rfl (by conv => lhs; whnf) (TL.nil h_)) ?_
    refine Plan.v 6 [7, 8, 9, 10, 11, 12, 13, 14, 15] (by kernel_rfl) (by kernel_rfl) (by kernel_rfl) (by kernel_rfl) rfl (fun _ _ h_ => R.mvE rfl (by conv => lhs; whnf) (TL.nil h_)) ?_
    refine Plan.v 7 [8, 9, 10, 11, 12, 13, 14, 15] (by kernel_rfl) (by kernel_rfl) (by kernel_rfl) (by kernel_rfl) rfl (fun _ _ h_ => R.mvE rfl (by conv => lhs; whnf) (TL.nil h_)) ?_
    have hl43 : n9l1.toNat < a0.length := by first | omega | (simp; done) | (simp; omega) | (simp at *; omega)
    obtain ⟨y43, e43, h43⟩ : ∃ y, y = (a0.getD n9l1.toNat (((0, []) : Int × (List Int)) : Int × (List Int))) ∧ a0[n9l1.toNat]? = some y := ⟨_, rfl, getD_get (by first | exact hl43 | simpa using hl43 | (simp only [List.length_set]; omega) | omega | (rw [(sortI_perm _).length_eq]; exact hl43))⟩
    obtain ⟨b43, o43, i43, k43⟩ := RdS.elem (ha0.mono (sb4_1.trans s_l1)) h43
    obtain ⟨l43, g43, k43⟩ := k43
    obtain ⟨z43_1, rfl, r43_1⟩ := g43
    obtain ⟨A43_1, p43_1, rfl, m43_1, n43_1, r43_1⟩ := r43_1.shape
    refine Plan.v 8 [9, 10, 11, 12, 13, 14, 15] (by kernel_rfl) (by kernel_rfl) (by kernel_rfl) (by kernel_rfl) rfl (fun _ _ h_ => R.ixp Try.underlying44 Try.sizeOf55 rfl rfl rfl (by first | omega | (simp; done) | (simp; omega) | (simp at *; omega)) i43 (TL.nil h_)) ?_
    refine Plan.v 9 [10, 11, 12, 13, 14, 15] (by kernel_rfl) (by kernel_rfl) (by kernel_rfl) (by kernel_rfl) rfl (fun _ _ h_ => R.ldK (l := [.int .u64 (y43.1), .slice A43_1 y43.2.length p43_1]) Try.isAgg55 Try.sizeOf55 rfl rfl k43 rfl (TL.nil h_)) ?_
    refine Plan.v 10 [11, 12, 13, 14, 15] (by kernel_rfl) (by kernel_rfl) (by kernel_rfl) (by kernel_rfl) rfl (fun _ _ h_ => R.ldXH (cs := [.int .u64 (a1.1), .slice Aa1_1 a1.2.length ca1_1]) (l := [.int .u64 (a1.1), .slice Aa1_1 a1.2.length ca1_1]) Try.isAgg55 Try.sizeOf55 rfl rfl (s_l1 _ _ hb4_1) rfl rfl (TL.nil h_)) ?_
    refine Plan.v 11 [12, 13, 14, 15] (by kernel_rfl) (by kernel_rfl) (by kernel_rfl) (by kernel_rfl) rfl (fun _ _ h_ => R.callv rfl rfl rfl (ha2 _ (sb4_1.trans s_l1) y43 _ r43_1 a1 _ (ha1_1.mono (sb4_1.trans s_l1))) (TL.nil h_)) ?_
    refine Plan.v 12 [13, 14, 15] (by kernel_rfl) (by kernel_rfl) (by kernel_rfl) (by kernel_rfl) rfl (fun _ _ h_ => R.eql rfl rfl rfl (TL.nil h_)) ?_
    refine Plan.v 13 [14, 15] (by kernel_rfl) (by kernel_rfl) (by kernel_rfl) (by kernel_rfl) rfl (fun _ _ h_ => R.pkTE rfl rfl (by conv => lhs; whnf) (TL.nil h_)) ?_
    refine Plan.v 14 [15] (by kernel_rfl) (by kernel_rfl) (by kernel_rfl) (by kernel_rfl) rfl (fun _ _ h_ => R.asE rfl (by conv => lhs; whnf) (TL.nil h_)) ?_
    refine Plan.v 15 [] (by kernel_rfl) (by kernel_rfl) (by kernel_rfl) (by kernel_rfl) rfl (fun _ _ h_ => R.asE rfl (by conv => lhs; whnf) (TL.nil h_)) ?_
    refine Plan.done (Post.thnN ?_)
    refine T.has Has.nil ?_
    refine T.ret ?_
    have hM : slices_BinarySearchFunc_Listed_m a0 a1 a2 = (n9l1, (decide (((a2 y43 a1) : Int) = 0))) := by subst e43; rw [slices_BinarySearchFunc_Listed_m, hEl1, LR.seq_go, if_pos g39]
    exact fin2L (v := .int .i64 n9l1) (v' := .bool (decide (((a2 y43 a1) : Int) = 0))) [] rfl rfl rfl (List.Sublist.refl _) ⟨rfl, by first | rw [hM] | rfl⟩
  refine Plan.v 5 [6, 7, 8, 9, 10, 11, 12, 13, 14, 15] (by kernel_rfl) (by kernel_rfl) (by kernel_rfl) (by kernel_rfl) rfl (fun _ _ h_ => TL.off rfl rfl rfl (TL.nil h_)) ?_
  refine Plan.v 6 [7, 8, 9, 10, 11, 12, 13, 14, 15] (by kernel_rfl) (by kernel_rfl) (by kernel_rfl) (by kernel_rfl) rfl (fun _ _ h_ => TL.off rfl rfl rfl (TL.nil h_)) ?_
  refine Plan.v 7 [8, 9, 10, 11, 12, 13, 14, 15] (by kernel_rfl) (by kernel_rfl) (by kernel_rfl) (by kernel_rfl) rfl (fun _ _ h_ => TL.off rfl rfl rfl (TL.nil h_)) ?_
  refine Plan.v 8 [9, 10, 11, 12, 13, 14, 15] (by kernel_rfl) (by kernel_rfl) (by kernel_rfl) (by kernel_rfl) rfl (fun _ _ h_ => TL.off rfl rfl rfl (TL.nil h_)) ?_
  refine Plan.v 9 [10, 11, 12, 13, 14, 15] (by kernel_rfl) (by kernel_rfl) (by kernel_rfl) (by kernel_rfl) rfl (fun _ _ h_ => TL.off rfl rfl rfl (TL.nil h_)) ?_
  refine Plan.v 10 [11, 12, 13, 14, 15] (by kernel_rfl) (by kernel_rfl) (by kernel_rfl) (by kernel_rfl) rfl (fun _ _ h_ => TL.off rfl rfl rfl (TL.nil h_)) ?_
  refine Plan.v 11 [12, 13, 14, 15] (by kernel_rfl) (by kernel_rfl) (by kernel_rfl) (by kernel_rfl) rfl (fun _ _ h_ => TL.off rfl rfl rfl (TL.nil h_)) ?_
  refine Plan.v 12 [13, 14, 15] (by kernel_rfl) (by kernel_rfl) (by kernel_rfl) (by kernel_rfl) rfl (fun _ _ h_ => TL.off rfl rfl rfl (TL.nil h_)) ?_
  refine Plan.v 13 [14, 15] (by kernel_rfl) (by kernel_rfl) (by kernel_rfl) (by kernel_rfl) rfl (fun _ _ h_ => R.pkFE rfl rfl (by conv => lhs; whnf) (TL.nil h_)) ?_
  refine Plan.v 14 [15] (by kernel_rfl) (by kernel_rfl) (by kernel_rfl) (by kernel_rfl) rfl (fun _ _ h_ => R.asE rfl (by conv => lhs; whnf) (TL.nil h_)) ?_
  refine Plan.v 15 [] (by kernel_rfl) (by kernel_rfl) (by kernel_rfl) (by kernel_rfl) rfl (fun _ _ h_ => R.asE rfl (by conv => lhs; whnf) (TL.nil h_)) ?_
  refine Plan.done (Post.thnN ?_)
  refine T.has Has.nil ?_
  refine T.ret ?_
  have hM : slices_BinarySearchFunc_Listed_m a0 a1 a2 = (n9l1, false) := by rw [slices_BinarySearchFunc_Listed_m, hEl1, LR.seq_go, if_neg g39]
  exact fin2L (v := .int .i64 n9l1) (v' := .bool false) [] rfl rfl rfl (List.Sublist.refl _) ⟨rfl, by first | rw [hM] | rfl⟩
end Go.SX

set_option linter.unusedVariables false
set_option linter.unusedSimpArgs false
namespace Go.SX
open Go
theorem mapEntry {ik : IntKind} {es : Array MapEntry} {m : MapL} (h : MapIs ik es m) {e : MapEntry} (he : e ∈ es.toList) : ∃ q ∈ m, e.key = .int ik q.1 ∧ e.val = q.2 := by
  have h1 : (e.key, e.val) ∈ es.toList.map (fun e => (e.key, e.val)) := List.mem_map_of_mem he
  rw [h, List.mem_map] at h1
  obtain ⟨q, hq, h2⟩ := h1
  exact ⟨q, hq, (congrArg Prod.fst h2).symm, (congrArg Prod.snd h2).symm⟩
theorem entryOf {ik : IntKind} {es : Array MapEntry} {m : MapL} (h : MapIs ik es m) {q : Int × Value} (hq : q ∈ m) : ∃ e ∈ es.toList, e.key = .int ik q.1 ∧ e.val = q.2 := by
  have h1 : (Value.int ik q.1, q.2) ∈ m.map (fun q => (Value.int ik q.1, q.2)) := List.mem_map_of_mem hq
  rw [← h, List.mem_map] at h1
  obtain ⟨e, he, h2⟩ := h1
  exact ⟨e, he, congrArg Prod.fst h2, congrArg Prod.snd h2⟩
theorem mgetMem : ∀ {m : MapL} {q : Int × Value}, (m.map Prod.fst).Nodup → q ∈ m → mget m q.1 = some q.2
  | [], _, _, h => by cases h
  | r :: m, q, hn, h => by
    rw [List.map_cons, List.nodup_cons] at hn
    rcases List.mem_cons.1 h with e | h1
    · subst e; exact mget_cons_eq rfl
    · have hne : r.1 ≠ q.1 := fun e => hn.1 (by rw [e]; exact List.mem_map_of_mem h1)
      rw [mget_cons_ne hne]; exact mgetMem hn.2 h1
theorem mset_len {f : Int → List Int} {B : Nat} (h : ∀ n, (f n).length ≤ B) (k x n : Int) : (mset f k (f k ++ [x]) n).length ≤ B + 1 := by
  unfold mset
  split
  · rw [List.length_append]; have := h k; simp; omega
  · have := h n; omega
/-- A map of rows that can be read, and gone through. -/
structure MrK {α : Type} (E : ER α) (ik : IntKind) (H : Heap) (b : Nat) (es : Array MapEntry) (ck : Nat) (m : MapL) (f : Int → List α) : Prop where
  hb : H b = some (.map es ck)
  hk : MapK ik es ck m
  rd : ∀ q ∈ m, RdS E H q.2 (f q.1)
  no : ∀ j, j ∉ m.map Prod.fst → f j = []
theorem MapO.readK {α : Type} {E : ER α} {e : TypeId} {ik : IntKind} {H H' : Heap} {b : Nat} {f : Int → List α} {C : Chunk} (h : MapO E e ik H b f C) (hl : HLe H H') (hq : ∀ q ∈ C, H' q.1 = some q.2) : ∃ es ck m, MrK E ik H' b es ck m f := by
  obtain ⟨es, ck, m, rows, rfl, h2, h3, h4, h5⟩ := h
  refine ⟨es, ck, m, hq _ (List.mem_cons_self ..), h2, fun q hm => ?_, h5⟩
  have := F2.read q.1 h3 hl (fun q hm => hq q (List.mem_cons_of_mem _ hm)) (h5 q.1)
  rw [mgetMem h4 hm] at this
  exact this
theorem MrK.mono {α : Type} {E : ER α} {ik : IntKind} {H H' : Heap} {b : Nat} {es : Array MapEntry} {ck : Nat} {m : MapL} {f : Int → List α} (h : MrK E ik H b es ck m f) (hl : HLe H H') : MrK E ik H' b es ck m f :=
  ⟨hl _ _ h.hb, h.hk, fun q hq => (h.rd q hq).mono hl, h.no⟩
/-- What a range has seen are stamps of the map's. -/
structure SeenB (es : Array MapEntry) (sn : Array Nat) : Prop where
  nd : sn.toList.Nodup
  sub : ∀ x ∈ sn.toList, x ∈ es.toList.map (fun e => e.born)
theorem SeenB.nil (es : Array MapEntry) : SeenB es #[] := ⟨by simp, fun x h => by simp at h⟩
theorem SeenB.push {es : Array MapEntry} {sn : Array Nat} (h : SeenB es sn) {e : MapEntry} (he : e ∈ es.toList) (hn : e.born ∉ sn) : SeenB es (sn.push e.born) := by
  refine ⟨?_, fun x hx => ?_⟩
  · rw [Array.toList_push, List.nodup_append]
    refine ⟨h.nd, by simp, fun a ha b hb e1 => ?_⟩
    rw [List.mem_singleton] at hb
    exact hn (by rw [← hb, ← e1]; simpa using ha)
  · rw [Array.toList_push, List.mem_append, List.mem_singleton] at hx
    rcases hx with hx | rfl
    · exact h.sub x hx
    · exact List.mem_map_of_mem he
theorem nodup_le : ∀ {l1 l2 : List Nat}, l1.Nodup → (∀ x ∈ l1, x ∈ l2) → l1.length ≤ l2.length
  | [], _, _, _ => Nat.zero_le _
  | x :: l1, l2, h1, h2 => by
    rw [List.nodup_cons] at h1
    have hx := h2 x (List.mem_cons_self ..)
    have := nodup_le (l1 := l1) (l2 := l2.erase x) h1.2 (fun y hy => (List.mem_erase_of_ne (fun e => h1.1 (by rw [← e]; exact hy))).2 (h2 y (List.mem_cons_of_mem _ hy)))
    rw [List.length_erase_of_mem hx] at this
    have hp := List.length_pos_of_mem hx
    rw [List.length_cons]; omega
theorem SeenB.less {es : Array MapEntry} {sn : Array Nat} (h : SeenB es sn) {e : MapEntry} (he : e ∈ es.toList) (hn : e.born ∉ sn) : es.size - (sn.push e.born).size < es.size - sn.size := by
  have := nodup_le (h.push he hn).nd (h.push he hn).sub
  rw [List.length_map, Array.length_toList, Array.length_toList, Array.size_push] at this
  rw [Array.size_push]; omega
/-- Two entries with one stamp are one. -/
theorem bornEq {es : Array MapEntry} {ck : Nat} (hb : BornOk es ck) {e e' : MapEntry} (he : e ∈ es.toList) (he' : e' ∈ es.toList) (h : e.born = e'.born) : e = e' := by
  obtain ⟨i, hi⟩ := List.mem_iff_getElem?.1 he
  obtain ⟨j, hj⟩ := List.mem_iff_getElem?.1 he'
  have hp := hb.1
  have hi' := (List.getElem?_eq_some_iff.1 hi)
  have hj' := (List.getElem?_eq_some_iff.1 hj)
  obtain ⟨hi1, hi2⟩ := hi'
  obtain ⟨hj1, hj2⟩ := hj'
  have key := List.pairwise_iff_getElem.1 hp
  rcases Nat.lt_trichotomy i j with hlt | heq | hgt
  · have := key i j (by simpa using hi1) (by simpa using hj1) hlt
    simp only [List.getElem_map] at this
    rw [hi2, hj2] at this; omega
  · subst heq; rw [hi] at hj; injection hj
  · have := key j i (by simpa using hj1) (by simpa using hi1) hgt
    simp only [List.getElem_map] at this
    rw [hi2, hj2] at this; omega
theorem seenStep {es : Array MapEntry} {ck : Nat} (hb : BornOk es ck) {ik : IntKind} {α : Type} {m : MapL} {f : Int → List α} {c : List α → Bool} {sn : Array Nat} {e : MapEntry} (he : e ∈ es.toList) {q1 : Int} (hk1 : e.key = .int ik q1) (hc : c (f q1) = false)
    (hg : ∀ e ∈ es.toList, e.born ∈ sn → ∀ q ∈ m, e.key = Value.int ik q.1 → c (f q.1) = false) : ∀ e' ∈ es.toList, e'.born ∈ sn.push e.born → ∀ q ∈ m, e'.key = Value.int ik q.1 → c (f q.1) = false := by
  intro e' he' hm q hq hk
  rcases Array.mem_push.1 hm with h | h
  · exact hg e' he' h q hq hk
  · have := bornEq hb he' he h
    subst this
    rw [hk1] at hk
    injection hk with _ hk2
    rw [← hk2]; exact hc
theorem anyF {α : Type} {E : ER α} {ik : IntKind} {H : Heap} {b : Nat} {es : Array MapEntry} {ck : Nat} {m : MapL} {f : Int → List α} (hk : MrK E ik H b es ck m f) {c : List α → Bool} (c0 : c [] = false) (KS : List Int)
    {sn : Array Nat} (hall : ∀ e ∈ es.toList, e.born ∈ sn) (hg : ∀ e ∈ es.toList, e.born ∈ sn → ∀ q ∈ m, e.key = Value.int ik q.1 → c (f q.1) = false) : KS.any (fun n => c (f n)) = false := by
  rw [List.any_eq_false]
  intro n _ h
  by_cases hn : n ∈ m.map Prod.fst
  · obtain ⟨q, hq, rfl⟩ := List.mem_map.1 hn
    obtain ⟨e, he, h1, _⟩ := entryOf hk.hk.1 hq
    rw [hg e he (hall e he) q hq h1] at h; cases h
  · rw [hk.no n hn, c0] at h; cases h
theorem anyT {α : Type} {E : ER α} {ik : IntKind} {H : Heap} {b : Nat} {es : Array MapEntry} {ck : Nat} {m : MapL} {f : Int → List α} (hk : MrK E ik H b es ck m f) {c : List α → Bool} (c0 : c [] = false) {KS : List Int} (hks : ∀ n, f n ≠ [] → n ∈ KS)
    {q : Int × Value} (h : c (f q.1) = true) : KS.any (fun n => c (f n)) = true :=
  List.any_eq_true.2 ⟨q.1, hks _ (fun e => by rw [e, c0] at h; cases h), h⟩
attribute [local semireducible] T TL
section
variable {fr : Fr} {x : Cx} {Q : Post} {σ : Env} {H : Heap} {L : Own} {ds : List Nat} {ol rest : List Oper}
variable {d : Nat} {ty : TypeId} {p : String} {af : Array Edge} {g : Option (Nat × Bool)}
theorem R.rngH {t kt et : TypeId} {M : Operand} {b clock : Nat} {es : Array MapEntry} (hm : fr.P.underlying t = some (.map kt et)) (hw : wan fr.N ol σ d g = true) (hM : ev σ M = .map (some b)) (hin : H b = some (.map es clock))
    (h : ∀ bi, TL fr x ol rest Q (upd σ d (.pointer (some ⟨bi, 0, none⟩))) H ([(bi, .mapIter (some b) clock #[] clock)] :: L) ds) :
    TL fr x ol (⟨some d, .range t M, ty, p, af, g⟩ :: rest) Q σ H L ds :=
  TL.value hw rfl (fun w hst => by
    have hb := hst.sat.h b _ hin
    have hr := run_range_map (P := fr.P) w t kt et b es clock hm hb
    exact ⟨_, w.alloc (.mapIter (some b) clock #[] clock), H, _, by simp [execOp, hM, hr], hst.new _, h w.heap.size⟩)
theorem R.nxtH {X : Operand} {b bi clock : Nat} {es : Array MapEntry} {seen : Array Nat} {R : Own} (hw : wan fr.N ol σ d g = true) (hX : ev σ X = .pointer (some ⟨bi, 0, none⟩)) (hdel : Del L [(bi, .mapIter (some b) clock seen clock)] R) (hin : H b = some (.map es clock)) (hbo : BornOk es clock)
    (h : ∀ v sn, ((v = .tuple #[.bool false] ∧ sn = seen ∧ ∀ e ∈ es.toList, e.born ∈ seen) ∨ (∃ e ∈ es.toList, e.born ∉ seen ∧ v = .tuple #[.bool true, e.key, e.val] ∧ sn = seen.push e.born)) → TL fr x ol rest Q (upd σ d v) H ([(bi, .mapIter (some b) clock sn clock)] :: R) ds) :
    TL fr x ol (⟨some d, .next X false, ty, p, af, g⟩ :: rest) Q σ H L ds :=
  TL.value hw rfl (fun w hst => by
    have hst1 : St x H ((bi, .mapIter (some b) clock seen clock) :: (R.flatten ++ hid fr.rd ds)) w := hst.perm (by
      have := hdel.perm.append_right (hid fr.rd ds)
      simpa using this)
    have hbi := hst1.sat.l (bi, .mapIter (some b) clock seen clock) (List.mem_cons_self ..)
    have hb := hst1.sat.h b _ hin
    simp only at hbi hb
    rcases run_next_at (P := fr.P) w ty bi b clock clock seen es clock hbi hb hbo.2 (Nat.le_refl _) with ⟨h0, hrun⟩ | ⟨e, he, w1, hw1, hrun⟩
    · refine ⟨_, w, H, [(bi, .mapIter (some b) clock seen clock)] :: R, by simp [execOp, hX, hrun], by simpa using hst1, h _ _ (.inl ⟨rfl, rfl, fun e he => ?_⟩)⟩
      have hl : leftOf es seen = #[] := Array.eq_empty_of_size_eq_zero h0
      unfold leftOf at hl
      rw [Array.filter_eq_empty_iff] at hl
      have := hl e (by simpa using he)
      simpa using this
    · have hmem : e ∈ es.toList ∧ e.born ∉ seen := by
        unfold leftOf at he
        simp at he
        exact ⟨by simpa using he.1, he.2⟩
      have hst2 : St x H ((bi, .mapIter (some b) clock seen clock) :: (R.flatten ++ hid fr.rd ds)) w1 := by
        rcases hw1 with rfl | rfl
        · exact hst1
        · exact hst1.drew
      have hbi1 := hst2.sat.l (bi, .mapIter (some b) clock seen clock) (List.mem_cons_self ..)
      simp only at hbi1
      have hst3 := hst2.turn (w' := ChangeMaps.setBlock w1 bi (.mapIter (some b) clock (seen.push e.born) clock)) (o' := .mapIter (some b) clock (seen.push e.born) clock) rfl rfl rfl (by simp [ChangeMaps.setBlock]) (by
          simp [ChangeMaps.setBlock, heap_lt hbi1]) (fun c hc => by
          simp only [ChangeMaps.setBlock]
          rw [Array.getElem?_setIfInBounds_ne (fun e => hc e.symm)])
      exact ⟨.tuple #[.bool true, e.key, e.val], ChangeMaps.setBlock w1 bi (.mapIter (some b) clock (seen.push e.born) clock), H, [(bi, .mapIter (some b) clock (seen.push e.born) clock)] :: R, by simp [execOp, hX, hrun], by simpa using hst3, h _ _ (.inr ⟨e, hmem.1, hmem.2, rfl, rfl⟩)⟩)
theorem R.entH {X : Operand} {b bi clock : Nat} {es : Array MapEntry} {seen : Array Nat} {e : MapEntry} (hw : wan fr.N ol σ d g = true) (hX : ev σ X = .pointer (some ⟨bi, 0, none⟩)) (hin : In L [(bi, .mapIter (some b) clock (seen.push e.born) clock)]) (hin2 : H b = some (.map es clock)) (hbo : BornOk es clock) (he : e ∈ es.toList)
    (h : TL fr x ol rest Q (upd σ d (.tuple #[e.key, e.val])) H L ds) : TL fr x ol (⟨some d, .entry X, ty, p, af, g⟩ :: rest) Q σ H L ds :=
  TL.value hw rfl (fun w hst => by
    have hbi := hst.sat.l (bi, .mapIter (some b) clock (seen.push e.born) clock) (List.mem_append_left _ (hin.mem (List.mem_singleton.2 rfl)))
    have hb := hst.sat.h b _ hin2
    have hr := run_entry_at (P := fr.P) w bi b clock seen es clock e hbi hb he (hbo.1.imp (fun h => by omega))
    exact ⟨_, w, H, L, by simp [execOp, hX, hr], hst, h⟩)
end
end Go.SX

set_option linter.unusedVariables false
set_option linter.unusedSimpArgs false
namespace Go.SX
open Go Go.Proofs

def cmp_Compare_Id_m (a0 : Int) (a1 : Int) : Int :=
  if (cmp_isNaN_Id_m a0) = true then (if (cmp_isNaN_Id_m a1) = true then 0 else (-1)) else (if (cmp_isNaN_Id_m a1) = true then 1 else (if a0 < a1 then (-1) else (if a1 < a0 then 1 else 0)))
set_option maxHeartbeats 3200000 in
theorem cmp_Compare_Id_c (H : Heap) (a0 : Int) (a1 : Int) : Fv Try.prog (fnv 125) [.int .u64 a0, .int .u64 a1] H (.int .i64 (cmp_Compare_Id_m a0 a1)) := by
  refine Fc.of_body (N := 20) Try.func125 rfl (by kernel_rfl) rfl rfl ?_
  intro w0
  refine T.seq ?_
  refine T.region ?_
  refine R.asE rfl (by conv => lhs; whnf) ?_
  refine TL.nil (Post.thnN ?_)
  refine T.seq ?_
  refine T.region ?_
  refine R.mvE rfl (by conv => lhs; whnf) ?_
  refine R.callv rfl rfl rfl (cmp_isNaN_Id_c _ (a0)) ?_
  refine R.asE rfl (by conv => lhs; whnf) ?_
  refine TL.nil (Post.thnN ?_)
  refine T.seq ?_
  refine T.region ?_
  refine R.mvE rfl (by conv => lhs; whnf) ?_
  refine R.callv rfl rfl rfl (cmp_isNaN_Id_c _ (a1)) ?_
  refine R.asE rfl (by conv => lhs; whnf) ?_
  refine TL.nil (Post.thnN ?_)
  refine T.seq ?_
  refine T.seq ?_
  refine T.region ?_
  refine R.mvE rfl (by conv => lhs; whnf) ?_
  refine TL.nil (Post.thnN ?_)
  refine T.cond rfl (fun c11 => ?_) (fun c11 => ?_)
  · refine T.set 11 (.bool true) (congrArg Value.bool c11) ?_
    refine T.seq ?_
    refine T.seq ?_
    refine T.region ?_
    refine R.mvE rfl (by conv => lhs; whnf) ?_
    refine TL.nil (Post.thnN ?_)
    refine T.cond rfl (fun c12 => ?_) (fun c12 => ?_)
    · refine T.set 12 (.bool true) (congrArg Value.bool c12) ?_
      refine T.seq ?_
      refine T.region ?_
      refine R.asE rfl (by conv => lhs; whnf) ?_
      refine TL.nil (Post.thnN ?_)
      refine T.has Has.nil ?_
      refine T.ret (Post.thnR (Post.thnR ?_))
      have hM : cmp_Compare_Id_m a0 a1 = 0 := by rw [cmp_Compare_Id_m, if_t c11, if_t c12]
      exact fin1L (v := .int .i64 0) [] rfl rfl (List.Sublist.refl _) ⟨rfl, by first | rw [hM] | rfl⟩
    refine T.set 12 (.bool false) (congrArg Value.bool c12) ?_
    refine T.skip (Post.thnN ?_)
    refine T.seq ?_
    refine T.region ?_
    refine R.asE rfl (by conv => lhs; whnf) ?_
    refine TL.nil (Post.thnN ?_)
    refine T.has Has.nil ?_
    refine T.ret (Post.thnR ?_)
    have hM : cmp_Compare_Id_m a0 a1 = (-1) := by rw [cmp_Compare_Id_m, if_t c11, if_f c12]
    exact fin1L (v := .int .i64 (-1)) [] rfl rfl (List.Sublist.refl _) ⟨rfl, by first | rw [hM] | rfl⟩
  refine T.set 11 (.bool false) (congrArg Value.bool c11) ?_
  refine T.skip (Post.thnN ?_)
  refine T.seq ?_
  refine T.seq ?_
  refine T.region ?_
  refine R.mvE rfl (by conv => lhs; whnf) ?_
  refine TL.nil (Post.thnN ?_)
  refine T.cond rfl (fun c13 => ?_) (fun c13 => ?_)
  · refine T.set 13 (.bool true) (congrArg Value.bool c13) ?_
    refine T.seq ?_
    refine T.region ?_
    refine R.asE rfl (by conv => lhs; whnf) ?_
    refine TL.nil (Post.thnN ?_)
    refine T.has Has.nil ?_
    refine T.ret (Post.thnR ?_)
    have hM : cmp_Compare_Id_m a0 a1 = 1 := by rw [cmp_Compare_Id_m, if_f c11, if_t c13]
    exact fin1L (v := .int .i64 1) [] rfl rfl (List.Sublist.refl _) ⟨rfl, by first | rw [hM] | rfl⟩
  refine T.set 13 (.bool false) (congrArg Value.bool c13) ?_
  refine T.skip (Post.thnN ?_)
  refine T.seq ?_
  refine T.seq ?_
  refine T.region ?_
  refine R.mvE rfl (by conv => lhs; whnf) ?_
  refine R.mvE rfl (by conv => lhs; whnf) ?_
  refine R.lss rfl rfl rfl ?_
  refine TL.nil (Post.thnN ?_)
  refine T.condD rfl (fun c16 => ?_) (fun c16 => ?_)
  · refine T.set 16 (.bool true) (congrArg Value.bool (decide_eq_true c16)) ?_
    refine T.seq ?_
    refine T.region ?_
    refine R.asE rfl (by conv => lhs; whnf) ?_
    refine TL.nil (Post.thnN ?_)
    refine T.has Has.nil ?_
    refine T.ret (Post.thnR ?_)
    have hM : cmp_Compare_Id_m a0 a1 = (-1) := by rw [cmp_Compare_Id_m, if_f c11, if_f c13, if_pos c16]
    exact fin1L (v := .int .i64 (-1)) [] rfl rfl (List.Sublist.refl _) ⟨rfl, by first | rw [hM] | rfl⟩
  refine T.set 16 (.bool false) (congrArg Value.bool (decide_eq_false c16)) ?_
  refine T.skip (Post.thnN ?_)
  refine T.seq ?_
  refine T.seq ?_
  refine T.region ?_
  refine R.mvE rfl (by conv => lhs; whnf) ?_
  refine R.mvE rfl (by conv => lhs; whnf) ?_
  refine R.gtr rfl rfl rfl ?_
  refine TL.nil (Post.thnN ?_)
  refine T.condD rfl (fun c19 => ?_) (fun c19 => ?_)
  · refine T.set 19 (.bool true) (congrArg Value.bool (decide_eq_true c19)) ?_
    refine T.seq ?_
    refine T.region ?_
    refine R.asE rfl (by conv => lhs; whnf) ?_
    refine TL.nil (Post.thnN ?_)
    refine T.has Has.nil ?_
    refine T.ret (Post.thnR ?_)
    have hM : cmp_Compare_Id_m a0 a1 = 1 := by rw [cmp_Compare_Id_m, if_f c11, if_f c13, if_neg c16, if_pos c19]
    exact fin1L (v := .int .i64 1) [] rfl rfl (List.Sublist.refl _) ⟨rfl, by first | rw [hM] | rfl⟩
  refine T.set 19 (.bool false) (congrArg Value.bool (decide_eq_false c19)) ?_
  refine T.skip (Post.thnN ?_)
  refine T.seq ?_
  refine T.region ?_
  refine R.asE rfl (by conv => lhs; whnf) ?_
  refine TL.nil (Post.thnN ?_)
  refine T.has Has.nil ?_
  refine T.ret ?_
  have hM : cmp_Compare_Id_m a0 a1 = 0 := by rw [cmp_Compare_Id_m, if_f c11, if_f c13, if_neg c16, if_neg c19]
  exact fin1L (v := .int .i64 0) [] rfl rfl (List.Sublist.refl _) ⟨rfl, by first | rw [hM] | rfl⟩
def index_compare_m (a0 : Int × (List Int)) (a1 : Int × (List Int)) : Int :=
  (cmp_Compare_Id_m a0.1 a1.1)
set_option maxHeartbeats 3200000 in
theorem index_compare_c (H : Heap) (a0 : Int × (List Int)) (va0_1 : Value) (ha0_1 : RdS (intE .i64) H va0_1 a0.2) (a1 : Int × (List Int)) (va1_1 : Value) (ha1_1 : RdS (intE .i64) H va1_1 a1.2) : Fv Try.prog (fnv 79) [.agg #[.int .u64 a0.1, va0_1], .agg #[.int .u64 a1.1, va1_1]] H (.int .i64 (index_compare_m a0 a1)) := by
  refine Fc.of_body (N := 10) Try.func79 rfl (by kernel_rfl) rfl rfl ?_
  intro w0
  obtain ⟨Aa0_1, ca0_1, rfl, hca0_1, hda0_1, ha0_1⟩ := ha0_1.shape
  obtain ⟨Aa1_1, ca1_1, rfl, hca1_1, hda1_1, ha1_1⟩ := ha1_1.shape
  refine T.seq ?_
  refine T.region ?_
  refine R.box rfl (by conv => lhs; whnf) ?_
  intro b2
  refine R.box rfl (by conv => lhs; whnf) ?_
  intro b3
  refine R.asE rfl (by conv => lhs; whnf) ?_
  refine TL.shut .hd ?_
  intro Hb3_1 sb3_1 qb3_1
  have hb3_1 : Hb3_1 b3 = some (.cells #[.int .u64 (a1.1), .slice Aa1_1 a1.2.length ca1_1] 55) := shut1 qb3_1
  refine TL.shut .hd ?_
  intro Hb2_2 sb2_2 qb2_2
  have hb2_2 : Hb2_2 b2 = some (.cells #[.int .u64 (a0.1), .slice Aa0_1 a0.2.length ca0_1] 55) := shut1 qb2_2
  refine TL.nil (Post.thnN ?_)
  refine T.seq ?_
  refine T.region ?_
  refine R.fldA Try.underlying55 rfl Try.sizeOf26 (by decide) rfl rfl ?_
  refine R.ldH Try.isAgg26 rfl rfl hb2_2 rfl ?_
  refine R.fldA Try.underlying55 rfl Try.sizeOf26 (by decide) rfl rfl ?_
  refine R.ldH Try.isAgg26 rfl rfl (sb2_2 _ _ hb3_1) rfl ?_
  refine R.callv rfl rfl rfl (cmp_Compare_Id_c _ (a0.1) (a1.1)) ?_
  refine R.asE rfl (by conv => lhs; whnf) ?_
  refine TL.nil (Post.thnN ?_)
  refine T.has Has.nil ?_
  refine T.ret ?_
  have hM : index_compare_m a0 a1 = (cmp_Compare_Id_m a0.1 a1.1) := by rw [index_compare_m]
  exact fin1L (v := .int .i64 (cmp_Compare_Id_m a0.1 a1.1)) [] rfl rfl (List.Sublist.refl _) ⟨rfl, by first | rw [hM] | rfl⟩
def index_Check_l2 (yl1 : Int × (List Int)) : List Int → ((Int → List Int)) → (Int → List Int)
  | [], sl2 => sl2
  | yl2 :: ysl2, sl2 => index_Check_l2 yl1 ysl2 ((mset sl2 yl2 (((sl2 yl2) ++ [yl1.1]))))
def index_Check_l4  (y49 : List Int) : Bool :=
  LR.seq (index_bare_m y49) (fun r52 => LR.seq (if ((types_Check_m r52) : Int) ≠ 0 then true else (LR.seq (index_Keys_m r52) (fun r58 => (decide (¬ (r58 = y49))))) : Bool) (fun sc5 => if sc5 = true then true else false))
def index_Check_l1  : List (Int × (List Int)) → ((Int → List Int)) → LR (Int) ((Int → List Int))
  | [], sl1 => .go sl1
  | yl1 :: ysl1, sl1 => if (!(index_row_m yl1)) = true then (.ret 240) else (LR.seq (index_Check_l2 yl1 yl1.2 sl1) (fun ol2 => index_Check_l1 ysl1 ol2))
def index_Check_m (a0 : (List (Int × (List Int)))) : Int :=
  if (!(index_rises_Listed_m a0 ((fun z0 z1 => index_compare_m z0 z1)))) = true then 240 else (LR.on (index_Check_l1 a0 (((fun _ => []) : Int → List Int))) (fun r => r) (fun ol1 => LR.seq (if (a0.flatMap Prod.snd).any (fun n_ => index_Check_l4 (ol1 n_)) = true then 240 else 0 : Int) (fun sc3 => sc3)))
theorem check_l2_at (r : Int × List Int) (n : Int) : ∀ (l : List Int) (f : Int → List Int), index_Check_l2 r l f n = f n ++ (l.filter (fun y => decide (y = n))).map (fun _ => r.1)
  | [], f => by simp [index_Check_l2]
  | y :: ys, f => by
    rw [index_Check_l2, check_l2_at r n ys, List.filter_cons]
    unfold mset
    by_cases h : y = n
    · subst h; simp
    · rw [if_neg (fun q => h q.symm), if_neg (by simpa using h)]
theorem check_l1_at (n : Int) : ∀ (l : List (Int × List Int)) (f g : Int → List Int), index_Check_l1 l f = .go g → g n = f n ++ l.flatMap (fun r => (r.2.filter (fun y => decide (y = n))).map (fun _ => r.1))
  | [], f, g, h => by rw [index_Check_l1] at h; injection h with h; subst h; simp
  | r :: l, f, g, h => by
    rw [index_Check_l1] at h
    split at h
    · cases h
    · rw [LR.seq_go] at h
      rw [check_l1_at n l _ g h, check_l2_at, List.flatMap_cons, List.append_assoc]
theorem check_ks (l : List (Int × List Int)) (g : Int → List Int) (h : index_Check_l1 l (fun _ => []) = .go g) (n : Int) (hn : g n ≠ []) : n ∈ l.flatMap Prod.snd := by
  rw [check_l1_at n l _ g h, List.nil_append] at hn
  obtain ⟨x, hx⟩ := List.exists_mem_of_ne_nil _ hn
  obtain ⟨r, hr, hx⟩ := List.mem_flatMap.1 hx
  obtain ⟨y, hy, _⟩ := List.mem_map.1 hx
  obtain ⟨h1, h2⟩ := List.mem_filter.1 hy
  have : y = n := of_decide_eq_true h2
  subst this
  exact List.mem_flatMap.2 ⟨r, hr, h1⟩
set_option maxHeartbeats 3200000 in
theorem index_Check_c (H : Heap) (a0 : (List (Int × (List Int)))) (va0_0 : Value) (ha0_0 : RdS listedE H va0_0 a0) (hn : a0.length ≤ 1000) (hr : ∀ r ∈ a0, r.2.length ≤ 1000) : Fv Try.prog (fnv 31) [.agg #[va0_0]] H (.int .i64 (index_Check_m a0)) := by
  refine Fc.of_body (N := 64) Try.func31 rfl (by kernel_rfl) rfl rfl ?_
  intro w0
  obtain ⟨Aa0_0, ca0_0, rfl, hca0_0, hda0_0, ha0_0⟩ := ha0_0.shape
  refine T.seq ?_
  refine T.region ?_
  refine R.box rfl (by conv => lhs; whnf) ?_
  intro b1
  refine R.asE rfl (by conv => lhs; whnf) ?_
  refine TL.shut .hd ?_
  intro Hb1_1 sb1_1 qb1_1
  have hb1_1 : Hb1_1 b1 = some (.cells #[.slice Aa0_0 a0.length ca0_0] 46) := shut1 qb1_1
  refine TL.nil (Post.thnN ?_)
  refine T.scope ?_
  refine T.seq ?_
  refine T.seq ?_
  refine T.region ?_
  refine R.fldA Try.underlying46 rfl Try.sizeOf44 (by decide) rfl rfl ?_
  refine R.ldH Try.isAgg44 rfl rfl hb1_1 rfl ?_
  refine R.callv rfl rfl rfl (index_rises_Listed_c _ _ a0 (ha0_0.mono sb1_1) _ (fun z0 z1 => index_compare_m z0 z1) (fun H2 h2 z0 vz0_1 hz0_1 z1 vz1_1 hz1_1 => index_compare_c H2 z0 vz0_1 hz0_1 z1 vz1_1 hz1_1) rfl (by first | omega | (simp; done) | (simp; omega) | (simp at *; omega))) ?_
  refine R.not rfl rfl ?_
  refine TL.nil (Post.thnN ?_)
  refine T.cond rfl (fun c15 => ?_) (fun c15 => ?_)
  · refine T.set 15 (.bool true) (congrArg Value.bool c15) ?_
    refine T.seq ?_
    refine T.region ?_
    refine R.asE rfl (by conv => lhs; whnf) ?_
    refine TL.nil (Post.thnN ?_)
    refine T.has Has.nil ?_
    refine T.ret (Post.thnR (Post.ngR ?_))
    have hM : index_Check_m a0 = 240 := by rw [index_Check_m, if_t c15]
    exact fin1L (v := .int .i64 240) [] rfl rfl (List.Sublist.refl _) ⟨rfl, by first | rw [hM] | rfl⟩
  refine T.set 15 (.bool false) (congrArg Value.bool c15) ?_
  refine T.skip (Post.thnN ?_)
  refine T.seq ?_
  refine T.region ?_
  refine R.mkmO (intE .u64) 26 .i64 rfl ?_
  intro b16 w16
  refine R.asE rfl (by conv => lhs; whnf) ?_
  refine TL.nil (Post.thnN ?_)
  refine T.seq ?_
  refine T.seq ?_
  refine T.region ?_
  refine R.fldA Try.underlying46 rfl Try.sizeOf44 (by decide) rfl rfl ?_
  refine R.ldH Try.isAgg44 rfl rfl hb1_1 rfl ?_
  refine R.len Try.underlying44 rfl rfl ?_
  refine R.mvE rfl (by conv => lhs; whnf) ?_
  refine TL.nil (Post.thnN ?_)
  refine T.block ?_
  refine T.loop (ι := Nat × (Int → List Int) × Chunk) (fun ⟨kl1, xM16l1, cM16l1⟩ H' L' ds' => kl1 ≤ a0.length ∧ Has L' [cM16l1] ∧ MapO (intE .u64) 26 .i64 H' b16 xM16l1 cM16l1 ∧ (∀ n, (xM16l1 n).length ≤ 1000 * kl1) ∧ index_Check_l1 (a0.drop kl1) xM16l1 = index_Check_l1 a0 (((fun _ => []) : Int → List Int))) (fun ⟨kl1, xM16l1, cM16l1⟩ => [(20, .int .i64 (kl1 : Int)), (3, .map (some b16)), (18, .slice Aa0_0 a0.length ca0_0), (19, .int .i64 (a0.length : Int))]) (fun ⟨kl1, xM16l1, cM16l1⟩ => a0.length - kl1) (0, ((fun _ => []) : Int → List Int), [(b16, .map #[] 0)]) ?_ ?_ ?_
  · exact ⟨(by omega), (Has.cons .hd Has.nil), w16, (by intro n; exact Nat.zero_le _), (by rfl)⟩
  · exact ⟨rfl, rfl, rfl, rfl, trivial⟩
  intro ⟨kl1, xM16l1, cM16l1⟩ σ_l1 H_l1 L_l1 ds_l1 s_l1 hI_l1
  obtain ⟨hkl1, hI_l1⟩ := hI_l1
  obtain ⟨hLl1, wM16l1, hBl1_0, hQl1⟩ := hI_l1
  refine T.has hLl1 ?_
  refine T.seq ?_
  refine T.region ?_
  refine R.lss rfl rfl rfl ?_
  refine TL.nil (Post.thnN ?_)
  refine T.seq ?_
  refine T.condD rfl (fun c21 => ?_) (fun c21 => ?_)
  · have hltl1 : kl1 < a0.length := by omega
    obtain ⟨yl1, hyl1⟩ := getk (xs := a0) (k := kl1) (by omega)
    have hrow := hr yl1 (List.mem_of_getElem? hyl1)
    refine T.skip (Post.thnN ?_)
    refine T.seq ?_
    refine T.block ?_
    refine T.seq ?_
    refine T.region ?_
    obtain ⟨b22, o22, i22, k22⟩ := RdS.elem (ha0_0.mono (sb1_1.trans s_l1)) hyl1
    obtain ⟨l22, g22, k22⟩ := k22
    obtain ⟨z22_1, rfl, r22_1⟩ := g22
    obtain ⟨A22_1, p22_1, rfl, m22_1, n22_1, r22_1⟩ := r22_1.shape
    refine R.ixp Try.underlying44 Try.sizeOf55 rfl rfl rfl (by omega) i22 ?_
    refine R.ldK (l := [.int .u64 (yl1.1), .slice A22_1 yl1.2.length p22_1]) Try.isAgg55 Try.sizeOf55 rfl rfl k22 rfl ?_
    refine R.alloc Try.zeroValue55 rfl ?_
    intro b5
    refine R.stX (old := [.int .u64 0, .slice none 0 0]) (l := [.int .u64 (yl1.1), .slice A22_1 yl1.2.length p22_1]) (new := [.int .u64 (yl1.1), .slice A22_1 yl1.2.length p22_1]) (et := 55) Try.sizeOf55 rfl rfl rfl rfl rfl (by show 0 + 2 ≤ 2; decide) rfl (all_one rfl) .hd ?_
    refine TL.shut .hd ?_
    intro Hb5_2 sb5_2 qb5_2
    have hb5_2 : Hb5_2 b5 = some (.cells #[.int .u64 (yl1.1), .slice A22_1 yl1.2.length p22_1] 55) := shut1 qb5_2
    refine TL.nil (Post.thnN ?_)
    refine T.seq ?_
    refine T.seq ?_
    refine T.region ?_
    refine R.ldXH (cs := [.int .u64 (yl1.1), .slice A22_1 yl1.2.length p22_1]) (l := [.int .u64 (yl1.1), .slice A22_1 yl1.2.length p22_1]) Try.isAgg55 Try.sizeOf55 rfl rfl hb5_2 rfl rfl ?_
    refine R.callv rfl rfl rfl (index_row_c _ yl1 _ (r22_1.mono sb5_2) (by first | omega | (simp; done) | (simp; omega) | (simp at *; omega))) ?_
    refine R.not rfl rfl ?_
    refine TL.nil (Post.thnN ?_)
    refine T.cond rfl (fun c26 => ?_) (fun c26 => ?_)
    · refine T.set 26 (.bool true) (congrArg Value.bool c26) ?_
      refine T.seq ?_
      refine T.region ?_
      refine R.asE rfl (by conv => lhs; whnf) ?_
      refine TL.nil (Post.thnN ?_)
      refine T.has Has.nil ?_
      refine T.ret (Post.thnR (Post.blkR (Post.thnR (Post.thnR (Post.blkR (Post.thnR (Post.ngR ?_)))))))
      have hXl1 : index_Check_l1 a0 (((fun _ => []) : Int → List Int)) = .ret 240 := by rw [← hQl1, drop_cons hyl1, index_Check_l1]; rw [if_t c26]
      have hM : index_Check_m a0 = 240 := by rw [index_Check_m, if_f c15, hXl1, LR.on_ret]
      exact fin1L (v := .int .i64 240) [] rfl rfl (List.Sublist.refl _) ⟨rfl, by first | rw [hM] | rfl⟩
    refine T.set 26 (.bool false) (congrArg Value.bool c26) ?_
    refine T.skip (Post.thnN ?_)
    refine T.seq ?_
    refine T.region ?_
    refine R.fldA Try.underlying55 rfl Try.sizeOf37 (by decide) rfl rfl ?_
    refine R.ldH Try.isAgg37 rfl rfl hb5_2 rfl ?_
    refine R.len Try.underlying37 rfl rfl ?_
    refine R.mvE rfl (by conv => lhs; whnf) ?_
    refine TL.nil (Post.thnN ?_)
    refine T.block ?_
    refine T.loop (ι := Nat × (Int → List Int) × Chunk) (fun ⟨kl2, xM16l2, cM16l2⟩ H' L' ds' => kl2 ≤ yl1.2.length ∧ Has L' [cM16l2] ∧ MapO (intE .u64) 26 .i64 H' b16 xM16l2 cM16l2 ∧ (∀ n, (xM16l2 n).length ≤ 1000 * kl1 + kl2) ∧ index_Check_l2 yl1 (yl1.2.drop kl2) xM16l2 = index_Check_l2 yl1 yl1.2 xM16l1) (fun ⟨kl2, xM16l2, cM16l2⟩ => [(30, .int .i64 (kl2 : Int)), (3, .map (some b16)), (5, .pointer (some ⟨b5, 0, none⟩)), (18, .slice Aa0_0 a0.length ca0_0), (19, .int .i64 (a0.length : Int)), (20, .int .i64 (kl1 : Int)), (28, .slice A22_1 yl1.2.length p22_1), (29, .int .i64 (yl1.2.length : Int))]) (fun ⟨kl2, xM16l2, cM16l2⟩ => yl1.2.length - kl2) (0, xM16l1, cM16l1) ?_ ?_ ?_
    · exact ⟨(by omega), (Has.cons .hd Has.nil), (wM16l1.mono sb5_2), (by intro n; have := hBl1_0 n; omega), (by rfl)⟩
    · exact ⟨rfl, rfl, rfl, rfl, rfl, rfl, rfl, rfl, trivial⟩
    intro ⟨kl2, xM16l2, cM16l2⟩ σ_l2 H_l2 L_l2 ds_l2 s_l2 hI_l2
    obtain ⟨hkl2, hI_l2⟩ := hI_l2
    obtain ⟨hLl2, wM16l2, hBl2_0, hQl2⟩ := hI_l2
    refine T.has hLl2 ?_
    refine T.seq ?_
    refine T.region ?_
    refine R.lss rfl rfl rfl ?_
    refine TL.nil (Post.thnN ?_)
    refine T.seq ?_
    refine T.condD rfl (fun c31 => ?_) (fun c31 => ?_)
    · have hltl2 : kl2 < yl1.2.length := by omega
      obtain ⟨yl2, hyl2⟩ := getk (xs := yl1.2) (k := kl2) (by omega)
      refine T.skip (Post.thnN ?_)
      refine T.seq ?_
      refine T.block ?_
      refine T.seq ?_
      refine T.region ?_
      obtain ⟨b32, o32, i32, k32⟩ := RdS.elem (r22_1.mono (sb5_2.trans s_l2)) hyl2
      obtain ⟨l32, g32, k32⟩ := k32
      obtain rfl : l32 = [.int .i64 yl2] := g32
      refine R.ixp Try.underlying37 Try.sizeOf3 rfl rfl rfl (by omega) i32 ?_
      refine R.ldC Try.isAgg3 rfl rfl (k32 0 _ rfl) ?_
      refine R.asE rfl (by conv => lhs; whnf) ?_
      refine TL.nil (Post.thnN ?_)
      refine T.region ?_
      refine R.mvE rfl (by conv => lhs; whnf) ?_
      refine R.mvE rfl (by conv => lhs; whnf) ?_
      refine R.mvE rfl (by conv => lhs; whnf) ?_
      refine R.mvE rfl (by conv => lhs; whnf) ?_
      refine R.lkuO Try.underlying97 Try.underlying3 Try.zeroValue22 rfl rfl rfl .hd wM16l2 ?_
      intro v38 c38 mc38 mR38 w38 t38
      obtain ⟨A38, p38, rfl, m38, n38⟩ := OwnS.shape w38
      have hb38 := hBl2_0 yl2
      refine R.fldA Try.underlying55 rfl Try.sizeOf26 (by decide) rfl rfl ?_
      refine R.ldH Try.isAgg26 rfl rfl (s_l2 _ _ hb5_2) rfl ?_
      refine R.bs rfl (run_buildSlice1 Try.underlying22 Try.sizeOf26 Try.zeroValue26 rfl rfl) ?_
      intro b41
      have w41 : OwnS (intE .u64) 26 H_l2 (.slice (some ⟨b41, 0, none⟩) 1 1) [yl1.1] [(b41, .cells #[.int .u64 (yl1.1)] 26)] := OwnS.lit (xs := [yl1.1]) (cellsOf_cons (a := [.int .u64 (yl1.1)]) rfl cellsOf_nil) (by show 1 ≤ maxLen; decide)
      obtain ⟨k42, y42, r42⟩ := Src.ownA w41
      refine R.app (E := (intE .u64)) (e := 26) (xs := (xM16l2 yl2)) (ys := [yl1.1]) Try_ty22 rfl rfl rfl w38 (.tl .hd) (r42 _ .hd) y42 (by (try simp only [List.length_append, List.length_cons, List.length_nil, List.length_replicate, List.length_take, List.length_drop]); omega) (by (try simp only [List.length_append, List.length_cons, List.length_nil, List.length_replicate, List.length_take, List.length_drop]); omega) ?_
      intro v42 c42 w42
      obtain ⟨A42, p42, rfl, m42, n42⟩ := OwnS.shape w42
      refine TL.del (.tl .hd) ?_
      refine R.mupO Try.underlying97 Try.underlying3 rfl rfl rfl rfl t38 (HLe.refl _) w42 .hd .hd .hd ?_
      intro cu16_8 wu16_8
      refine TL.nil (Post.blkN ?_)
      refine id (Post.thnN ?_)
      refine T.region ?_
      refine R.addI rfl rfl rfl (by omega) ?_
      refine R.mvE rfl (by conv => lhs; whnf) ?_
      refine TL.nil (Post.thnN ?_)
      exact ⟨(kl2 + 1, (mset xM16l2 yl2 (((xM16l2 yl2) ++ [yl1.1]))), cu16_8), s_l2, ⟨(by omega), (Has.cons .hd Has.nil), wu16_8, (by intro n; have := mset_len hBl2_0 yl2 yl1.1 n; omega), (by rw [← hQl2, drop_cons hyl2, index_Check_l2])⟩, by show yl1.2.length - (kl2 + 1) < yl1.2.length - kl2; omega, rfl, rfl, rfl, rfl, rfl, rfl, rfl, rfl, trivial⟩
    refine T.exit (Post.thnE (Post.thnE (Post.blkX ?_)))
    have hEl2 : index_Check_l2 yl1 yl1.2 xM16l1 = xM16l2 := (hQl2.symm.trans (by rw [show kl2 = yl1.2.length by omega, List.drop_length, index_Check_l2]))
    refine id (Post.blkN ?_)
    refine id (Post.thnN ?_)
    refine T.region ?_
    refine R.addI rfl rfl rfl (by omega) ?_
    refine R.mvE rfl (by conv => lhs; whnf) ?_
    refine TL.nil (Post.thnN ?_)
    exact ⟨(kl1 + 1, xM16l2, cM16l2), (s_l1.trans (sb5_2.trans s_l2)), ⟨(by omega), (Has.cons .hd Has.nil), wM16l2, (by intro n; have := hBl2_0 n; omega), (by rw [← hQl1, drop_cons hyl1, index_Check_l1]; rw [if_f c26, hEl2, LR.seq_go])⟩, by show a0.length - (kl1 + 1) < a0.length - kl1; omega, rfl, rfl, rfl, rfl, trivial⟩
  refine T.exit (Post.thnE (Post.thnE (Post.blkX ?_)))
  have hEl1 : index_Check_l1 a0 (((fun _ => []) : Int → List Int)) = .go xM16l1 := (hQl1.symm.trans (by rw [show kl1 = a0.length by omega, List.drop_length, index_Check_l1]))
  refine id (Post.thnN ?_)
  refine T.seq ?_
  refine T.region ?_
  refine R.asE rfl (by conv => lhs; whnf) ?_
  refine TL.nil (Post.thnN ?_)
  refine T.seq ?_
  refine T.label (Post.thnN ?_)
  refine T.seq ?_
  refine T.seq ?_
  refine T.region ?_
  refine R.mvE rfl (by conv => lhs; whnf) ?_
  refine TL.shut .hd ?_
  intro HF16_3 sF16_3 qF16_3
  have fF16_3 := MapO.read wM16l1 sF16_3 qF16_3
  obtain ⟨es16_3, ck16_3, mm16_3, kF16_3⟩ := MapO.readK wM16l1 sF16_3 qF16_3
  refine R.rngH Try.underlying97 rfl rfl kF16_3.hb ?_
  intro b46
  refine TL.nil (Post.thnN ?_)
  refine T.cutK (ι := Int) (fun n8c3 H' L' ds' => Has L' [] ∧ (if (a0.flatMap Prod.snd).any (fun n_ => index_Check_l4 (xM16l1 n_)) = true then 240 else 0 : Int) = n8c3) (fun n8c3 => [(8, .int .i64 n8c3)]) ?_ ?_
  · refine T.block ?_
    refine T.loop (ι := Array Nat) (fun snl4 H' L' ds' => Has L' [[(b46, .mapIter (some b16) ck16_3 snl4 ck16_3)]] ∧ SeenB es16_3 snl4 ∧ (∀ e ∈ es16_3.toList, e.born ∈ snl4 → ∀ q ∈ mm16_3, e.key = Value.int .i64 q.1 → index_Check_l4 (xM16l1 q.1) = false)) (fun snl4 => [(8, .int .i64 0), (46, .pointer (some ⟨b46, 0, none⟩))]) (fun snl4 => es16_3.size - snl4.size) #[] ?_ ?_ ?_
    · exact ⟨(Has.cons .hd Has.nil), SeenB.nil _, fun e _ h => absurd h (Array.not_mem_empty _)⟩
    · exact ⟨rfl, rfl, trivial⟩
    intro snl4 σ_l4 H_l4 L_l4 ds_l4 s_l4 hI_l4
    obtain ⟨hLl4, hSl4, hGl4⟩ := hI_l4
    refine T.has hLl4 ?_
    refine T.seq ?_
    refine T.region ?_
    refine R.nxtH rfl rfl .hd (MrK.mono kF16_3 s_l4).hb (MrK.mono kF16_3 s_l4).hk.2 ?_
    intro v47 sn47 h47
    rcases h47 with ⟨hv47, hs47, hall47⟩ | ⟨e47, he47, hn47, hv47, hs47⟩ <;> subst hv47 <;> rw [hs47] <;> clear hs47
    · refine R.ext rfl rfl rfl ?_
      refine TL.nil (Post.thnN ?_)
      refine T.seq ?_
      refine T.condN rfl ?_
      refine T.exit (Post.thnE (Post.thnE (Post.blkX ?_)))
      have hEl4 : (a0.flatMap Prod.snd).any (fun n_ => index_Check_l4 (xM16l1 n_)) = false := anyF kF16_3 (c := index_Check_l4) (by kernel_rfl) (a0.flatMap Prod.snd) hall47 hGl4
      refine id (Post.thnN ?_)
      exact ⟨0, s_l4, ⟨Has.nil, (by rw [if_f hEl4])⟩, rfl, trivial⟩
    refine R.ext rfl rfl rfl ?_
    refine TL.nil (Post.thnN ?_)
    refine T.seq ?_
    refine T.condY rfl ?_
    refine T.skip (Post.thnN ?_)
    refine T.block ?_
    refine T.seq ?_
    refine T.region ?_
    obtain ⟨⟨q49, u49⟩, hq49, hk49, hu49⟩ := mapEntry (MrK.mono kF16_3 s_l4).hk.1 he47
    dsimp only at hk49 hu49
    have w49 := (MrK.mono kF16_3 s_l4).rd _ hq49
    dsimp only at w49
    obtain ⟨y49, ey49⟩ : ∃ y, y = xM16l1 q49 := ⟨_, rfl⟩
    rw [← ey49] at w49
    obtain ⟨A49, p49, rfl, m49, n49, w49⟩ := RdS.shape w49
    refine R.entH rfl rfl .hd (MrK.mono kF16_3 s_l4).hb (MrK.mono kF16_3 s_l4).hk.2 he47 ?_
    refine TL.set 49 (.tuple #[.int .i64 q49, .slice A49 y49.length p49]) (by rw [hk49, hu49]; rfl) ?_
    refine R.ext rfl rfl rfl ?_
    refine R.asE rfl (by conv => lhs; whnf) ?_
    refine TL.nil (Post.thnN ?_)
    refine T.seq ?_
    refine T.region ?_
    refine R.mvE rfl (by conv => lhs; whnf) ?_
    obtain ⟨r52, er52⟩ : ∃ r, r = (index_bare_m y49) := ⟨_, rfl⟩
    refine TL.call [] rfl rfl rfl (index_bare_c _ _ y49 w49 (by rw [ey49]; have := hBl1_0 q49; omega)) ?_
    intro v52 H52 L52 s52 q52
    rw [← er52] at q52
    obtain ⟨u52_0_0, c52_0_0, rfl, rfl, w52_0_0⟩ := q52
    obtain ⟨A52_0_0, p52_0_0, rfl, m52_0_0, n52_0_0⟩ := OwnS.shape w52_0_0
    refine R.asE rfl (by conv => lhs; whnf) ?_
    refine TL.nil (Post.thnN ?_)
    refine T.seq ?_
    refine T.cutK (ι := Bool) (fun b62c5 H' L' ds' => Has L' [[(b46, .mapIter (some b16) ck16_3 (snl4.push e47.born) ck16_3)]] ∧ (if ((types_Check_m r52) : Int) ≠ 0 then true else (LR.seq (index_Keys_m r52) (fun r58 => (decide (¬ (r58 = y49))))) : Bool) = b62c5) (fun b62c5 => [(8, .int .i64 0), (46, .pointer (some ⟨b46, 0, none⟩)), (62, .bool (b62c5))]) ?_ ?_
    · refine T.region ?_
      refine R.mvE rfl (by conv => lhs; whnf) ?_
      refine TL.shut .hd ?_
      intro HF52_0_0_4 sF52_0_0_4 qF52_0_0_4
      have fF52_0_0_4 := OwnS.read w52_0_0 sF52_0_0_4 qF52_0_0_4
      refine R.callv rfl rfl rfl (types_Check_c _ _ r52 fF52_0_0_4) ?_
      refine R.neq rfl rfl rfl ?_
      refine R.mvE rfl (by conv => lhs; whnf) ?_
      refine TL.gsplitD 56 rfl (fun g56 => ?_) (fun g56 => ?_)
      · refine TL.off rfl rfl rfl ?_
        refine TL.off rfl rfl rfl ?_
        refine TL.off rfl rfl rfl ?_
        refine TL.off rfl rfl rfl ?_
        refine TL.off rfl rfl rfl ?_
        refine R.pkTE rfl rfl (by conv => lhs; whnf) ?_
        refine TL.nil (Post.thnN ?_)
        exact ⟨true, sF52_0_0_4, ⟨(Has.cons .hd Has.nil), (by rw [if_pos g56])⟩, rfl, rfl, rfl, trivial⟩
      refine R.mvE rfl (by conv => lhs; whnf) ?_
      obtain ⟨r58, er58⟩ : ∃ r, r = (index_Keys_m r52) := ⟨_, rfl⟩
      refine TL.call [] rfl rfl rfl (index_Keys_c _ _ r52 fF52_0_0_4) ?_
      intro v58 H58 L58 s58 q58
      rw [← er58] at q58
      obtain ⟨u58_0_0, c58_0_0, rfl, rfl, w58_0_0⟩ := q58
      obtain ⟨A58_0_0, p58_0_0, rfl, m58_0_0, n58_0_0⟩ := OwnS.shape w58_0_0
      have tK58 := Keys_len _ _ er58
      refine R.mvE rfl (by conv => lhs; whnf) ?_
      refine TL.shut .hd ?_
      intro HF58_0_0_5 sF58_0_0_5 qF58_0_0_5
      have fF58_0_0_5 := OwnS.read w58_0_0 sF58_0_0_5 qF58_0_0_5
      refine R.callv rfl rfl rfl (slices_Equal_Id_d _ _ r58 fF58_0_0_5 _ y49 (w49.mono (s52.trans (sF52_0_0_4.trans (s58.trans sF58_0_0_5))))) ?_
      refine R.notD rfl rfl ?_
      refine R.pkFE rfl rfl (by conv => lhs; whnf) ?_
      refine TL.nil (Post.thnN ?_)
      exact ⟨(decide (¬ (r58 = y49))), (sF52_0_0_4.trans (s58.trans sF58_0_0_5)), ⟨(Has.cons .hd Has.nil), (by subst er58; rw [if_neg g56, LR.seq_go])⟩, rfl, rfl, rfl, trivial⟩
    intro b62c5 σ_c5 H_c5 L_c5 ds_c5 s_c5 hI_c5
    obtain ⟨hLc5, hTc5⟩ := hI_c5
    refine T.has hLc5 ?_
    refine T.cond rfl (fun c62 => ?_) (fun c62 => ?_)
    · refine T.set 62 (.bool true) (congrArg Value.bool c62) ?_
      have hZ62 := hTc5.trans c62
      try simp only [or_f, or_t, and_f, and_t, decide_eq_true_eq, decide_eq_false_iff_not, Bool.not_eq_true'] at hZ62
      refine T.seq ?_
      refine T.region ?_
      refine R.asE rfl (by conv => lhs; whnf) ?_
      refine TL.nil (Post.thnN ?_)
      refine T.exit (Post.blkE rfl (Post.thnE (Post.blkX ?_)))
      have hXl4 : index_Check_l4 y49 = true := by subst er52; rw [index_Check_l4, LR.seq_go, hTc5, LR.seq_go, if_t c62]
      have hEl4 : (a0.flatMap Prod.snd).any (fun n_ => index_Check_l4 (xM16l1 n_)) = true := anyT kF16_3 (c := index_Check_l4) (by kernel_rfl) (fun n hn => check_ks _ _ hEl1 n hn) (q := (q49, Value.bool false)) (by show index_Check_l4 (xM16l1 q49) = true; rw [← ey49]; exact hXl4)
      refine id (Post.thnN ?_)
      exact ⟨240, (s_l4.trans (s52.trans s_c5)), ⟨Has.nil, (by rw [if_t hEl4])⟩, rfl, trivial⟩
    refine T.set 62 (.bool false) (congrArg Value.bool c62) ?_
    have hZ62 := hTc5.trans c62
    try simp only [or_f, or_t, and_f, and_t, decide_eq_true_eq, decide_eq_false_iff_not, Bool.not_eq_true'] at hZ62
    refine T.skip (Post.blkN ?_)
    refine id (Post.thnN ?_)
    have hXl4 : index_Check_l4 y49 = false := by subst er52; rw [index_Check_l4, LR.seq_go, hTc5, LR.seq_go, if_f c62]
    exact ⟨snl4.push e47.born, (s_l4.trans (s52.trans s_c5)), ⟨(Has.cons .hd Has.nil), hSl4.push he47 hn47, seenStep kF16_3.hk.2 he47 hk49 (by rw [← ey49]; exact hXl4) hGl4⟩, SeenB.less hSl4 he47 hn47, rfl, rfl, trivial⟩
  intro n8c3 σ_c3 H_c3 L_c3 ds_c3 s_c3 hI_c3
  obtain ⟨hLc3, hTc3⟩ := hI_c3
  refine T.has hLc3 ?_
  refine T.seq ?_
  refine T.region ?_
  refine R.mvE rfl (by conv => lhs; whnf) ?_
  refine R.asE rfl (by conv => lhs; whnf) ?_
  refine TL.nil (Post.thnN ?_)
  refine T.has Has.nil ?_
  refine T.ret (Post.ngR ?_)
  have hM : index_Check_m a0 = n8c3 := by rw [index_Check_m, if_f c15, hEl1, LR.on_go, hTc3, LR.seq_go]
  exact fin1L (v := .int .i64 n8c3) [] rfl rfl (List.Sublist.refl _) ⟨rfl, by first | rw [hM] | rfl⟩
end Go.SX

set_option linter.unusedVariables false
set_option linter.unusedSimpArgs false
namespace Go.SX
open Go
abbrev Ix := List (Int × List Int)
/-- each stands ahead of the next -/
def risesL {α : Type} (d : α) (a : List α) (c : α → α → Int) : Nat → Int → LR Bool Int
  | 0, _ => .go default
  | m + 1, s => if s < (a.length : Int) then (if (0 : Int) ≤ c (a.getD (s - 1).toNat d) (a.getD s.toNat d) then .ret false else risesL d a c m (s + 1)) else .go s
theorem rises_int_L (a : List Int) (c : Int → Int → Int) : ∀ (m : Nat) (s : Int), index_rises_int_l1 a c m s = risesL 0 a c m s
  | 0, _ => rfl
  | m + 1, s => by rw [index_rises_int_l1, risesL, rises_int_L a c m]
theorem rises_row_L (a : Ix) (c : Int × List Int → Int × List Int → Int) : ∀ (m : Nat) (s : Int), index_rises_Listed_l1 a c m s = risesL (0, []) a c m s
  | 0, _ => rfl
  | m + 1, s => by rw [index_rises_Listed_l1, risesL, rises_row_L a c m]
theorem risesL_iff {α : Type} (d : α) (a : List α) (c : α → α → Int) : ∀ (m k : Nat), a.length - k < m → 1 ≤ k →
    (LR.on (risesL d a c m (k : Int)) (fun r => r) (fun _ => true) = true ↔ ∀ i, k ≤ i → i < a.length → c (a.getD (i - 1) d) (a.getD i d) < 0)
  | 0, k, h, _ => by omega
  | m + 1, k, h, h1 => by
    rw [risesL]
    by_cases hk : k < a.length
    · rw [if_pos (show (k : Int) < (a.length : Int) by omega), show ((k : Int) - 1).toNat = k - 1 by omega, Int.toNat_natCast]
      by_cases hc : (0 : Int) ≤ c (a.getD (k - 1) d) (a.getD k d)
      · rw [if_pos hc, LR.on_ret]
        constructor
        · intro q; cases q
        · intro q; have := q k (Nat.le_refl _) hk; omega
      · rw [if_neg hc, show (k : Int) + 1 = ((k + 1 : Nat) : Int) by omega, risesL_iff d a c m (k + 1) (by omega) (by omega)]
        constructor
        · intro q i h2 h3
          rcases Nat.eq_or_lt_of_le h2 with e | e
          · subst e; omega
          · exact q i e h3
        · exact fun q i h2 h3 => q i (by omega) h3
    · rw [if_neg (show ¬ (k : Int) < (a.length : Int) by omega), LR.on_go]
      exact ⟨fun _ i h2 h3 => by omega, fun _ => rfl⟩
theorem cmp_Id_lt (x y : Int) : cmp_Compare_Id_m x y < 0 ↔ x < y := by
  unfold cmp_Compare_Id_m cmp_isNaN_Id_m
  simp only [ne_eq, not_true_eq_false, decide_false, Bool.false_eq_true, if_false]
  by_cases h : x < y
  · rw [if_pos h]; exact ⟨fun _ => h, fun _ => by decide⟩
  · rw [if_neg h]; split <;> exact ⟨fun q => by omega, fun q => absurd q h⟩
theorem cmp_int_lt (x y : Int) : cmp_Compare_int_m x y < 0 ↔ x < y := by
  unfold cmp_Compare_int_m cmp_isNaN_int_m
  simp only [ne_eq, not_true_eq_false, decide_false, Bool.false_eq_true, if_false]
  by_cases h : x < y
  · rw [if_pos h]; exact ⟨fun _ => h, fun _ => by decide⟩
  · rw [if_neg h]; split <;> exact ⟨fun q => by omega, fun q => absurd q h⟩
theorem pw_adj {l : List Int} (h : l.Pairwise (· < ·)) (i : Nat) (h1 : 1 ≤ i) (h2 : i < l.length) : l.getD (i - 1) 0 < l.getD i 0 := by
  rw [List.getD_eq_getElem?_getD, List.getD_eq_getElem?_getD, List.getElem?_eq_getElem h2, List.getElem?_eq_getElem (by omega : i - 1 < l.length)]
  exact (List.pairwise_iff_getElem.1 h) (i - 1) i (by omega) h2 (by omega)
theorem rises_int_iff (l : List Int) : index_rises_int_m l (fun z0 z1 => cmp_Compare_int_m z0 z1) = true ↔ l.Pairwise (· < ·) := by
  unfold index_rises_int_m
  rw [rises_int_L]
  refine (risesL_iff 0 l _ _ 1 (by omega) (by omega)).trans ?_
  constructor
  · intro h
    exact adj_up (fun i hi => (cmp_int_lt _ _).1 (h (i + 1) (by omega) hi))
  · intro h i h1 h2
    exact (cmp_int_lt _ _).2 (pw_adj h i h1 h2)
theorem getD_fst (x : Ix) (i : Nat) : (x.getD i (0, [])).1 = (x.map Prod.fst).getD i 0 := by
  rw [List.getD_eq_getElem?_getD, List.getD_eq_getElem?_getD, List.getElem?_map]
  cases x[i]? <;> rfl
theorem rises_row_iff (x : Ix) : index_rises_Listed_m x (fun z0 z1 => index_compare_m z0 z1) = true ↔ (x.map Prod.fst).Pairwise (· < ·) := by
  unfold index_rises_Listed_m
  rw [rises_row_L]
  refine (risesL_iff (0, []) x _ _ 1 (by omega) (by omega)).trans ?_
  constructor
  · intro h
    refine adj_up (fun i hi => ?_)
    have := (cmp_Id_lt _ _).1 (h (i + 1) (by omega) (by rw [List.length_map] at hi; exact hi))
    rw [getD_fst, getD_fst] at this
    exact this
  · intro h i h1 h2
    refine (cmp_Id_lt _ _).2 ?_
    rw [getD_fst, getD_fst]
    exact pw_adj h i h1 (by rw [List.length_map]; exact h2)
theorem containsF_int (l : List Int) (p : Int → Bool) : slices_ContainsFunc_int_m l p = true ↔ ∃ y ∈ l, p y = true := by
  unfold slices_ContainsFunc_int_m
  rcases idxf_int l p with ⟨j, h1, h2, h3, _⟩ | ⟨h1, h2⟩
  · rw [h1]
    refine ⟨fun _ => ⟨l.getD j 0, ?_, h3⟩, fun _ => decide_eq_true (by omega)⟩
    rw [List.getD_eq_getElem?_getD, List.getElem?_eq_getElem h2]; exact List.getElem_mem h2
  · rw [h1]
    refine ⟨fun q => by exact absurd (of_decide_eq_true q) (by decide), ?_⟩
    rintro ⟨y, hy, hp⟩
    rw [h2 y hy] at hp; cases hp
theorem table_iff (n : Int) : index_table_m n = true ↔ 1 ≤ n ∧ n ≤ 1048576 := by
  unfold index_table_m
  by_cases h : (1 : Int) ≤ n
  · rw [if_pos h, decide_eq_true_eq]; exact ⟨fun q => ⟨h, q⟩, fun q => q.2⟩
  · rw [if_neg h]; exact ⟨fun q => (by cases q), fun q => absurd q.1 h⟩
/-- A row that may be. -/
structure RowOk (r : Int × List Int) : Prop where
  kind : kindG r.1 = 2 ∨ kindG r.1 = 3 ∨ kindG r.1 = 4
  ne : r.2 ≠ []
  up : r.2.Pairwise (· < ·)
  rng : ∀ n ∈ r.2, 1 ≤ n ∧ n ≤ 1048576
theorem row_iff (r : Int × List Int) : index_row_m r = true ↔ RowOk r := by
  unfold index_row_m
  rw [LR.seq_go]
  have hk : (if (kindG r.1) = 2 then true else (if (kindG r.1) = 3 then true else decide ((kindG r.1) = 4))) = true ↔ (kindG r.1 = 2 ∨ kindG r.1 = 3 ∨ kindG r.1 = 4) := by
    by_cases h2 : kindG r.1 = 2 <;> by_cases h3 : kindG r.1 = 3 <;> simp [h2, h3]
  generalize (if (kindG r.1) = 2 then true else (if (kindG r.1) = 3 then true else decide ((kindG r.1) = 4))) = b at hk ⊢
  have hcf : (!(slices_ContainsFunc_int_m r.2 (fun z0 => index_row_1_m z0))) = true ↔ ∀ n ∈ r.2, 1 ≤ n ∧ n ≤ 1048576 := by
    rw [Bool.not_eq_true', ← Bool.not_eq_true, containsF_int]
    constructor
    · intro q n hn
      refine (table_iff n).1 ?_
      cases e : index_table_m n with
      | true => rfl
      | false => exact absurd ⟨n, hn, by unfold index_row_1_m; rw [e]; rfl⟩ q
    · rintro q ⟨n, hn, e⟩
      unfold index_row_1_m at e
      rw [(table_iff n).2 (q n hn)] at e; cases e
  constructor
  · intro q
    split at q
    · rename_i hb
      split at q
      · rename_i hl
        split at q
        · rename_i hr
          exact ⟨hk.1 hb, fun e => by rw [e] at hl; exact absurd hl (by decide), (rises_int_iff _).1 hr, hcf.1 q⟩
        · cases q
      · cases q
    · cases q
  · rintro ⟨h1, h2, h3, h4⟩
    have hl : (0 : Int) < (r.2.length : Int) := by
      have := List.length_pos_iff.2 h2; omega
    rw [if_pos (hk.2 h1), if_pos hl, if_pos ((rises_int_iff _).2 h3), hcf.2 h4]
def bareA (l : List Int) : List Int := l.filter (fun y => !decide (kindG y = 4))
theorem bare_eq (l : List Int) : index_bare_m l = bareA l := by
  unfold index_bare_m
  rw [LR.seq_go, delf_Id]; rfl
def inA (x : Ix) (n : Int) : List Int := (x.filter (fun r => decide (n ∈ r.2))).map (fun r => r.1)
theorem l4_iff (ids : List Int) : index_Check_l4 ids = false ↔ types_Check_m (bareA ids) = 0 ∧ index_Keys_m (bareA ids) = ids := by
  unfold index_Check_l4
  simp only [LR.seq_go]
  rw [bare_eq]
  have hb : ∀ b : Bool, (if b = true then true else false) = b := fun b => by cases b <;> rfl
  rw [hb]
  by_cases h : types_Check_m (bareA ids) = 0
  · rw [if_neg (fun q => q h), decide_eq_false_iff_not, Decidable.not_not]
    exact ⟨fun e => ⟨h, e⟩, fun e => e.2⟩
  · rw [if_pos h]; exact ⟨fun q => (by cases q), fun q => absurd q.1 h⟩
theorem check_l1_go : ∀ (l : Ix) (f : Int → List Int), (∀ r ∈ l, RowOk r) → ∃ g, index_Check_l1 l f = .go g
  | [], f, _ => ⟨f, rfl⟩
  | r :: l, f, h => by
    rw [index_Check_l1, (row_iff r).2 (h r (List.mem_cons_self ..)), Bool.not_true, if_neg Bool.false_ne_true, LR.seq_go]
    exact check_l1_go l _ (fun q hq => h q (List.mem_cons_of_mem _ hq))
theorem check_l1_no : ∀ (l : Ix) (f : Int → List Int), (¬ ∀ r ∈ l, RowOk r) → index_Check_l1 l f = .ret 240
  | [], f, h => absurd (fun r hr => by cases hr) h
  | r :: l, f, h => by
    rw [index_Check_l1]
    cases e : index_row_m r with
    | false => rw [Bool.not_false, if_pos rfl]
    | true =>
      rw [Bool.not_true, if_neg Bool.false_ne_true, LR.seq_go]
      refine check_l1_no l _ (fun q => h (fun z hz => ?_))
      rcases List.mem_cons.1 hz with rfl | hz
      · exact (row_iff z).1 e
      · exact q z hz
theorem filter_one : ∀ {l : List Int} (n : Int), l.Pairwise (· < ·) → l.filter (fun y => decide (y = n)) = if n ∈ l then [n] else []
  | [], n, _ => by simp
  | y :: l, n, h => by
    rw [List.pairwise_cons] at h
    rw [List.filter_cons, filter_one n h.2]
    by_cases e : y = n
    · subst e
      rw [if_pos (by simp), if_pos (List.mem_cons_self ..), if_neg (fun q => by have := h.1 y q; omega)]
    · rw [if_neg (by simpa using e)]
      by_cases q : n ∈ l
      · rw [if_pos q, if_pos (List.mem_cons_of_mem _ q)]
      · rw [if_neg q, if_neg (fun z => by rcases List.mem_cons.1 z with z | z; exact e z.symm; exact q z)]
theorem flat_inA (n : Int) : ∀ (x : Ix), (∀ r ∈ x, RowOk r) → x.flatMap (fun r => (r.2.filter (fun y => decide (y = n))).map (fun _ => r.1)) = inA x n
  | [], _ => rfl
  | r :: x, h => by
    have ih := flat_inA n x (fun q hq => h q (List.mem_cons_of_mem _ hq))
    rw [List.flatMap_cons, ih, filter_one n (h r (List.mem_cons_self ..)).up]
    unfold inA
    rw [List.filter_cons]
    by_cases e : n ∈ r.2
    · rw [if_pos e, if_pos (by simpa using e)]; rfl
    · rw [if_neg e, if_neg (by simpa using e)]; rfl
/-- An index that may be. -/
structure RightI (x : Ix) : Prop where
  up : (x.map Prod.fst).Pairwise (· < ·)
  rows : ∀ r ∈ x, RowOk r
  tabs : ∀ n, types_Check_m (bareA (inA x n)) = 0 ∧ index_Keys_m (bareA (inA x n)) = inA x n
theorem inA_none {x : Ix} {n : Int} (h : ¬ n ∈ x.flatMap Prod.snd) : inA x n = [] := by
  unfold inA
  rw [List.map_eq_nil_iff, List.filter_eq_nil_iff]
  intro r hr q
  exact h (List.mem_flatMap.2 ⟨r, hr, of_decide_eq_true q⟩)
theorem check_iff (x : Ix) : (index_Check_m x = 0 ↔ RightI x) ∧ (index_Check_m x ≠ 0 → index_Check_m x = 240) := by
  unfold index_Check_m
  by_cases h1 : index_rises_Listed_m x (fun z0 z1 => index_compare_m z0 z1) = true
  rotate_left
  · rw [if_pos (by rw [Bool.not_eq_true', ← Bool.not_eq_true]; exact h1)]
    exact ⟨⟨fun q => (by cases q), fun q => absurd ((rises_row_iff x).2 q.up) h1⟩, fun _ => rfl⟩
  rw [h1, Bool.not_true, if_neg Bool.false_ne_true]
  by_cases h2 : ∀ r ∈ x, RowOk r
  rotate_left
  · rw [check_l1_no x _ h2, LR.on_ret]
    exact ⟨⟨fun q => (by cases q), fun q => absurd q.rows h2⟩, fun _ => rfl⟩
  obtain ⟨g, hg⟩ := check_l1_go x (fun _ => []) h2
  rw [hg, LR.on_go, LR.seq_go]
  have hgn : ∀ n, g n = inA x n := fun n => by rw [check_l1_at n x _ g hg, List.nil_append, flat_inA n x h2]
  have hany : (x.flatMap Prod.snd).any (fun n_ => index_Check_l4 (g n_)) = false ↔ ∀ n, types_Check_m (bareA (inA x n)) = 0 ∧ index_Keys_m (bareA (inA x n)) = inA x n := by
    rw [List.any_eq_false]
    constructor
    · intro q n
      by_cases e : n ∈ x.flatMap Prod.snd
      · have := q n e
        rw [hgn n, Bool.not_eq_true] at this
        exact (l4_iff _).1 this
      · rw [inA_none e]
        exact (l4_iff []).1 (by kernel_rfl)
    · intro q n _
      rw [hgn n, Bool.not_eq_true]
      exact (l4_iff _).2 (q n)
  cases e : (x.flatMap Prod.snd).any (fun n_ => index_Check_l4 (g n_)) with
  | true =>
    rw [if_pos rfl]
    refine ⟨⟨fun q => (by cases q), fun q => ?_⟩, fun _ => rfl⟩
    rw [hany.2 q.tabs] at e; cases e
  | false =>
    rw [if_neg Bool.false_ne_true]
    exact ⟨⟨fun _ => ⟨(rises_row_iff x).1 h1, h2, hany.1 e⟩, fun _ => rfl⟩, fun q => absurd rfl q⟩
end Go.SX

set_option linter.unusedVariables false
set_option linter.unusedSimpArgs false
namespace Go.SX
open Go Go.Proofs

theorem getD_mem_or {α : Type} (l : List α) (i : Nat) (d : α) : l.getD i d ∈ l ∨ l.getD i d = d := by
  rw [List.getD_eq_getElem?_getD]
  cases h : l[i]? with
  | none => exact .inr rfl
  | some y => exact .inl (List.mem_of_getElem? h)
theorem bf_l1 (a : List (Int × List Int)) (x : Int × List Int) (c : Int × List Int → Int × List Int → Int) (hl : a.length ≤ 2000000) : ∀ (k m : Nat) (i j : Int), (j - i).toNat ≤ k → k < m → 0 ≤ i → i ≤ j → j ≤ (a.length : Int) → 0 ≤ (slices_BinarySearchFunc_Listed_l1 a x c m (i, j)).1 ∧ (slices_BinarySearchFunc_Listed_l1 a x c m (i, j)).1 ≤ (a.length : Int)
  | k, 0, i, j, _, h, _, _, _ => by omega
  | k, m + 1, i, j, h1, h2, h3, h4, h5 => by
    simp only [slices_BinarySearchFunc_Listed_l1]
    by_cases h : i < j
    · rw [if_pos h, midI h3 h (by omega)]
      cases k with
      | zero => omega
      | succ k =>
        split
        · exact bf_l1 a x c hl k m ((i + j) / 2 + 1) j (by omega) (by omega) (by omega) (by omega) h5
        · exact bf_l1 a x c hl k m i ((i + j) / 2) (by omega) (by omega) h3 (by omega) (by omega)
    · rw [if_neg h]; exact ⟨h3, by simp only; omega⟩
theorem bf_rng (a : List (Int × List Int)) (x : Int × List Int) (c : Int × List Int → Int × List Int → Int) (r : Int × Bool) (e : r = slices_BinarySearchFunc_Listed_m a x c) (hl : a.length ≤ 2000000) : 0 ≤ r.1 ∧ r.1 ≤ (a.length : Int) ∧ (r.2 = true → r.1 < (a.length : Int)) := by
  have h := bf_l1 a x c hl a.length (((a.length : Int) - 0).toNat + 1) 0 a.length (by omega) (by omega) (by omega) (by omega) (by omega)
  unfold slices_BinarySearchFunc_Listed_m at e
  simp only [LR.seq_go] at e
  rw [e]
  generalize slices_BinarySearchFunc_Listed_l1 a x c (((a.length : Int) - 0).toNat + 1) (0, (a.length : Int)) = q at h ⊢
  by_cases hq : q.1 < (a.length : Int)
  · rw [if_pos hq]
    exact ⟨h.1, h.2, fun _ => hq⟩
  · rw [if_neg hq]
    exact ⟨h.1, h.2, fun k => by cases k⟩
def cmp_Less_int_m (a0 : Int) (a1 : Int) : Bool :=
  if (cmp_isNaN_int_m a0) = true then (if (!(cmp_isNaN_int_m a1)) = true then true else ((decide (a0 < a1)))) else ((decide (a0 < a1)))
set_option maxHeartbeats 3200000 in
theorem cmp_Less_int_c (H : Heap) (a0 : Int) (a1 : Int) : Fv Try.prog (fnv 140) [.int .i64 a0, .int .i64 a1] H (.bool (cmp_Less_int_m a0 a1)) := by
  refine Fc.of_body (N := 17) Try.func140 rfl (by kernel_rfl) rfl rfl ?_
  intro w0
  refine T.seq ?_
  refine T.region ?_
  refine R.asE rfl (by conv => lhs; whnf) ?_
  refine TL.nil (Post.thnN ?_)
  refine T.seq ?_
  refine T.region ?_
  refine R.mvE rfl (by conv => lhs; whnf) ?_
  refine R.callv rfl rfl rfl (cmp_isNaN_int_c _ (a0)) ?_
  refine R.mvE rfl (by conv => lhs; whnf) ?_
  refine TL.gsplit 7 rfl (fun g7 => ?_) (fun g7 => ?_)
  · refine R.mvE rfl (by conv => lhs; whnf) ?_
    refine R.callv rfl rfl rfl (cmp_isNaN_int_c _ (a1)) ?_
    refine R.not rfl rfl ?_
    refine R.pkTE rfl rfl (by conv => lhs; whnf) ?_
    refine R.mvE rfl (by conv => lhs; whnf) ?_
    refine TL.gsplit 12 rfl (fun g12 => ?_) (fun g12 => ?_)
    · refine TL.off rfl rfl rfl ?_
      refine TL.off rfl rfl rfl ?_
      refine TL.off rfl rfl rfl ?_
      refine R.pkTE rfl rfl (by conv => lhs; whnf) ?_
      refine R.asE rfl (by conv => lhs; whnf) ?_
      refine TL.nil (Post.thnN ?_)
      refine T.has Has.nil ?_
      refine T.ret ?_
      have hM : cmp_Less_int_m a0 a1 = true := by rw [cmp_Less_int_m, if_t g7, if_t g12]
      exact fin1L (v := .bool true) [] rfl rfl (List.Sublist.refl _) ⟨rfl, by first | rw [hM] | rfl⟩
    refine R.mvE rfl (by conv => lhs; whnf) ?_
    refine R.mvE rfl (by conv => lhs; whnf) ?_
    refine R.lss rfl rfl rfl ?_
    refine R.pkFE rfl rfl (by conv => lhs; whnf) ?_
    refine R.asE rfl (by conv => lhs; whnf) ?_
    refine TL.nil (Post.thnN ?_)
    refine T.has Has.nil ?_
    refine T.ret ?_
    have hM : cmp_Less_int_m a0 a1 = (decide (a0 < a1)) := by rw [cmp_Less_int_m, if_t g7, if_f g12]
    exact fin1L (v := .bool (decide (a0 < a1))) [] rfl rfl (List.Sublist.refl _) ⟨rfl, by first | rw [hM] | rfl⟩
  refine TL.off rfl rfl rfl ?_
  refine TL.off rfl rfl rfl ?_
  refine TL.off rfl rfl rfl ?_
  refine R.pkFE rfl rfl (by conv => lhs; whnf) ?_
  refine R.mvE rfl (by conv => lhs; whnf) ?_
  refine R.mvE rfl (by conv => lhs; whnf) ?_
  refine R.mvE rfl (by conv => lhs; whnf) ?_
  refine R.lss rfl rfl rfl ?_
  refine R.pkFE rfl rfl (by conv => lhs; whnf) ?_
  refine R.asE rfl (by conv => lhs; whnf) ?_
  refine TL.nil (Post.thnN ?_)
  refine T.has Has.nil ?_
  refine T.ret ?_
  have hM : cmp_Less_int_m a0 a1 = (decide (a0 < a1)) := by rw [cmp_Less_int_m, if_f g7]
  exact fin1L (v := .bool (decide (a0 < a1))) [] rfl rfl (List.Sublist.refl _) ⟨rfl, by first | rw [hM] | rfl⟩
def slices_isNaN_int_m (a0 : Int) : Bool :=
  (decide (a0 ≠ a0))
set_option maxHeartbeats 3200000 in
theorem slices_isNaN_int_c (H : Heap) (a0 : Int) : Fv Try.prog (fnv 145) [.int .i64 a0] H (.bool (slices_isNaN_int_m a0)) := by
  refine Fc.of_body (N := 6) Try.func145 rfl (by kernel_rfl) rfl rfl ?_
  intro w0
  refine T.seq ?_
  refine T.region ?_
  refine R.asE rfl (by conv => lhs; whnf) ?_
  refine TL.nil (Post.thnN ?_)
  refine T.seq ?_
  refine T.region ?_
  refine R.mvE rfl (by conv => lhs; whnf) ?_
  refine R.mvE rfl (by conv => lhs; whnf) ?_
  refine R.neq rfl rfl rfl ?_
  refine R.asE rfl (by conv => lhs; whnf) ?_
  refine TL.nil (Post.thnN ?_)
  refine T.has Has.nil ?_
  refine T.ret ?_
  have hM : slices_isNaN_int_m a0 = (decide (a0 ≠ a0)) := by rw [slices_isNaN_int_m]
  exact fin1L (v := .bool (decide (a0 ≠ a0))) [] rfl rfl (List.Sublist.refl _) ⟨rfl, by first | rw [hM] | rfl⟩
def slices_BinarySearch_int_l1 (a0 : List Int) (a1 : Int) : Nat → (Int × Int) → Int × Int
  | 0, _ => default
  | ml1 + 1, sl1 => if sl1.1 < sl1.2 then (if (cmp_Less_int_m (a0.getD (((IntKind.i64.wrap (bshr .u64 (IntKind.u64.wrap (sl1.1 + sl1.2)) 1))).toNat) (0 : Int)) a1) = true then (slices_BinarySearch_int_l1 a0 a1 ml1 ((((IntKind.i64.wrap (bshr .u64 (IntKind.u64.wrap (sl1.1 + sl1.2)) 1)) + 1), sl1.2))) else (slices_BinarySearch_int_l1 a0 a1 ml1 ((sl1.1, (IntKind.i64.wrap (bshr .u64 (IntKind.u64.wrap (sl1.1 + sl1.2)) 1)))))) else ((sl1.1, sl1.2))
def slices_BinarySearch_int_m (a0 : List Int) (a1 : Int) : Int × Bool :=
  LR.seq (slices_BinarySearch_int_l1 a0 a1 ((((a0.length : Int)) - 0).toNat + 1) ((0, (a0.length : Int)))) (fun ol1 => if ol1.1 < (a0.length : Int) then (if (a0.getD ol1.1.toNat (0 : Int)) = a1 then ((ol1.1, true)) else (if (slices_isNaN_int_m (a0.getD ol1.1.toNat (0 : Int))) = true then ((ol1.1, (slices_isNaN_int_m a1))) else ((ol1.1, false)))) else ((ol1.1, false)))
set_option maxHeartbeats 3200000 in
theorem slices_BinarySearch_int_c (H : Heap) (va0 : Value) (a0 : List Int) (ha0 : RdS (intE .i64) H va0 a0) (a1 : Int) (hl : a0.length ≤ 2000000) : Fv Try.prog (fnv 95) [va0, .int .i64 a1] H (.tuple #[.int .i64 (slices_BinarySearch_int_m a0 a1).1, .bool (slices_BinarySearch_int_m a0 a1).2]) := by
  refine Fc.of_body (N := 54) Try.func95 rfl (by kernel_rfl) rfl rfl ?_
  intro w0
  obtain ⟨Aa0, ca0, rfl, hca0, hda0, ha0⟩ := ha0.shape
  refine T.seq ?_
  refine T.region ?_
  refine R.asE rfl (by conv => lhs; whnf) ?_
  refine R.asE rfl (by conv => lhs; whnf) ?_
  refine TL.nil (Post.thnN ?_)
  refine T.seq ?_
  refine T.region ?_
  refine R.mvE rfl (by conv => lhs; whnf) ?_
  refine R.len Try.underlying37 rfl rfl ?_
  refine R.asE rfl (by conv => lhs; whnf) ?_
  refine TL.nil (Post.thnN ?_)
  refine T.seq ?_
  refine T.region ?_
  refine R.mvE rfl (by conv => lhs; whnf) ?_
  refine R.asE rfl (by conv => lhs; whnf) ?_
  refine R.asE rfl (by conv => lhs; whnf) ?_
  refine TL.nil (Post.thnN ?_)
  refine T.seq ?_
  refine T.block ?_
  refine T.loop (ι := Nat × Int × Int) (fun ⟨kl1, n7l1, n8l1⟩ H' L' ds' => (n8l1 - n7l1).toNat < kl1 ∧ Has L' [] ∧ 0 ≤ n7l1 ∧ n7l1 ≤ n8l1 ∧ n8l1 ≤ (a0.length : Int) ∧ slices_BinarySearch_int_l1 a0 a1 kl1 ((n7l1, n8l1)) = slices_BinarySearch_int_l1 a0 a1 ((((a0.length : Int)) - 0).toNat + 1) ((0, (a0.length : Int)))) (fun ⟨kl1, n7l1, n8l1⟩ => [(0, .slice Aa0 a0.length ca0), (1, .int .i64 a1), (6, .int .i64 (a0.length : Int)), (7, .int .i64 n7l1), (8, .int .i64 n8l1)]) (fun ⟨kl1, n7l1, n8l1⟩ => kl1) (((((a0.length : Int)) - 0).toNat + 1), 0, (a0.length : Int)) ?_ ?_ ?_
  · exact ⟨(by omega), Has.nil, (by first | omega | (simp; done) | (simp; omega) | (simp at *; omega)), (by first | omega | (simp; done) | (simp; omega) | (simp at *; omega)), (by first | omega | (simp; done) | (simp; omega) | (simp at *; omega)), (by rfl)⟩
  · exact ⟨rfl, rfl, rfl, rfl, rfl, trivial⟩
  intro ⟨kl1, n7l1, n8l1⟩ σ_l1 H_l1 L_l1 ds_l1 s_l1 hI_l1
  obtain ⟨hkl1, hI_l1⟩ := hI_l1
  obtain ⟨ml1, rfl⟩ : ∃ m, kl1 = m + 1 := ⟨kl1 - 1, by omega⟩
  obtain ⟨hLl1, hBl1_0, hBl1_1, hBl1_2, hQl1⟩ := hI_l1
  refine T.has hLl1 ?_
  refine T.seq ?_
  refine T.seq ?_
  refine T.region ?_
  refine R.mvE rfl (by conv => lhs; whnf) ?_
  refine R.mvE rfl (by conv => lhs; whnf) ?_
  refine R.lss rfl rfl rfl ?_
  refine TL.nil (Post.thnN ?_)
  refine T.condD rfl (fun c15 => ?_) (fun c15 => ?_)
  · refine T.set 15 (.bool true) (congrArg Value.bool (decide_eq_true c15)) ?_
    refine T.skip (Post.thnN ?_)
    refine T.block ?_
    refine T.seq ?_
    refine T.region ?_
    refine R.mvE rfl (by conv => lhs; whnf) ?_
    refine R.mvE rfl (by conv => lhs; whnf) ?_
    refine R.addI rfl rfl rfl (by omega) ?_
    refine R.conv Try.underlying3 Try.underlying88 rfl rfl ?_
    refine R.shr rfl rfl rfl (by omega) ?_
    refine R.conv Try.underlying88 Try.underlying3 rfl rfl ?_
    refine R.asE rfl (by conv => lhs; whnf) ?_
    refine TL.nil (Post.thnN ?_)
    refine T.seq ?_
    have hmid := midI (i := n7l1) (j := n8l1) (by omega) (by omega) (by omega)
    refine T.region ?_
    refine R.mvE rfl (by conv => lhs; whnf) ?_
    refine R.mvE rfl (by conv => lhs; whnf) ?_
    have hl24 : ((IntKind.i64.wrap (bshr .u64 (IntKind.u64.wrap (n7l1 + n8l1)) 1))).toNat < a0.length := by first | omega | (simp; done) | (simp; omega) | (simp at *; omega)
    obtain ⟨y24, e24, h24⟩ : ∃ y, y = (a0.getD (((IntKind.i64.wrap (bshr .u64 (IntKind.u64.wrap (n7l1 + n8l1)) 1))).toNat) (0 : Int)) ∧ a0[((IntKind.i64.wrap (bshr .u64 (IntKind.u64.wrap (n7l1 + n8l1)) 1))).toNat]? = some y := ⟨_, rfl, getD_get (by first | exact hl24 | simpa using hl24 | (simp only [List.length_set]; omega) | omega | (rw [(sortI_perm _).length_eq]; exact hl24))⟩
    obtain ⟨b24, o24, i24, k24⟩ := RdS.elem (ha0.mono s_l1) h24
    obtain ⟨l24, g24, k24⟩ := k24
    obtain rfl : l24 = [.int .i64 y24] := g24
    refine R.ixp Try.underlying37 Try.sizeOf3 rfl rfl rfl (by first | omega | (simp; done) | (simp; omega) | (simp at *; omega)) i24 ?_
    refine R.ldC Try.isAgg3 rfl rfl (k24 0 _ rfl) ?_
    refine R.mvE rfl (by conv => lhs; whnf) ?_
    refine R.callv rfl rfl rfl (cmp_Less_int_c _ (y24) (a1)) ?_
    refine TL.nil (Post.thnN ?_)
    refine T.cond rfl (fun c27 => ?_) (fun c27 => ?_)
    · refine T.set 27 (.bool true) (congrArg Value.bool c27) ?_
      refine T.region ?_
      refine R.mvE rfl (by conv => lhs; whnf) ?_
      refine R.addI rfl rfl rfl (by omega) ?_
      refine R.asE rfl (by conv => lhs; whnf) ?_
      refine TL.nil (Post.blkN ?_)
      refine id (Post.thnN ?_)
      exact ⟨(ml1, ((IntKind.i64.wrap (bshr .u64 (IntKind.u64.wrap (n7l1 + n8l1)) 1)) + 1), n8l1), s_l1, ⟨(by first | omega | (simp; omega) | (simp at *; omega)), Has.nil, (by first | omega | (simp; done) | (simp; omega) | (simp at *; omega)), (by first | omega | (simp; done) | (simp; omega) | (simp at *; omega)), (by first | omega | (simp; done) | (simp; omega) | (simp at *; omega)), (by subst e24; rw [← hQl1, slices_BinarySearch_int_l1]; rw [if_pos c15, if_t c27])⟩, by show ml1 < ml1 + 1; omega, rfl, rfl, rfl, rfl, rfl, trivial⟩
    refine T.set 27 (.bool false) (congrArg Value.bool c27) ?_
    refine T.region ?_
    refine R.mvE rfl (by conv => lhs; whnf) ?_
    refine R.asE rfl (by conv => lhs; whnf) ?_
    refine TL.nil (Post.blkN ?_)
    refine id (Post.thnN ?_)
    exact ⟨(ml1, n7l1, (IntKind.i64.wrap (bshr .u64 (IntKind.u64.wrap (n7l1 + n8l1)) 1))), s_l1, ⟨(by first | omega | (simp; omega) | (simp at *; omega)), Has.nil, (by first | omega | (simp; done) | (simp; omega) | (simp at *; omega)), (by first | omega | (simp; done) | (simp; omega) | (simp at *; omega)), (by first | omega | (simp; done) | (simp; omega) | (simp at *; omega)), (by subst e24; rw [← hQl1, slices_BinarySearch_int_l1]; rw [if_pos c15, if_f c27])⟩, by show ml1 < ml1 + 1; omega, rfl, rfl, rfl, rfl, rfl, trivial⟩
  refine T.set 15 (.bool false) (congrArg Value.bool (decide_eq_false c15)) ?_
  refine T.exit (Post.thnE (Post.thnE (Post.blkX ?_)))
  have hEl1 : slices_BinarySearch_int_l1 a0 a1 ((((a0.length : Int)) - 0).toNat + 1) ((0, (a0.length : Int))) = (n7l1, n8l1) := (by rw [← hQl1, slices_BinarySearch_int_l1]; rw [if_neg c15])
  refine id (Post.thnN ?_)
  refine T.seq ?_
  refine T.region ?_
  refine R.mvE rfl (by conv => lhs; whnf) ?_
  refine R.mvE rfl (by conv => lhs; whnf) ?_
  refine R.mvE rfl (by conv => lhs; whnf) ?_
  refine R.lss rfl rfl rfl ?_
  refine R.mvE rfl (by conv => lhs; whnf) ?_
  refine TL.gsplitD 35 rfl (fun g35 => ?_) (fun g35 => ?_)
  · refine R.mvE rfl (by conv => lhs; whnf) ?_
    refine R.mvE rfl (by conv => lhs; whnf) ?_
    have hl38 : n7l1.toNat < a0.length := by first | omega | (simp; done) | (simp; omega) | (simp at *; omega)
    obtain ⟨y38, e38, h38⟩ : ∃ y, y = (a0.getD n7l1.toNat (0 : Int)) ∧ a0[n7l1.toNat]? = some y := ⟨_, rfl, getD_get (by first | exact hl38 | simpa using hl38 | (simp only [List.length_set]; omega) | omega | (rw [(sortI_perm _).length_eq]; exact hl38))⟩
    obtain ⟨b38, o38, i38, k38⟩ := RdS.elem (ha0.mono s_l1) h38
    obtain ⟨l38, g38, k38⟩ := k38
    obtain rfl : l38 = [.int .i64 y38] := g38
    refine R.ixp Try.underlying37 Try.sizeOf3 rfl rfl rfl (by first | omega | (simp; done) | (simp; omega) | (simp at *; omega)) i38 ?_
    refine R.ldC Try.isAgg3 rfl rfl (k38 0 _ rfl) ?_
    refine R.mvE rfl (by conv => lhs; whnf) ?_
    refine R.eql rfl rfl rfl ?_
    refine R.mvE rfl (by conv => lhs; whnf) ?_
    refine TL.gsplitD 42 rfl (fun g42 => ?_) (fun g42 => ?_)
    · refine TL.off rfl rfl rfl ?_
      refine TL.off rfl rfl rfl ?_
      refine TL.off rfl rfl rfl ?_
      refine TL.off rfl rfl rfl ?_
      refine TL.off rfl rfl rfl ?_
      refine TL.off rfl rfl rfl ?_
      refine TL.offU rfl rfl ?_
      refine TL.offU rfl rfl ?_
      refine TL.off rfl rfl rfl ?_
      refine R.pkTE rfl rfl (by conv => lhs; whnf) ?_
      refine R.pkTE rfl rfl (by conv => lhs; whnf) ?_
      refine R.asE rfl (by conv => lhs; whnf) ?_
      refine R.asE rfl (by conv => lhs; whnf) ?_
      refine TL.nil (Post.thnN ?_)
      refine T.has Has.nil ?_
      refine T.ret ?_
      have hM : slices_BinarySearch_int_m a0 a1 = (n7l1, true) := by subst e38; rw [slices_BinarySearch_int_m, hEl1, LR.seq_go, if_pos g35, if_pos g42]
      exact fin2L (v := .int .i64 n7l1) (v' := .bool true) [] rfl rfl rfl (List.Sublist.refl _) ⟨rfl, by first | rw [hM] | rfl⟩
    refine R.mvE rfl (by conv => lhs; whnf) ?_
    refine R.mvE rfl (by conv => lhs; whnf) ?_
    have hl45 : n7l1.toNat < a0.length := by first | omega | (simp; done) | (simp; omega) | (simp at *; omega)
    obtain ⟨y45, e45, h45⟩ : ∃ y, y = (a0.getD n7l1.toNat (0 : Int)) ∧ a0[n7l1.toNat]? = some y := ⟨_, rfl, getD_get (by first | exact hl45 | simpa using hl45 | (simp only [List.length_set]; omega) | omega | (rw [(sortI_perm _).length_eq]; exact hl45))⟩
    obtain ⟨b45, o45, i45, k45⟩ := RdS.elem (ha0.mono s_l1) h45
    obtain ⟨l45, g45, k45⟩ := k45
    obtain rfl : l45 = [.int .i64 y45] := g45
    refine R.ixp Try.underlying37 Try.sizeOf3 rfl rfl rfl (by first | omega | (simp; done) | (simp; omega) | (simp at *; omega)) i45 ?_
    refine R.ldC Try.isAgg3 rfl rfl (k45 0 _ rfl) ?_
    refine R.callv rfl rfl rfl (slices_isNaN_int_c _ (y45)) ?_
    refine R.mvE rfl (by conv => lhs; whnf) ?_
    refine TL.gsplit 48 rfl (fun g48 => ?_) (fun g48 => ?_)
    · refine R.mvE rfl (by conv => lhs; whnf) ?_
      refine R.callv rfl rfl rfl (slices_isNaN_int_c _ (a1)) ?_
      refine R.pkTE rfl rfl (by conv => lhs; whnf) ?_
      refine R.pkFE rfl rfl (by conv => lhs; whnf) ?_
      refine R.pkTE rfl rfl (by conv => lhs; whnf) ?_
      refine R.asE rfl (by conv => lhs; whnf) ?_
      refine R.asE rfl (by conv => lhs; whnf) ?_
      refine TL.nil (Post.thnN ?_)
      refine T.has Has.nil ?_
      refine T.ret ?_
      have hM : slices_BinarySearch_int_m a0 a1 = (n7l1, (slices_isNaN_int_m a1)) := by subst e45; subst e38; rw [slices_BinarySearch_int_m, hEl1, LR.seq_go, if_pos g35, if_neg g42, if_t g48]
      exact fin2L (v := .int .i64 n7l1) (v' := .bool ((slices_isNaN_int_m a1))) [] rfl rfl rfl (List.Sublist.refl _) ⟨rfl, by first | rw [hM] | rfl⟩
    refine TL.off rfl rfl rfl ?_
    refine TL.off rfl rfl rfl ?_
    refine R.pkFE rfl rfl (by conv => lhs; whnf) ?_
    refine R.pkFE rfl rfl (by conv => lhs; whnf) ?_
    refine R.pkTE rfl rfl (by conv => lhs; whnf) ?_
    refine R.asE rfl (by conv => lhs; whnf) ?_
    refine R.asE rfl (by conv => lhs; whnf) ?_
    refine TL.nil (Post.thnN ?_)
    refine T.has Has.nil ?_
    refine T.ret ?_
    have hM : slices_BinarySearch_int_m a0 a1 = (n7l1, false) := by subst e45; subst e38; rw [slices_BinarySearch_int_m, hEl1, LR.seq_go, if_pos g35, if_neg g42, if_f g48]
    exact fin2L (v := .int .i64 n7l1) (v' := .bool false) [] rfl rfl rfl (List.Sublist.refl _) ⟨rfl, by first | rw [hM] | rfl⟩
  refine TL.off rfl rfl rfl ?_
  refine TL.off rfl rfl rfl ?_
  refine TL.off rfl rfl rfl ?_
  refine TL.off rfl rfl rfl ?_
  refine TL.off rfl rfl rfl ?_
  refine TL.off rfl rfl rfl ?_
  refine TL.off rfl rfl rfl ?_
  refine TL.offU rfl rfl ?_
  refine TL.offU rfl rfl ?_
  refine TL.offU rfl rfl ?_
  refine TL.offU rfl rfl ?_
  refine TL.offU rfl rfl ?_
  refine TL.offU rfl rfl ?_
  refine TL.offU rfl rfl ?_
  refine TL.offU rfl rfl ?_
  refine TL.offU rfl rfl ?_
  refine TL.off rfl rfl rfl ?_
  refine R.pkFE rfl rfl (by conv => lhs; whnf) ?_
  refine R.asE rfl (by conv => lhs; whnf) ?_
  refine R.asE rfl (by conv => lhs; whnf) ?_
  refine TL.nil (Post.thnN ?_)
  refine T.has Has.nil ?_
  refine T.ret ?_
  have hM : slices_BinarySearch_int_m a0 a1 = (n7l1, false) := by rw [slices_BinarySearch_int_m, hEl1, LR.seq_go, if_neg g35]
  exact fin2L (v := .int .i64 n7l1) (v' := .bool false) [] rfl rfl rfl (List.Sublist.refl _) ⟨rfl, by first | rw [hM] | rfl⟩
theorem bsi_l1 (a : List Int) (x : Int) (hl : a.length ≤ 2000000) : ∀ (k m : Nat) (i j : Int), (j - i).toNat ≤ k → k < m → 0 ≤ i → i ≤ j → j ≤ (a.length : Int) → 0 ≤ (slices_BinarySearch_int_l1 a x m (i, j)).1 ∧ (slices_BinarySearch_int_l1 a x m (i, j)).1 ≤ (a.length : Int)
  | k, 0, i, j, _, h, _, _, _ => by omega
  | k, m + 1, i, j, h1, h2, h3, h4, h5 => by
    simp only [slices_BinarySearch_int_l1, LR.seq_go]
    by_cases h : i < j
    · rw [if_pos h, midI h3 h (by omega)]
      cases k with
      | zero => omega
      | succ k =>
        split
        · exact bsi_l1 a x hl k m ((i + j) / 2 + 1) j (by omega) (by omega) (by omega) (by omega) h5
        · exact bsi_l1 a x hl k m i ((i + j) / 2) (by omega) (by omega) h3 (by omega) (by omega)
    · rw [if_neg h]; exact ⟨h3, by simp only; omega⟩
theorem bsi_rng (a : List Int) (x : Int) (r : Int × Bool) (e : r = slices_BinarySearch_int_m a x) (hl : a.length ≤ 2000000) : 0 ≤ r.1 ∧ r.1 ≤ (a.length : Int) ∧ (r.2 = true → r.1 < (a.length : Int)) := by
  have h := bsi_l1 a x hl a.length (((a.length : Int) - 0).toNat + 1) 0 a.length (by omega) (by omega) (by omega) (by omega) (by omega)
  unfold slices_BinarySearch_int_m at e
  simp only [LR.seq_go] at e
  rw [e]
  generalize slices_BinarySearch_int_l1 a x (((a.length : Int) - 0).toNat + 1) (0, (a.length : Int)) = q at h ⊢
  by_cases hq : q.1 < (a.length : Int)
  · rw [if_pos hq]
    split
    · exact ⟨h.1, h.2, fun _ => hq⟩
    · split
      · exact ⟨h.1, h.2, fun _ => hq⟩
      · exact ⟨h.1, h.2, fun _ => hq⟩
  · rw [if_neg hq]
    exact ⟨h.1, h.2, fun k => by cases k⟩
def index_Find_m (a0 : (List (Int × (List Int)))) (a1 : Int) : (List Int) :=
  if ((index_Check_m a0) : Int) ≠ 0 then [] else (LR.seq (slices_BinarySearchFunc_Listed_m a0 (((a1, []) : Int × (List Int))) ((fun z0 z1 => index_compare_m z0 z1))) (fun r15 => if (!r15.2) = true then [] else (a0.getD r15.1.toNat (((0, []) : Int × (List Int)) : Int × (List Int))).2))
set_option maxHeartbeats 3200000 in
theorem index_Find_c (H : Heap) (a0 : (List (Int × (List Int)))) (va0_0 : Value) (ha0_0 : RdS listedE H va0_0 a0) (a1 : Int) (hn : a0.length ≤ 1000) (hr : ∀ r ∈ a0, r.2.length ≤ 1000) : Fc Try.prog (fnv 26) [.agg #[va0_0], .int .u64 a1] H [] (fun v' H' L' => ∃ u0_0 c0_0, v' = u0_0 ∧ L' = [c0_0] ∧ OwnS (intE .i64) 3 H' u0_0 (index_Find_m a0 a1) c0_0) := by
  refine Fc.of_body (N := 27) Try.func26 rfl (by kernel_rfl) rfl rfl ?_
  intro w0
  obtain ⟨Aa0_0, ca0_0, rfl, hca0_0, hda0_0, ha0_0⟩ := ha0_0.shape
  refine T.seq ?_
  refine T.region ?_
  refine R.box rfl (by conv => lhs; whnf) ?_
  intro b2
  refine R.asE rfl (by conv => lhs; whnf) ?_
  refine TL.shut .hd ?_
  intro Hb2_1 sb2_1 qb2_1
  have hb2_1 : Hb2_1 b2 = some (.cells #[.slice Aa0_0 a0.length ca0_0] 46) := shut1 qb2_1
  refine TL.nil (Post.thnN ?_)
  refine T.seq ?_
  refine T.seq ?_
  refine T.region ?_
  refine R.ldXH (cs := [.slice Aa0_0 a0.length ca0_0]) (l := [.slice Aa0_0 a0.length ca0_0]) Try.isAgg46 Try.sizeOf46 rfl rfl hb2_1 rfl rfl ?_
  refine R.callv rfl rfl rfl (index_Check_c _ a0 _ (ha0_0.mono sb2_1) (by first | omega | assumption | (simp; done) | (simp; omega) | (simp at *; omega)) (by first | assumption | exact rows_le (by assumption) (by omega) | (intro r h; simp at h; done))) ?_
  refine R.neq rfl rfl rfl ?_
  refine TL.nil (Post.thnN ?_)
  refine T.condD rfl (fun c9 => ?_) (fun c9 => ?_)
  · refine T.set 9 (.bool true) (congrArg Value.bool (decide_eq_true c9)) ?_
    refine T.seq ?_
    refine T.region ?_
    refine R.asE rfl (by conv => lhs; whnf) ?_
    refine TL.nil (Post.thnN ?_)
    refine T.has (Has.none Has.nil) ?_
    refine T.ret (Post.thnR ?_)
    have hM : index_Find_m a0 a1 = [] := by rw [index_Find_m, if_pos c9]
    exact fin1L (v := .slice none 0 0) [[]] rfl rfl (List.Sublist.refl _) ⟨.slice none 0 0, [], by first | rw [hM] | rfl, rfl, by rw [hM]; exact OwnS.nil⟩
  refine T.set 9 (.bool false) (congrArg Value.bool (decide_eq_false c9)) ?_
  refine T.skip (Post.thnN ?_)
  refine T.seq ?_
  refine T.region ?_
  refine R.fldA Try.underlying46 rfl Try.sizeOf44 (by decide) rfl rfl ?_
  refine R.ldH Try.isAgg44 rfl rfl hb2_1 rfl ?_
  refine R.mvE rfl (by conv => lhs; whnf) ?_
  refine R.bld (cs := [.int .u64 a1, .slice none 0 0]) rfl (fun _ => by kernel_rfl) ?_
  obtain ⟨r15, er15⟩ : ∃ r, r = (slices_BinarySearchFunc_Listed_m a0 (((a1, []) : Int × (List Int))) ((fun z0 z1 => index_compare_m z0 z1))) := ⟨_, rfl⟩
  refine R.callv (v := .tuple #[.int .i64 r15.1, .bool r15.2]) rfl rfl rfl (by rw [er15]; exact slices_BinarySearchFunc_Listed_c _ _ a0 (ha0_0.mono sb2_1) (((a1, []) : Int × (List Int))) _ RdS.nil _ (fun z0 z1 => index_compare_m z0 z1) (fun H2 h2 z0 vz0_1 hz0_1 z1 vz1_1 hz1_1 => index_compare_c H2 z0 vz0_1 hz0_1 z1 vz1_1 hz1_1) rfl (by first | omega | (simp; done) | (simp; omega) | (simp at *; omega))) ?_
  have tb15 := bf_rng _ _ _ _ er15 (by first | omega | simp)
  refine R.mvE rfl (by conv => lhs; whnf) ?_
  refine R.ext rfl rfl rfl ?_
  refine R.ext rfl rfl rfl ?_
  refine R.asE rfl (by conv => lhs; whnf) ?_
  refine R.asE rfl (by conv => lhs; whnf) ?_
  refine TL.nil (Post.thnN ?_)
  refine T.seq ?_
  refine T.seq ?_
  refine T.region ?_
  refine R.mvE rfl (by conv => lhs; whnf) ?_
  refine R.not rfl rfl ?_
  refine TL.nil (Post.thnN ?_)
  refine T.cond rfl (fun c19 => ?_) (fun c19 => ?_)
  · refine T.set 19 (.bool true) (congrArg Value.bool c19) ?_
    refine T.seq ?_
    refine T.region ?_
    refine R.asE rfl (by conv => lhs; whnf) ?_
    refine TL.nil (Post.thnN ?_)
    refine T.has (Has.none Has.nil) ?_
    refine T.ret (Post.thnR ?_)
    have hM : index_Find_m a0 a1 = [] := by subst er15; rw [index_Find_m, if_neg c9, LR.seq_go, if_t c19]
    exact fin1L (v := .slice none 0 0) [[]] rfl rfl (List.Sublist.refl _) ⟨.slice none 0 0, [], by first | rw [hM] | rfl, rfl, by rw [hM]; exact OwnS.nil⟩
  refine T.set 19 (.bool false) (congrArg Value.bool c19) ?_
  refine T.skip (Post.thnN ?_)
  refine T.seq ?_
  have tq := tb15.2.2 (by simpa using c19)
  refine T.region ?_
  refine R.fldA Try.underlying46 rfl Try.sizeOf44 (by decide) rfl rfl ?_
  refine R.ldH Try.isAgg44 rfl rfl hb2_1 rfl ?_
  refine R.mvE rfl (by conv => lhs; whnf) ?_
  have hl23 : r15.1.toNat < a0.length := by first | omega | (simp; done) | (simp; omega) | (simp at *; omega)
  obtain ⟨y23, e23, h23⟩ : ∃ y, y = (a0.getD r15.1.toNat (((0, []) : Int × (List Int)) : Int × (List Int))) ∧ a0[r15.1.toNat]? = some y := ⟨_, rfl, getD_get (by first | exact hl23 | simpa using hl23 | (simp only [List.length_set]; omega) | omega | (rw [(sortI_perm _).length_eq]; exact hl23))⟩
  obtain ⟨b23, o23, i23, k23⟩ := RdS.elem (ha0_0.mono sb2_1) h23
  obtain ⟨l23, g23, k23⟩ := k23
  obtain ⟨z23_1, rfl, r23_1⟩ := g23
  obtain ⟨A23_1, p23_1, rfl, m23_1, n23_1, r23_1⟩ := r23_1.shape
  have tr23 := hr y23 (List.mem_of_getElem? h23)
  refine R.ixp Try.underlying44 Try.sizeOf55 rfl rfl rfl (by first | omega | (simp; done) | (simp; omega) | (simp at *; omega)) i23 ?_
  refine R.fldA Try.underlying55 rfl Try.sizeOf37 (by decide) rfl rfl ?_
  refine R.ldC Try.isAgg37 rfl rfl (k23 1 _ rfl) ?_
  refine TL.call [] rfl rfl rfl (clone37_c _ _ y23.2 r23_1 (by first | omega | (simp; done) | (simp; omega) | (simp at *; omega))) ?_
  intro v26 H26 L26 s26 q26
  obtain ⟨c26, rfl, w26⟩ := q26
  obtain ⟨x26, e26⟩ : ∃ x, x = y23.2 := ⟨_, rfl⟩
  rw [← e26] at w26
  obtain ⟨A26, p26, rfl, m26, n26⟩ := OwnS.shape w26
  have t26 : x26.length = y23.2.length := by rw [e26]
  refine R.asE rfl (by conv => lhs; whnf) ?_
  refine TL.nil (Post.thnN ?_)
  refine T.has (Has.cons .hd Has.nil) ?_
  refine T.ret ?_
  have hM : index_Find_m a0 a1 = x26 := by subst e26; subst e23; subst er15; rw [index_Find_m, if_neg c9, LR.seq_go, if_f c19]
  exact fin1L (v := .slice A26 x26.length p26) [c26] rfl rfl (List.Sublist.refl _) ⟨.slice A26 x26.length p26, c26, by first | rw [hM] | rfl, rfl, by rw [hM]; exact w26⟩
def index_Type_m (a0 : (List (Int × (List Int)))) (a1 : Int) : (List Int) :=
  if ((index_Check_m a0) : Int) ≠ 0 then [] else (LR.seq (index_in_m a0 a1) (fun r10 => LR.seq (index_bare_m r10) (fun r11 => r11)))
set_option maxHeartbeats 3200000 in
theorem index_Type_c (H : Heap) (a0 : (List (Int × (List Int)))) (va0_0 : Value) (ha0_0 : RdS listedE H va0_0 a0) (a1 : Int) (hn : a0.length ≤ 1000) (hr : ∀ r ∈ a0, r.2.length ≤ 1000) : Fc Try.prog (fnv 29) [.agg #[va0_0], .int .i64 a1] H [] (fun v' H' L' => ∃ u0_0 c0_0, v' = u0_0 ∧ L' = [c0_0] ∧ OwnS (intE .u64) 26 H' u0_0 (index_Type_m a0 a1) c0_0) := by
  refine Fc.of_body (N := 12) Try.func29 rfl (by kernel_rfl) rfl rfl ?_
  intro w0
  obtain ⟨Aa0_0, ca0_0, rfl, hca0_0, hda0_0, ha0_0⟩ := ha0_0.shape
  refine T.seq ?_
  refine T.region ?_
  refine R.box rfl (by conv => lhs; whnf) ?_
  intro b2
  refine R.asE rfl (by conv => lhs; whnf) ?_
  refine TL.shut .hd ?_
  intro Hb2_1 sb2_1 qb2_1
  have hb2_1 : Hb2_1 b2 = some (.cells #[.slice Aa0_0 a0.length ca0_0] 46) := shut1 qb2_1
  refine TL.nil (Post.thnN ?_)
  refine T.seq ?_
  refine T.seq ?_
  refine T.region ?_
  refine R.ldXH (cs := [.slice Aa0_0 a0.length ca0_0]) (l := [.slice Aa0_0 a0.length ca0_0]) Try.isAgg46 Try.sizeOf46 rfl rfl hb2_1 rfl rfl ?_
  refine R.callv rfl rfl rfl (index_Check_c _ a0 _ (ha0_0.mono sb2_1) (by first | omega | assumption | (simp; done) | (simp; omega) | (simp at *; omega)) (by first | assumption | exact rows_le (by assumption) (by omega) | (intro r h; simp at h; done))) ?_
  refine R.neq rfl rfl rfl ?_
  refine TL.nil (Post.thnN ?_)
  refine T.condD rfl (fun c7 => ?_) (fun c7 => ?_)
  · refine T.set 7 (.bool true) (congrArg Value.bool (decide_eq_true c7)) ?_
    refine T.seq ?_
    refine T.region ?_
    refine R.asE rfl (by conv => lhs; whnf) ?_
    refine TL.nil (Post.thnN ?_)
    refine T.has (Has.none Has.nil) ?_
    refine T.ret (Post.thnR ?_)
    have hM : index_Type_m a0 a1 = [] := by rw [index_Type_m, if_pos c7]
    exact fin1L (v := .slice none 0 0) [[]] rfl rfl (List.Sublist.refl _) ⟨.slice none 0 0, [], by first | rw [hM] | rfl, rfl, by rw [hM]; exact OwnS.nil⟩
  refine T.set 7 (.bool false) (congrArg Value.bool (decide_eq_false c7)) ?_
  refine T.skip (Post.thnN ?_)
  refine T.seq ?_
  refine T.region ?_
  refine R.ldXH (cs := [.slice Aa0_0 a0.length ca0_0]) (l := [.slice Aa0_0 a0.length ca0_0]) Try.isAgg46 Try.sizeOf46 rfl rfl hb2_1 rfl rfl ?_
  refine R.mvE rfl (by conv => lhs; whnf) ?_
  obtain ⟨r10, er10⟩ : ∃ r, r = (index_in_m a0 a1) := ⟨_, rfl⟩
  refine TL.call [] rfl rfl rfl (index_in_c _ a0 _ (ha0_0.mono sb2_1) (a1) (by first | omega | (simp; done) | (simp; omega) | (simp at *; omega))) ?_
  intro v10 H10 L10 s10 q10
  rw [← er10] at q10
  obtain ⟨u10_0_0, c10_0_0, rfl, rfl, w10_0_0⟩ := q10
  obtain ⟨A10_0_0, p10_0_0, rfl, m10_0_0, n10_0_0⟩ := OwnS.shape w10_0_0
  have ti10 := in_len _ _ _ er10
  refine TL.shut .hd ?_
  intro HF10_0_0_2 sF10_0_0_2 qF10_0_0_2
  have fF10_0_0_2 := OwnS.read w10_0_0 sF10_0_0_2 qF10_0_0_2
  obtain ⟨r11, er11⟩ : ∃ r, r = (index_bare_m r10) := ⟨_, rfl⟩
  refine TL.call [] rfl rfl rfl (index_bare_c _ _ r10 fF10_0_0_2 (by first | omega | (simp; done) | (simp; omega) | (simp at *; omega))) ?_
  intro v11 H11 L11 s11 q11
  rw [← er11] at q11
  obtain ⟨u11_0_0, c11_0_0, rfl, rfl, w11_0_0⟩ := q11
  obtain ⟨A11_0_0, p11_0_0, rfl, m11_0_0, n11_0_0⟩ := OwnS.shape w11_0_0
  refine R.asE rfl (by conv => lhs; whnf) ?_
  refine TL.nil (Post.thnN ?_)
  refine T.has (Has.cons .hd Has.nil) ?_
  refine T.ret ?_
  have hM : index_Type_m a0 a1 = r11 := by subst er11; subst er10; rw [index_Type_m, if_neg c7, LR.seq_go, LR.seq_go]
  exact fin1L (v := .slice A11_0_0 r11.length p11_0_0) [c11_0_0] rfl rfl (List.Sublist.refl _) ⟨.slice A11_0_0 r11.length p11_0_0, c11_0_0, by first | rw [hM] | rfl, rfl, by rw [hM]; exact w11_0_0⟩
end Go.SX

set_option linter.unusedVariables false
set_option linter.unusedSimpArgs false
namespace Go.SX
open Go
def setl : Array Value → Nat → List Value → Array Value
  | cs, _, [] => cs
  | cs, o, v :: r => setl (cs.setIfInBounds o v) (o + 1) r
theorem setl_size : ∀ (vs : List Value) (o : Nat) (cs : Array Value), (setl cs o vs).size = cs.size
  | [], _, _ => rfl
  | v :: r, o, cs => by rw [setl, setl_size r, Array.size_setIfInBounds]
theorem setl_out : ∀ (vs : List Value) (o : Nat) (cs : Array Value) (k : Nat), (k < o ∨ o + vs.length ≤ k) → (setl cs o vs)[k]? = cs[k]?
  | [], _, _, _, _ => rfl
  | v :: r, o, cs, k, h => by
    rw [List.length_cons] at h
    rw [setl, setl_out r (o + 1) _ k (by omega), Array.getElem?_setIfInBounds_ne (by omega)]
theorem setl_in : ∀ (vs : List Value) (o : Nat) (cs : Array Value) (j : Nat), o + j < cs.size → j < vs.length → (setl cs o vs)[o + j]? = vs[j]?
  | [], _, _, _, _, h => by simp at h
  | v :: r, o, cs, 0, h, _ => by
    rw [setl, setl_out r (o + 1) _ (o + 0) (by omega)]
    simp only [Nat.add_zero] at h ⊢
    rw [Array.getElem?_setIfInBounds_self_of_lt h]; rfl
  | v :: r, o, cs, j + 1, h, h2 => by
    have := setl_in r (o + 1) (cs.setIfInBounds o v) j (by rw [Array.size_setIfInBounds]; omega) (by simpa using h2)
    rw [setl, show o + (j + 1) = o + 1 + j by omega, this]; rfl
theorem heap_setCell {w : World} {b : Nat} {e : TypeId} {cs : Array Value} {z : Nat × Nat} (h : w.heap[b]? = some (.cells cs e z)) (o : Nat) (v : Value) : (w.setCell ⟨b, o, none⟩ v).heap[b]? = some (.cells (cs.setIfInBounds o v) e z) := by
  simp [World.setCell, Array.getElem?_modify, h]
theorem heap_setCells {b : Nat} {e : TypeId} {z : Nat × Nat} : ∀ (vs : List Value) (o : Nat) {w : World} {cs : Array Value}, w.heap[b]? = some (.cells cs e z) → (w.setCells b o vs).heap[b]? = some (.cells (setl cs o vs) e z)
  | [], _, _, _, h => h
  | v :: r, o, w, cs, h => by
    rw [World.setCells, setl]; exact heap_setCells r (o + 1) (heap_setCell h o v)
theorem setCells_same (b : Nat) : ∀ (vs : List Value) (o : Nat) (w : World), (w.setCells b o vs).os = w.os ∧ (w.setCells b o vs).tape = w.tape ∧ (w.setCells b o vs).output = w.output ∧ (w.setCells b o vs).heap.size = w.heap.size ∧ (∀ c, c ≠ b → (w.setCells b o vs).heap[c]? = w.heap[c]?) ∧ w.drawn ≤ (w.setCells b o vs).drawn
  | [], _, _ => ⟨rfl, rfl, rfl, rfl, fun _ _ => rfl, Nat.le_refl _⟩
  | v :: r, o, w => by
    obtain ⟨h1, h2, h3, h4, h5, h6⟩ := setCells_same b r (o + 1) (w.setCell ⟨b, o, none⟩ v)
    refine ⟨h1, h2, h3, by rw [World.setCells, h4]; simp [World.setCell], fun c hc => ?_, h6⟩
    rw [World.setCells, h5 c hc]
    simp only [World.setCell, Array.getElem?_modify]
    rw [if_neg (fun e => hc e.symm)]
theorem St.setCells {x : Cx} {H : Heap} {L : Chunk} {w : World} {b : Nat} {e : TypeId} {cs : Array Value} (h : St x H ((b, .cells cs e) :: L) w) (o : Nat) (vs : List Value) : St x H ((b, .cells (setl cs o vs) e) :: L) (w.setCells b o vs) := by
  have hb := h.sat.l _ (List.mem_cons_self ..)
  simp only at hb
  obtain ⟨h1, h2, h3, h4, h5, h6⟩ := setCells_same b vs o w
  exact h.turn h1 h2 h3 h4 (heap_setCells vs o hb) h5 h6
/-- The row with one more number at i. -/
def ins (xs : List Int) (i : Nat) (x : Int) : List Int := xs.take i ++ x :: xs.drop i
theorem ins_length {xs : List Int} {i : Nat} {x : Int} (h : i ≤ xs.length) : (ins xs i x).length = xs.length + 1 := by
  simp only [ins, List.length_append, List.length_take, List.length_cons, List.length_drop]; omega
theorem ins_get {xs : List Int} {i : Nat} {x : Int} (h : i ≤ xs.length) (k : Nat) : (ins xs i x)[k]? = if k < i then xs[k]? else if k = i then some x else xs[k - 1]? := by
  unfold ins
  by_cases h1 : k < i
  · rw [if_pos h1, List.getElem?_append_left (by rw [List.length_take]; omega), List.getElem?_take_of_lt h1]
  · rw [if_neg h1, List.getElem?_append_right (by rw [List.length_take]; omega), List.length_take, Nat.min_eq_left h]
    by_cases h2 : k = i
    · subst h2; rw [if_pos rfl, Nat.sub_self]; rfl
    · rw [if_neg h2, show k - i = (k - i - 1) + 1 by omega, List.getElem?_cons_succ, List.getElem?_drop, show i + (k - i - 1) = k - 1 by omega]
theorem own_of_cells {e : TypeId} {H : Heap} {b cap : Nat} {cs : Array Value} {xs : List Int} (h1 : xs.length ≤ cap) (h2 : cap ≤ maxLen) (h3 : cap ≤ cs.size) (h : ∀ (k : Nat) (y : Int), xs[k]? = some y → cs[k]? = some (Value.int .i64 y)) :
    OwnS (intE .i64) e H (.slice (some ⟨b, 0, none⟩) xs.length cap) xs [(b, .cells cs e)] :=
  .inr ⟨b, cap, cs, rfl, rfl, h1, h2, by show cap * 1 ≤ _; omega, fun k y hk => ⟨[.int .i64 y], rfl, fun j u hj => by
    have hj0 : j = 0 := by have := (List.getElem?_eq_some_iff.1 hj).1; simpa using this
    subst hj0
    simp at hj; subst hj
    have := h k y hk
    simpa [intE] using this⟩⟩
theorem vals_one (xs : List Int) : ∀ v ∈ xs.map (Value.int .i64), v.oneCell' = true := by
  intro v hv; obtain ⟨y, _, rfl⟩ := List.mem_map.1 hv; rfl
theorem vals_get {xs : List Int} {j : Nat} {v : Value} (h : (xs.map (Value.int .i64))[j]? = some v) : ∃ y, xs[j]? = some y ∧ v = .int .i64 y := by
  rw [List.getElem?_map] at h
  cases hx : xs[j]? with
  | none => rw [hx] at h; cases h
  | some y => rw [hx] at h; injection h with h; exact ⟨y, rfl, h.symm⟩
open Go.Proofs Go.Shelf in
theorem insert_fc {P : Program} {ρ : Ren} (L : Lays2.n21 P ρ) {f : FuncId} (hf : f = ρ.f 21) {fn : Func} {cd : Code} (hfn : P.funcs[f]? = some fn) (hb : fn.body = some cd) (hname : (fn.name == "runtime.NumGoroutine") = false)
    {e : TypeId} (he : ρ.t 3 = e) {H : Heap} {v : Value} {xs : List Int} {x : Int} {c : Chunk} (ho : OwnS (intE .i64) e H v xs c) {vb : Nat} {te : TypeId} (hvH : H vb = some (.cells #[.int .i64 x] te)) (i : Nat) (hi : i ≤ xs.length) (hl : xs.length ≤ 4000000) :
    Fc P (fnv f) [v, .int .i64 i, .slice (some ⟨vb, 0, none⟩) 1 1] H [c] (fun v' H' L' => ∃ c', L' = [c'] ∧ OwnS (intE .i64) e H' v' (ins xs i x) c') := by
  obtain ⟨vo, hvo⟩ : ∃ vo, vo = 0 := ⟨_, rfl⟩
  obtain ⟨vc, hvc⟩ : ∃ vc, vc = 1 := ⟨_, rfl⟩
  rw [show (Value.slice (some ⟨vb, 0, none⟩) 1 1) = .slice (some ⟨vb, vo, none⟩) 1 vc by rw [hvo, hvc]]
  intro w hs
  have hvw := hs.h vb _ hvH
  have hvs : ∀ j u, [Value.int .i64 x][j]? = some u → w.cell? ⟨vb, vo + j, none⟩ = some u := fun j u hj => by
    have hj0 : j = 0 := by have := (List.getElem?_eq_some_iff.1 hj).1; simpa using this
    subst hj0
    simp at hj; subst hj
    simp [World.cell?, hvw, hvo]
  have h1v : ∀ u ∈ [Value.int .i64 x], u.oneCell' = true := fun u hu => by simp at hu; subst hu; rfl
  have hen := Go.Proofs.enters_of (P := P) hfn hname hb
  have fin : ∀ {vs : List Value} {R : Ending → World → Prop}, Calls P f vs.toArray w R → CallV P (fnv f) vs w R := fun {vs} {R} hc => by
    have h0 := hen vs.toArray w
    exact ⟨.enter f vs.toArray, w, by simp [Deferred.ofValue, invoke, h0], callsIn_wide.2 hc⟩
  rcases ho with ⟨rfl, rfl, rfl⟩ | ⟨b, cap, cs, rfl, rfl, h3, h4, h5, h6⟩
  · -- nil
    obtain rfl : i = 0 := by simpa using hi
    refine fin ?_
    rw [hf]
    refine Calls.mono (Any2.slices_Insert_int_end_grow L none 0 0 vb vo 1 vc [] [.int .i64 x] w (by omega) (by omega) (by omega) (by omega) rfl rfl (fun _ => rfl) (fun a h => by cases h) hvs h1v) ?_
    rintro e' w' ⟨rfl, rfl⟩
    obtain ⟨B, hB⟩ : ∃ B, B = ([] ++ [Value.int .i64 x]).toArray ++ Builtin.zeroCells (Value.int .i64 0).cells (grownCap w (0 + 1) 0 (ρ.t 3) - (0 + 1)) := ⟨_, rfl⟩
    rw [← hB]
    have hge := grownCap_ge w (0 + 1) 0 (ρ.t 3)
    refine ⟨_, H, [[(w.heap.size, .cells B (ρ.t 3))]], rfl, ?_, _, rfl, ?_⟩
    · have := (St.init hs).drew.alloc (.cells B (ρ.t 3))
      simpa using this
    · subst he
      refine own_of_cells (xs := [x]) hge (grownCap_le_maxLen w (0 + 1) 0 _ (by unfold maxLen; omega)) ?_ ?_
      · rw [hB]
        simp only [Array.size_append, List.size_toArray, size_zeroCells]
        show _ ≤ _ + (_ - (0 + 1)) * 1
        simp only [List.nil_append, List.length_cons, List.length_nil]
        omega
      · intro k y hk
        have hk0 : k = 0 := by have := (List.getElem?_eq_some_iff.1 hk).1; simpa using this
        subst hk0
        simp at hk; subst hk
        rw [hB, Array.getElem?_append_left (by simp)]; rfl
  · have hs' : Sat H [(b, .cells cs e)] w := by simpa using hs
    have hbl := hs'.l (b, .cells cs e) (List.mem_singleton.2 rfl)
    simp only at hbl
    have hH0 : H b = none := hs'.dj (b, .cells cs e) (List.mem_singleton.2 rfl)
    have hvb : vb ≠ b := fun q => by subst q; rw [hvH] at hH0; cases hH0
    have hcs : cap ≤ cs.size := by have : cap * 1 ≤ cs.size := h5; omega
    have hxc : ∀ (k : Nat) (y : Int), xs[k]? = some y → cs[k]? = some (Value.int .i64 y) := fun k y hk => by
      obtain ⟨l, h7, h8⟩ := h6 k y hk
      obtain rfl : l = [.int .i64 y] := h7
      have := h8 0 _ rfl
      simpa [intE] using this
    have hcw : ∀ k, k < cs.size → w.cell? ⟨b, k, none⟩ = cs[k]? := fun k hk => by simp [World.cell?, hbl]
    have hcs2 : ∀ j u, (xs.map (Value.int .i64))[j]? = some u → w.cell? ⟨b, 0 + j, none⟩ = some u := fun j u hj => by
      obtain ⟨y, hy1, rfl⟩ := vals_get hj
      have := hxc j y hy1
      rw [Nat.zero_add, hcw j ((Array.getElem?_eq_some_iff.1 this).1), this]
    have hsome : ∀ k, k < cs.size → (w.cell? ⟨b, k, none⟩).isSome = true := fun k hk => by rw [hcw k hk, Array.getElem?_eq_getElem hk]; rfl
    have hfz : ∀ k, w.frozen? ⟨b, k, none⟩ = false := fun k => by simp [World.frozen?, hbl]
    have st0 : St ⟨w, H, [(b, .cells cs e)]⟩ H [(b, .cells cs e)] w := St.init hs'
    have hml : maxLen = 9223372036854775807 := rfl
    refine fin ?_
    rw [hf]
    by_cases hroom : xs.length + 1 ≤ cap
    · by_cases hin : i = xs.length
      · subst hin
        refine Calls.mono (Any2.slices_Insert_int_end_room L b 0 xs.length cap vb vo 1 vc [.int .i64 x] w (by omega) hroom (by omega) rfl (fun j hj => hsome _ (by omega)) (fun j hj => hfz _) hvs h1v) ?_
        rintro e' w' ⟨rfl, rfl⟩
        have hlen := ins_length (x := x) (Nat.le_refl xs.length)
        refine ⟨_, H, [[(b, .cells (setl cs (0 + xs.length) [.int .i64 x]) e)]], rfl, by simpa using st0.setCells (0 + xs.length) [.int .i64 x], _, rfl, ?_⟩
        rw [← hlen]
        refine own_of_cells (by rw [hlen]; exact hroom) h4 (by rw [setl_size]; exact hcs) (fun k y hk => ?_)
        rw [ins_get (Nat.le_refl _)] at hk
        by_cases h7 : k < xs.length
        · rw [if_pos h7] at hk
          rw [setl_out _ _ _ _ (by omega)]; exact hxc k y hk
        · rw [if_neg h7] at hk
          by_cases h8 : k = xs.length
          · rw [if_pos h8] at hk
            injection hk with hk; subst hk; subst h8
            have := setl_in [.int .i64 x] (0 + xs.length) cs 0 (by omega) (by simp)
            rw [Nat.add_zero, Nat.zero_add] at this
            rw [Nat.zero_add]; exact this
          · rw [if_neg h8, List.getElem?_eq_none (by omega)] at hk; cases hk
      · refine Calls.mono (Any2.slices_Insert_int_shift L b 0 xs.length cap i vb vo 1 vc (xs.map (Value.int .i64)) [.int .i64 x] w (by omega) (by omega) hroom (by omega) hvb (by simp) rfl hcs2 (fun j hj => hsome _ (by omega)) (fun j hj => hfz _) hvs (vals_one xs) h1v
          te e 1 cs.size (by simp [World.shape?, hvw]) (by simp [World.shape?, hbl]) (by omega) ?_ ?_) ?_
        · simp [World.frozen?, hvw]
        · simp [World.frozen?, hvw]
        rintro e' w' ⟨rfl, rfl⟩
        have hlen := ins_length (x := x) hi
        refine ⟨_, H, [[(b, .cells (setl (setl cs (0 + (i + 1)) ((xs.map (Value.int .i64)).drop i)) (0 + i) [.int .i64 x]) e)]], rfl, by simpa using (st0.drew.setCells (0 + (i + 1)) ((xs.map (Value.int .i64)).drop i)).setCells (0 + i) [.int .i64 x], _, rfl, ?_⟩
        rw [← hlen]
        refine own_of_cells (by rw [hlen]; exact hroom) h4 (by rw [setl_size, setl_size]; exact hcs) (fun k y hk => ?_)
        rw [ins_get hi] at hk
        by_cases h7 : k < i
        · rw [if_pos h7] at hk
          rw [setl_out _ _ _ _ (by omega), setl_out _ _ _ _ (by omega)]; exact hxc k y hk
        · rw [if_neg h7] at hk
          by_cases h8 : k = i
          · rw [if_pos h8] at hk
            injection hk with hk; subst hk; subst h8
            have := setl_in [.int .i64 x] (0 + k) (setl cs (0 + (k + 1)) ((xs.map (Value.int .i64)).drop k)) 0 (by rw [setl_size]; omega) (by simp)
            simp only [Nat.add_zero, Nat.zero_add] at this ⊢; exact this
          · rw [if_neg h8] at hk
            have hlt := (List.getElem?_eq_some_iff.1 hk).1
            rw [setl_out _ _ _ _ (.inr (by simp; omega))]
            have := setl_in ((xs.map (Value.int .i64)).drop i) (0 + (i + 1)) cs (k - (i + 1)) (by omega) (by simp; omega)
            rw [show 0 + (i + 1) + (k - (i + 1)) = k by omega, List.getElem?_drop, show i + (k - (i + 1)) = k - 1 by omega, List.getElem?_map, hk] at this
            exact this
    · subst he
      have hge := grownCap_ge w (xs.length + 1) cap (ρ.t 3)
      have hle := grownCap_le_maxLen w (xs.length + 1) cap (ρ.t 3) (by omega)
      by_cases hin : i = xs.length
      · subst hin
        refine Calls.mono (Any2.slices_Insert_int_end_grow L (some ⟨b, 0, none⟩) xs.length cap vb vo 1 vc (xs.map (Value.int .i64)) [.int .i64 x] w (by omega) h3 (by omega) (by omega) (by simp) rfl (fun h => by cases h) (fun a h j u hj => by injection h with h; subst h; rw [Addr.add_lit]; exact hcs2 j u hj) hvs h1v) ?_
        rintro e' w' ⟨rfl, rfl⟩
        generalize grownCap w (xs.length + 1) cap (ρ.t 3) = G at hge hle ⊢
        have hlen := ins_length (x := x) (Nat.le_refl xs.length)
        refine ⟨_, H, [[(w.heap.size, .cells ((xs.map (Value.int .i64) ++ [Value.int .i64 x]).toArray ++ Builtin.zeroCells (Value.int .i64 0).cells (G - (xs.length + 1))) (ρ.t 3))]], rfl, ?_, _, rfl, ?_⟩
        · have := (st0.drew.alloc (.cells ((xs.map (Value.int .i64) ++ [Value.int .i64 x]).toArray ++ Builtin.zeroCells (Value.int .i64 0).cells (G - (xs.length + 1))) (ρ.t 3))).sub (L' := [(w.drew.heap.size, .cells ((xs.map (Value.int .i64) ++ [Value.int .i64 x]).toArray ++ Builtin.zeroCells (Value.int .i64 0).cells (G - (xs.length + 1))) (ρ.t 3))]) (List.Sublist.cons_cons _ (List.nil_sublist _))
          simpa using this
        · rw [← hlen]
          refine own_of_cells (by rw [hlen]; exact hge) hle ?_ (fun k y hk => ?_)
          · simp only [Array.size_append, List.size_toArray, size_zeroCells, List.length_append, List.length_map, List.length_cons, List.length_nil]
            rw [hlen, show (Value.int IntKind.i64 0).cells.size = 1 from rfl]
            omega
          · have hk' : (xs ++ [x])[k]? = some y := by simpa [ins] using hk
            have hlt := (List.getElem?_eq_some_iff.1 hk').1
            rw [Array.getElem?_append_left (by simpa using hlt), List.getElem?_toArray, show xs.map (Value.int .i64) ++ [Value.int .i64 x] = (xs ++ [x]).map (Value.int .i64) by simp, List.getElem?_map, hk']; rfl
      · refine Calls.mono (Any2.slices_Insert_int_grow L b 0 xs.length cap i vb vo 1 vc (xs.map (Value.int .i64)) [.int .i64 x] w (by omega) (by omega) h3 (by omega) (by omega) (by simp) rfl hcs2 hvs (vals_one xs) h1v) ?_
        rintro e' w' ⟨rfl, rfl⟩
        generalize grownCap w (xs.length + 1) cap (ρ.t 3) = G at hge hle ⊢
        have hlen := ins_length (x := x) hi
        obtain ⟨B, hB⟩ : ∃ B, B = ((xs.map (Value.int .i64)).take i).toArray ++ Builtin.zeroCells (Value.int .i64 0).cells (xs.length + 1 - i) ++ Builtin.zeroCells (Value.int .i64 0).cells (G - (xs.length + 1)) := ⟨_, rfl⟩
        rw [← hB]
        have hBs : G ≤ B.size := by
          rw [hB]
          simp only [Array.size_append, List.size_toArray, size_zeroCells, List.length_take, List.length_map]
          show _ ≤ _ + (xs.length + 1 - i) * 1 + (_ - (xs.length + 1)) * 1
          omega
        refine ⟨_, H, [[(w.heap.size, .cells (setl (setl B i [.int .i64 x]) (i + 1) ((xs.map (Value.int .i64)).drop i)) (ρ.t 3))]], rfl, ?_, _, rfl, ?_⟩
        · have h1 := (st0.alloc (.cells B (ρ.t 3))).sub (L' := [(w.heap.size, .cells B (ρ.t 3))]) (List.Sublist.cons_cons _ (List.nil_sublist _))
          have h2 := ((h1.drew.setCells i [.int .i64 x]).drew.setCells (i + 1) ((xs.map (Value.int .i64)).drop i))
          simpa using h2
        · rw [← hlen]
          refine own_of_cells (by rw [hlen]; exact hge) hle (by rw [setl_size, setl_size]; exact hBs) (fun k y hk => ?_)
          rw [ins_get hi] at hk
          by_cases h7 : k < i
          · rw [if_pos h7] at hk
            rw [setl_out _ _ _ _ (by omega), setl_out _ _ _ _ (by omega), hB, Array.getElem?_append_left (by simp [size_zeroCells]; omega), Array.getElem?_append_left (by simp; omega), List.getElem?_toArray, List.getElem?_take_of_lt h7, List.getElem?_map, hk]; rfl
          · rw [if_neg h7] at hk
            by_cases h8 : k = i
            · rw [if_pos h8] at hk
              injection hk with hk; subst hk; subst h8
              rw [setl_out _ _ _ _ (by omega)]
              have := setl_in [.int .i64 x] k B 0 (by omega) (by simp)
              rw [Nat.add_zero] at this; exact this
            · rw [if_neg h8] at hk
              have hlt := (List.getElem?_eq_some_iff.1 hk).1
              have := setl_in ((xs.map (Value.int .i64)).drop i) (i + 1) (setl B i [.int .i64 x]) (k - (i + 1)) (by rw [setl_size]; omega) (by simp; omega)
              rw [show i + 1 + (k - (i + 1)) = k by omega, List.getElem?_drop, show i + (k - (i + 1)) = k - 1 by omega, List.getElem?_map, hk] at this
              exact this
end Go.SX

namespace Go.Proofs
open Go.Shelf
def Try.lays21_ren : Go.Shelf.Ren := ⟨fun | 21 => 96 | 27 => 146 | 28 => 147 | 35 => 159 | 39 => 162 | n => n, fun | 22 => 37 | 3 => 3 | 4 => 4 | 0 => 0 | n => n, fun | n => n⟩
theorem Try.lays21 : Go.Proofs.Lays2.n21 Try.prog Try.lays21_ren := {
  mixed := by kernel_rfl
  f21 := Try.func96.trans (congrArg some (by kernel_rfl))
  f27 := Try.func146.trans (congrArg some (by kernel_rfl))
  f28 := Try.func147.trans (congrArg some (by kernel_rfl))
  f35 := Try.func159.trans (congrArg some (by kernel_rfl))
  f39 := Try.func162.trans (congrArg some (by kernel_rfl))
  t0 := Try.underlying0
  a0 := Try.isAgg0
  z0 := Try.sizeOf0
  v0 := Try.zeroValue0
  t3 := Try.underlying3
  a3 := Try.isAgg3
  z3 := Try.sizeOf3
  v3 := Try.zeroValue3
  t4 := Try.underlying4
  a4 := Try.isAgg4
  z4 := Try.sizeOf4
  v4 := Try.zeroValue4
  t22 := Try.underlying37
  a22 := Try.isAgg37
  z22 := Try.sizeOf37
  v22 := Try.zeroValue37
  i3 := by kernel_rfl }
end Go.Proofs

set_option linter.unusedVariables false
set_option linter.unusedSimpArgs false
namespace Go.SX
open Go Go.Proofs
theorem Try_ty44 : TyE Try.prog 44 55 listedE 32 := TyE.mk' (z := .agg #[.int .u64 0, .slice none 0 0]) Try.underlying44 (by kernel_rfl) rfl (by decide)

theorem rows_nil : ∀ r ∈ ([] : List (Int × List Int)), r.2.length ≤ 0 := fun r h => by cases h
theorem rows_le {x : List (Int × List Int)} {a b : Nat} (h : ∀ r ∈ x, r.2.length ≤ a) (h2 : a ≤ b) : ∀ r ∈ x, r.2.length ≤ b := fun r hr => Nat.le_trans (h r hr) h2
theorem insert_c (H : Heap) (v : Value) (xs : List Int) (ch : Chunk) (ho : OwnS (intE .i64) 3 H v xs ch) (x : Int) (vb : Nat) (te : TypeId) (hvH : H vb = some (.cells #[.int .i64 x] te)) (i : Int) (hi : 0 ≤ i ∧ i ≤ (xs.length : Int)) (hl : xs.length ≤ 2000000) :
    Fc Try.prog (fnv 96) [v, .int .i64 i, .slice (some ⟨vb, 0, none⟩) 1 1] H [ch] (fun v' H' L' => ∃ c, L' = [c] ∧ OwnS (intE .i64) 3 H' v' (ins xs i.toNat x) c) := by
  obtain ⟨i, rfl⟩ : ∃ n : Nat, i = n := ⟨i.toNat, by omega⟩
  exact insert_fc Go.Proofs.Try.lays21 rfl Try.func96 rfl (by kernel_rfl) rfl ho hvH i (by omega) (by omega)
def index_turned_l2 (a0 : (List (Int × (List Int)))) (a1 : List Int) (a2 : List Int → List Int) : List Int → ((List (Int × (List Int)))) → (List (Int × (List Int)))
  | [], sl2 => sl2
  | yl2 :: ysl2, sl2 => LR.seq (slices_BinarySearchFunc_Listed_m a0 (((yl2, []) : Int × (List Int))) ((fun z0 z1 => index_compare_m z0 z1))) (fun r43 => LR.seq (if r43.2 = true then (a0.getD r43.1.toNat (((0, []) : Int × (List Int)) : Int × (List Int))).2 else [] : (List Int)) (fun sc3 => LR.seq (if yl2 ∈ a1 then (a2 sc3) else sc3 : (List Int)) (fun sc4 => if (0 : Int) < (sc4.length : Int) then (index_turned_l2 a0 a1 a2 ysl2 ((sl2 ++ [(yl2, sc4)]))) else (index_turned_l2 a0 a1 a2 ysl2 sl2))))
def index_turned_l1  : List (Int × (List Int)) → ((List Int)) → (List Int)
  | [], sl1 => sl1
  | yl1 :: ysl1, sl1 => index_turned_l1 ysl1 ((sl1 ++ [yl1.1]))
def index_turned_m (a0 : (List (Int × (List Int)))) (a1 : List Int) (a2 : List Int → List Int) : ((List (Int × (List Int)))) :=
  LR.seq (index_turned_l1 a0 a1) (fun ol1 => LR.seq (index_once_m ol1) (fun r32 => LR.seq (index_turned_l2 a0 a1 a2 r32 []) (fun ol2 => ol2)))
set_option maxHeartbeats 3200000 in
theorem index_turned_c (H : Heap) (a0 : (List (Int × (List Int)))) (va0_0 : Value) (ha0_0 : RdS listedE H va0_0 a0) (va1 : Value) (a1 : List Int) (ha1 : RdS (intE .u64) H va1 a1) (fa2 : Value) (a2 : List Int → List Int) (ha2 : ∀ H', HLe H H' → ∀ (vz : Value) (z : List Int) (cz : Chunk), z.length ≤ 2000000 → OwnS (intE .i64) 3 H' vz z cz → Fc Try.prog fa2 [vz] H' [cz] (fun v' H'' L' => ∃ u c, v' = u ∧ L' = [c] ∧ OwnS (intE .i64) 3 H'' u (a2 z) c)) (na2 : fa2.oneCell' = true) (hn : a0.length ≤ 1000) (hr : ∀ r ∈ a0, r.2.length ≤ 1000) (hi : a1.length ≤ 1000) : Fc Try.prog (fnv 93) [.agg #[va0_0], va1, fa2] H [] (fun v' H' L' => ∃ u0_0 c0_0, v' = .agg #[u0_0] ∧ L' = [c0_0] ∧ OwnS listedE 55 H' u0_0 (index_turned_m a0 a1 a2) c0_0) := by
  refine Fc.of_body (N := 82) Try.func93 rfl (by kernel_rfl) rfl rfl ?_
  intro w0
  obtain ⟨Aa0_0, ca0_0, rfl, hca0_0, hda0_0, ha0_0⟩ := ha0_0.shape
  obtain ⟨Aa1, ca1, rfl, hca1, hda1, ha1⟩ := ha1.shape
  refine T.seq ?_
  refine T.region ?_
  refine R.box rfl (by conv => lhs; whnf) ?_
  intro b3
  refine R.alloc Try.zeroValue46 rfl ?_
  intro b6
  refine TL.shut (.tl .hd) ?_
  intro Hb3_1 sb3_1 qb3_1
  have hb3_1 : Hb3_1 b3 = some (.cells #[.slice Aa0_0 a0.length ca0_0] 46) := shut1 qb3_1
  refine TL.nil (Post.thnN ?_)
  refine T.seq ?_
  refine T.region ?_
  refine R.alloc Try.zeroValue46 rfl ?_
  intro b7
  refine TL.nil (Post.thnN ?_)
  refine T.seq ?_
  refine T.region ?_
  refine R.mvE rfl (by conv => lhs; whnf) ?_
  refine TL.call [] rfl rfl rfl (clone22_c _ _ a1 (ha1.mono sb3_1) (by first | omega | (simp; done) | (simp; omega) | (simp at *; omega))) ?_
  intro v17 H17 L17 s17 q17
  obtain ⟨c17, rfl, w17⟩ := q17
  obtain ⟨x17, e17⟩ : ∃ x, x = a1 := ⟨_, rfl⟩
  rw [← e17] at w17
  obtain ⟨A17, p17, rfl, m17, n17⟩ := OwnS.shape w17
  have t17 : x17.length = a1.length := by rw [e17]
  refine R.asE rfl (by conv => lhs; whnf) ?_
  refine TL.nil (Post.thnN ?_)
  refine T.seq ?_
  refine T.seq ?_
  refine T.region ?_
  refine R.fldA Try.underlying46 rfl Try.sizeOf44 (by decide) rfl rfl ?_
  refine R.ldH Try.isAgg44 rfl rfl (s17 _ _ hb3_1) rfl ?_
  refine R.len Try.underlying44 rfl rfl ?_
  refine R.mvE rfl (by conv => lhs; whnf) ?_
  refine TL.nil (Post.thnN ?_)
  refine T.block ?_
  refine T.loop (ι := Nat × Value × (List Int) × Chunk) (fun ⟨kl1, v8l1, x8l1, c8l1⟩ H' L' ds' => kl1 ≤ a0.length ∧ Has L' [[(b7, .cells #[.slice none 0 0] 46)], [(b6, .cells #[.slice none 0 0] 46)], c8l1] ∧ OwnS (intE .u64) 26 H' v8l1 x8l1 c8l1 ∧ x8l1.length ≤ a1.length + kl1 ∧ index_turned_l1 (a0.drop kl1) x8l1 = index_turned_l1 a0 x17) (fun ⟨kl1, v8l1, x8l1, c8l1⟩ => [(21, .int .i64 (kl1 : Int)), (1, .slice Aa1 a1.length ca1), (2, fa2), (3, .pointer (some ⟨b3, 0, none⟩)), (6, .pointer (some ⟨b6, 0, none⟩)), (7, .pointer (some ⟨b7, 0, none⟩)), (8, v8l1), (19, .slice Aa0_0 a0.length ca0_0), (20, .int .i64 (a0.length : Int))]) (fun ⟨kl1, v8l1, x8l1, c8l1⟩ => a0.length - kl1) (0, .slice A17 x17.length p17, x17, c17) ?_ ?_ ?_
  · exact ⟨(by omega), (Has.cons (.tl .hd) (Has.cons (.tl .hd) (Has.cons .hd Has.nil))), w17, (by first | omega | (simp; done) | (simp; omega) | (simp at *; omega)), (by rfl)⟩
  · exact ⟨rfl, rfl, rfl, rfl, rfl, rfl, rfl, rfl, rfl, trivial⟩
  intro ⟨kl1, v8l1, x8l1, c8l1⟩ σ_l1 H_l1 L_l1 ds_l1 s_l1 hI_l1
  obtain ⟨hkl1, hI_l1⟩ := hI_l1
  obtain ⟨hLl1, w8l1, hBl1_0, hQl1⟩ := hI_l1
  obtain ⟨A8l1, p8l1, rfl, m8l1, n8l1_⟩ := OwnS.shape w8l1
  refine T.has hLl1 ?_
  refine T.seq ?_
  refine T.region ?_
  refine R.lss rfl rfl rfl ?_
  refine TL.nil (Post.thnN ?_)
  refine T.seq ?_
  refine T.condD rfl (fun c22 => ?_) (fun c22 => ?_)
  · have hltl1 : kl1 < a0.length := by omega
    obtain ⟨yl1, hyl1⟩ := getk (xs := a0) (k := kl1) (by omega)
    refine T.skip (Post.thnN ?_)
    refine T.seq ?_
    refine T.block ?_
    refine T.seq ?_
    refine T.region ?_
    obtain ⟨b23, o23, i23, k23⟩ := RdS.elem (ha0_0.mono (sb3_1.trans (s17.trans s_l1))) hyl1
    obtain ⟨l23, g23, k23⟩ := k23
    obtain ⟨z23_1, rfl, r23_1⟩ := g23
    obtain ⟨A23_1, p23_1, rfl, m23_1, n23_1, r23_1⟩ := r23_1.shape
    refine R.ixp Try.underlying44 Try.sizeOf55 rfl rfl rfl (by omega) i23 ?_
    refine R.ldK (l := [.int .u64 (yl1.1), .slice A23_1 yl1.2.length p23_1]) Try.isAgg55 Try.sizeOf55 rfl rfl k23 rfl ?_
    refine R.alloc Try.zeroValue55 rfl ?_
    intro b10
    refine R.stX (old := [.int .u64 0, .slice none 0 0]) (l := [.int .u64 (yl1.1), .slice A23_1 yl1.2.length p23_1]) (new := [.int .u64 (yl1.1), .slice A23_1 yl1.2.length p23_1]) (et := 55) Try.sizeOf55 rfl rfl rfl rfl rfl (by show 0 + 2 ≤ 2; decide) rfl (all_one rfl) .hd ?_
    refine TL.shut .hd ?_
    intro Hb10_2 sb10_2 qb10_2
    have hb10_2 : Hb10_2 b10 = some (.cells #[.int .u64 (yl1.1), .slice A23_1 yl1.2.length p23_1] 55) := shut1 qb10_2
    refine TL.nil (Post.thnN ?_)
    refine T.region ?_
    refine R.mvE rfl (by conv => lhs; whnf) ?_
    refine R.fldA Try.underlying55 rfl Try.sizeOf26 (by decide) rfl rfl ?_
    refine R.ldH Try.isAgg26 rfl rfl hb10_2 rfl ?_
    refine R.bs rfl (run_buildSlice1 Try.underlying22 Try.sizeOf26 Try.zeroValue26 rfl rfl) ?_
    intro b28
    have w28 : OwnS (intE .u64) 26 Hb10_2 (.slice (some ⟨b28, 0, none⟩) 1 1) [yl1.1] [(b28, .cells #[.int .u64 (yl1.1)] 26)] := OwnS.lit (xs := [yl1.1]) (cellsOf_cons (a := [.int .u64 (yl1.1)]) rfl cellsOf_nil) (by show 1 ≤ maxLen; decide)
    obtain ⟨k29, y29, r29⟩ := Src.ownA w28
    refine R.app (E := (intE .u64)) (e := 26) (xs := x8l1) (ys := [yl1.1]) Try_ty22 rfl rfl rfl (OwnS.mono w8l1 sb10_2) (.tl (.tl (.tl .hd))) (r29 _ .hd) y29 (by (try simp only [List.length_append, List.length_cons, List.length_nil, List.length_replicate, List.length_take, List.length_drop]); omega) (by (try simp only [List.length_append, List.length_cons, List.length_nil, List.length_replicate, List.length_take, List.length_drop]); omega) ?_
    intro v29 c29 w29
    obtain ⟨A29, p29, rfl, m29, n29⟩ := OwnS.shape w29
    refine TL.del (.tl .hd) ?_
    refine R.asE rfl (by conv => lhs; whnf) ?_
    refine TL.nil (Post.blkN ?_)
    refine id (Post.thnN ?_)
    refine T.region ?_
    refine R.addI rfl rfl rfl (by omega) ?_
    refine R.mvE rfl (by conv => lhs; whnf) ?_
    refine TL.nil (Post.thnN ?_)
    exact ⟨(kl1 + 1, .slice A29 (x8l1 ++ [yl1.1]).length p29, (x8l1 ++ [yl1.1]), c29), (s_l1.trans sb10_2), ⟨(by omega), (Has.cons (.tl .hd) (Has.cons (.tl .hd) (Has.cons .hd Has.nil))), w29, (by first | omega | (simp; done) | (simp; omega) | (simp at *; omega)), (by rw [← hQl1, drop_cons hyl1, index_turned_l1])⟩, by show a0.length - (kl1 + 1) < a0.length - kl1; omega, rfl, rfl, rfl, rfl, rfl, rfl, rfl, rfl, rfl, trivial⟩
  refine T.exit (Post.thnE (Post.thnE (Post.blkX ?_)))
  have hEl1 : index_turned_l1 a0 x17 = x8l1 := (hQl1.symm.trans (by rw [show kl1 = a0.length by omega, List.drop_length, index_turned_l1]))
  refine id (Post.thnN ?_)
  refine T.seq ?_
  refine T.seq ?_
  refine T.region ?_
  refine R.mvE rfl (by conv => lhs; whnf) ?_
  refine TL.has (Has.cons (.tl (.tl .hd)) (Has.cons .hd (Has.cons .hd Has.nil))) ?_
  obtain ⟨r32, er32⟩ : ∃ r, r = (index_once_m x8l1) := ⟨_, rfl⟩
  refine TL.call [true] rfl rfl rfl (index_once_c _ _ x8l1 _ w8l1 (by first | omega | (simp; done) | (simp; omega) | (simp at *; omega))) ?_
  intro v32 H32 L32 s32 q32
  rw [← er32] at q32
  obtain ⟨u32_0_0, c32_0_0, rfl, rfl, w32_0_0⟩ := q32
  obtain ⟨A32_0_0, p32_0_0, rfl, m32_0_0, n32_0_0⟩ := OwnS.shape w32_0_0
  have to32 := once_len _ _ er32
  refine R.len Try.underlying22 rfl rfl ?_
  refine R.mvE rfl (by conv => lhs; whnf) ?_
  refine TL.nil (Post.thnN ?_)
  refine T.block ?_
  refine T.shut .hd ?_
  intro HF32_0_0_3 sF32_0_0_3 qF32_0_0_3
  have fF32_0_0_3 := OwnS.read w32_0_0 sF32_0_0_3 qF32_0_0_3
  refine T.loop (ι := Nat × Value × (List (Int × (List Int))) × Chunk) (fun ⟨kl2, vb7l2_0, xb7l2_0, cb7l2_0⟩ H' L' ds' => kl2 ≤ r32.length ∧ Has L' [[(b7, .cells #[vb7l2_0] 46)], [(b6, .cells #[.slice none 0 0] 46)], cb7l2_0] ∧ OwnS listedE 55 H' vb7l2_0 xb7l2_0 cb7l2_0 ∧ xb7l2_0.length ≤ kl2 ∧ index_turned_l2 a0 a1 a2 (r32.drop kl2) xb7l2_0 = index_turned_l2 a0 a1 a2 r32 []) (fun ⟨kl2, vb7l2_0, xb7l2_0, cb7l2_0⟩ => [(34, .int .i64 (kl2 : Int)), (1, .slice Aa1 a1.length ca1), (2, fa2), (3, .pointer (some ⟨b3, 0, none⟩)), (6, .pointer (some ⟨b6, 0, none⟩)), (7, .pointer (some ⟨b7, 0, none⟩)), (32, .slice A32_0_0 r32.length p32_0_0), (33, .int .i64 (r32.length : Int))]) (fun ⟨kl2, vb7l2_0, xb7l2_0, cb7l2_0⟩ => r32.length - kl2) (0, .slice none 0 0, [], []) ?_ ?_ ?_
  · exact ⟨(by omega), (Has.cons .hd (Has.cons .hd (Has.none Has.nil))), OwnS.nil, (by first | omega | (simp; done) | (simp; omega) | (simp at *; omega)), (by rfl)⟩
  · exact ⟨rfl, rfl, rfl, rfl, rfl, rfl, rfl, rfl, trivial⟩
  intro ⟨kl2, vb7l2_0, xb7l2_0, cb7l2_0⟩ σ_l2 H_l2 L_l2 ds_l2 s_l2 hI_l2
  obtain ⟨hkl2, hI_l2⟩ := hI_l2
  obtain ⟨hLl2, wb7l2_0, hBl2_0, hQl2⟩ := hI_l2
  obtain ⟨Ab7l2_0, pb7l2_0, rfl, mb7l2_0, nb7l2_0_⟩ := OwnS.shape wb7l2_0
  refine T.has hLl2 ?_
  refine T.seq ?_
  refine T.region ?_
  refine R.lss rfl rfl rfl ?_
  refine TL.nil (Post.thnN ?_)
  refine T.seq ?_
  refine T.condD rfl (fun c35 => ?_) (fun c35 => ?_)
  · have hltl2 : kl2 < r32.length := by omega
    obtain ⟨yl2, hyl2⟩ := getk (xs := r32) (k := kl2) (by omega)
    refine T.skip (Post.thnN ?_)
    refine T.seq ?_
    refine T.block ?_
    refine T.seq ?_
    refine T.region ?_
    obtain ⟨b36, o36, i36, k36⟩ := RdS.elem (fF32_0_0_3.mono s_l2) hyl2
    obtain ⟨l36, g36, k36⟩ := k36
    obtain rfl : l36 = [.int .u64 yl2] := g36
    refine R.ixp Try.underlying22 Try.sizeOf26 rfl rfl rfl (by omega) i36 ?_
    refine R.ldC Try.isAgg26 rfl rfl (k36 0 _ rfl) ?_
    refine R.asE rfl (by conv => lhs; whnf) ?_
    refine TL.nil (Post.thnN ?_)
    refine T.seq ?_
    refine T.region ?_
    refine R.asE rfl (by conv => lhs; whnf) ?_
    refine TL.nil (Post.thnN ?_)
    refine T.seq ?_
    refine T.seq ?_
    refine T.region ?_
    refine R.fldA Try.underlying46 rfl Try.sizeOf44 (by decide) rfl rfl ?_
    refine R.ldH Try.isAgg44 rfl rfl ((s17.trans (s_l1.trans (s32.trans (sF32_0_0_3.trans s_l2)))) _ _ hb3_1) rfl ?_
    refine R.mvE rfl (by conv => lhs; whnf) ?_
    refine R.bld (cs := [.int .u64 yl2, .slice none 0 0]) rfl (fun _ => by kernel_rfl) ?_
    obtain ⟨r43, er43⟩ : ∃ r, r = (slices_BinarySearchFunc_Listed_m a0 (((yl2, []) : Int × (List Int))) ((fun z0 z1 => index_compare_m z0 z1))) := ⟨_, rfl⟩
    refine R.callv (v := .tuple #[.int .i64 r43.1, .bool r43.2]) rfl rfl rfl (by rw [er43]; exact slices_BinarySearchFunc_Listed_c _ _ a0 (ha0_0.mono (sb3_1.trans (s17.trans (s_l1.trans (s32.trans (sF32_0_0_3.trans s_l2)))))) (((yl2, []) : Int × (List Int))) _ RdS.nil _ (fun z0 z1 => index_compare_m z0 z1) (fun H2 h2 z0 vz0_1 hz0_1 z1 vz1_1 hz1_1 => index_compare_c H2 z0 vz0_1 hz0_1 z1 vz1_1 hz1_1) rfl (by first | omega | (simp; done) | (simp; omega) | (simp at *; omega))) ?_
    have tb43 := bf_rng _ _ _ _ er43 (by first | omega | simp)
    refine R.mvE rfl (by conv => lhs; whnf) ?_
    refine R.ext rfl rfl rfl ?_
    refine R.ext rfl rfl rfl ?_
    refine R.asE rfl (by conv => lhs; whnf) ?_
    refine R.asE rfl (by conv => lhs; whnf) ?_
    refine TL.nil (Post.thnN ?_)
    refine T.seq ?_
    refine T.region ?_
    refine R.mvE rfl (by conv => lhs; whnf) ?_
    refine TL.nil (Post.thnN ?_)
    refine T.cutK (ι := Value × (List Int) × Chunk) (fun ⟨v13c3, x13c3, c13c3⟩ H' L' ds' => Has L' [[(b7, .cells #[.slice Ab7l2_0 xb7l2_0.length pb7l2_0] 46)], [(b6, .cells #[.slice none 0 0] 46)], cb7l2_0, c13c3] ∧ OwnS (intE .i64) 3 H' v13c3 x13c3 c13c3 ∧ x13c3.length ≤ 1000 ∧ (if r43.2 = true then (a0.getD r43.1.toNat (((0, []) : Int × (List Int)) : Int × (List Int))).2 else [] : (List Int)) = x13c3) (fun ⟨v13c3, x13c3, c13c3⟩ => [(1, .slice Aa1 a1.length ca1), (2, fa2), (3, .pointer (some ⟨b3, 0, none⟩)), (6, .pointer (some ⟨b6, 0, none⟩)), (7, .pointer (some ⟨b7, 0, none⟩)), (12, .int .u64 yl2), (13, v13c3), (32, .slice A32_0_0 r32.length p32_0_0), (33, .int .i64 (r32.length : Int)), (34, .int .i64 (kl2 : Int))]) ?_ ?_
    · refine T.cond rfl (fun c46 => ?_) (fun c46 => ?_)
      · refine T.set 46 (.bool true) (congrArg Value.bool c46) ?_
        refine T.seq ?_
        have tq := tb43.2.2 (by simpa using c46)
        refine T.region ?_
        refine R.fldA Try.underlying46 rfl Try.sizeOf44 (by decide) rfl rfl ?_
        refine R.ldH Try.isAgg44 rfl rfl ((s17.trans (s_l1.trans (s32.trans (sF32_0_0_3.trans s_l2)))) _ _ hb3_1) rfl ?_
        refine R.mvE rfl (by conv => lhs; whnf) ?_
        have hl50 : r43.1.toNat < a0.length := by first | omega | (simp; done) | (simp; omega) | (simp at *; omega)
        obtain ⟨y50, e50, h50⟩ : ∃ y, y = (a0.getD r43.1.toNat (((0, []) : Int × (List Int)) : Int × (List Int))) ∧ a0[r43.1.toNat]? = some y := ⟨_, rfl, getD_get (by first | exact hl50 | simpa using hl50 | (simp only [List.length_set]; omega) | omega | (rw [(sortI_perm _).length_eq]; exact hl50))⟩
        obtain ⟨b50, o50, i50, k50⟩ := RdS.elem (ha0_0.mono (sb3_1.trans (s17.trans (s_l1.trans (s32.trans (sF32_0_0_3.trans s_l2)))))) h50
        obtain ⟨l50, g50, k50⟩ := k50
        obtain ⟨z50_1, rfl, r50_1⟩ := g50
        obtain ⟨A50_1, p50_1, rfl, m50_1, n50_1, r50_1⟩ := r50_1.shape
        have tr50 := hr y50 (List.mem_of_getElem? h50)
        refine R.ixp Try.underlying44 Try.sizeOf55 rfl rfl rfl (by first | omega | (simp; done) | (simp; omega) | (simp at *; omega)) i50 ?_
        refine R.fldA Try.underlying55 rfl Try.sizeOf37 (by decide) rfl rfl ?_
        refine R.ldC Try.isAgg37 rfl rfl (k50 1 _ rfl) ?_
        refine R.len Try.underlying37 rfl rfl ?_
        refine R.mks (E := (intE .i64)) (q := y50.2.length) (z0 := ((0 : Int))) (zc := [.int .i64 0]) Try_ty37 (zcells_of (z := .int .i64 0) (by kernel_rfl)) (fun _ => rfl) rfl rfl rfl (by omega) (by omega) ?_
        intro v54 c54 w54
        obtain ⟨A54, p54, rfl, m54, n54⟩ := w54.shape
        refine R.asE rfl (by conv => lhs; whnf) ?_
        refine TL.nil (Post.thnN ?_)
        refine T.region ?_
        refine R.mvE rfl (by conv => lhs; whnf) ?_
        refine R.fldA Try.underlying46 rfl Try.sizeOf44 (by decide) rfl rfl ?_
        refine R.ldH Try.isAgg44 rfl rfl ((s17.trans (s_l1.trans (s32.trans (sF32_0_0_3.trans s_l2)))) _ _ hb3_1) rfl ?_
        refine R.mvE rfl (by conv => lhs; whnf) ?_
        have hl59 : r43.1.toNat < a0.length := by first | omega | (simp; done) | (simp; omega) | (simp at *; omega)
        obtain ⟨y59, e59, h59⟩ : ∃ y, y = (a0.getD r43.1.toNat (((0, []) : Int × (List Int)) : Int × (List Int))) ∧ a0[r43.1.toNat]? = some y := ⟨_, rfl, getD_get (by first | exact hl59 | simpa using hl59 | (simp only [List.length_set]; omega) | omega | (rw [(sortI_perm _).length_eq]; exact hl59))⟩
        obtain ⟨b59, o59, i59, k59⟩ := RdS.elem (ha0_0.mono (sb3_1.trans (s17.trans (s_l1.trans (s32.trans (sF32_0_0_3.trans s_l2)))))) h59
        obtain ⟨l59, g59, k59⟩ := k59
        obtain ⟨z59_1, rfl, r59_1⟩ := g59
        obtain ⟨A59_1, p59_1, rfl, m59_1, n59_1, r59_1⟩ := r59_1.shape
        have tr59 := hr y59 (List.mem_of_getElem? h59)
        have tl59 : y59.2.length = y50.2.length := by rw [e59, e50]
        refine R.ixp Try.underlying44 Try.sizeOf55 rfl rfl rfl (by first | omega | (simp; done) | (simp; omega) | (simp at *; omega)) i59 ?_
        refine R.fldA Try.underlying55 rfl Try.sizeOf37 (by decide) rfl rfl ?_
        refine R.ldC Try.isAgg37 rfl rfl (k59 1 _ rfl) ?_
        obtain ⟨k62, y62, r62⟩ := Src.rdA r59_1
        refine R.copyD (v := (.slice A54 (List.replicate y50.2.length ((0 : Int))).length p54)) Try_ty37 rfl rfl rfl w54 .hd (r62 _) y62 (by first | (simp; done) | (simp; omega)) ?_
        intro cm541 wm541
        refine TL.nil (Post.thnN ?_)
        exact ⟨(.slice A54 (List.replicate y50.2.length ((0 : Int))).length p54, y59.2, cm541), HLe.refl _, ⟨(Has.cons (.tl .hd) (Has.cons (.tl .hd) (Has.cons (.tl .hd) (Has.cons .hd Has.nil)))), wm541, (by first | omega | (simp; done) | (simp; omega) | (simp at *; omega)), (by subst e59; subst e50; rw [if_t c46])⟩, rfl, rfl, rfl, rfl, rfl, rfl, rfl, rfl, rfl, rfl, trivial⟩
      refine T.set 46 (.bool false) (congrArg Value.bool c46) ?_
      refine T.skip (Post.thnN ?_)
      exact ⟨(.slice none 0 0, [], []), HLe.refl _, ⟨(Has.cons .hd (Has.cons .hd (Has.cons .hd (Has.none Has.nil)))), OwnS.nil, (by first | omega | (simp; done) | (simp; omega) | (simp at *; omega)), (by rw [if_f c46])⟩, rfl, rfl, rfl, rfl, rfl, rfl, rfl, rfl, rfl, rfl, trivial⟩
    intro ⟨v13c3, x13c3, c13c3⟩ σ_c3 H_c3 L_c3 ds_c3 s_c3 hI_c3
    obtain ⟨hLc3, w13c3, hBc3_0, hTc3⟩ := hI_c3
    obtain ⟨A13c3, p13c3, rfl, m13c3, n13c3_⟩ := OwnS.shape w13c3
    refine T.has hLc3 ?_
    refine T.seq ?_
    refine T.seq ?_
    refine T.region ?_
    refine R.mvE rfl (by conv => lhs; whnf) ?_
    refine R.mvE rfl (by conv => lhs; whnf) ?_
    refine R.callv rfl rfl rfl (slices_Contains_Id_d _ _ a1 (ha1.mono (sb3_1.trans (s17.trans (s_l1.trans (s32.trans (sF32_0_0_3.trans (s_l2.trans s_c3))))))) yl2) ?_
    refine TL.nil (Post.thnN ?_)
    refine T.cutK (ι := Value × (List Int) × Chunk) (fun ⟨v13c4, x13c4, c13c4⟩ H' L' ds' => Has L' [[(b7, .cells #[.slice Ab7l2_0 xb7l2_0.length pb7l2_0] 46)], [(b6, .cells #[.slice none 0 0] 46)], cb7l2_0, c13c4] ∧ OwnS (intE .i64) 3 H' v13c4 x13c4 c13c4 ∧ (if yl2 ∈ a1 then (a2 x13c3) else x13c3 : (List Int)) = x13c4) (fun ⟨v13c4, x13c4, c13c4⟩ => [(1, .slice Aa1 a1.length ca1), (2, fa2), (3, .pointer (some ⟨b3, 0, none⟩)), (6, .pointer (some ⟨b6, 0, none⟩)), (7, .pointer (some ⟨b7, 0, none⟩)), (12, .int .u64 yl2), (13, v13c4), (32, .slice A32_0_0 r32.length p32_0_0), (33, .int .i64 (r32.length : Int)), (34, .int .i64 (kl2 : Int))]) ?_ ?_
    · refine T.condD rfl (fun c65 => ?_) (fun c65 => ?_)
      · refine T.set 65 (.bool true) (congrArg Value.bool (decide_eq_true c65)) ?_
        refine T.region ?_
        refine R.mvE rfl (by conv => lhs; whnf) ?_
        refine R.mvE rfl (by conv => lhs; whnf) ?_
        refine TL.call [false, false, false, true] rfl rfl rfl (ha2 _ (sb3_1.trans (s17.trans (s_l1.trans (s32.trans (sF32_0_0_3.trans (s_l2.trans s_c3)))))) _ _ _ (by first | omega | (simp; done) | (simp; omega) | (simp at *; omega)) w13c3) ?_
        intro v68 H68 L68 s68 q68
        obtain ⟨u68, c68, hv68, hc68, w68⟩ := q68
        subst hv68; subst hc68
        obtain ⟨x68, e68⟩ : ∃ x, x = (a2 x13c3) := ⟨_, rfl⟩
        rw [← e68] at w68
        obtain ⟨A68, p68, rfl, m68, n68⟩ := OwnS.shape w68
        refine R.asE rfl (by conv => lhs; whnf) ?_
        refine TL.nil (Post.thnN ?_)
        exact ⟨(.slice A68 x68.length p68, x68, c68), s68, ⟨(Has.cons (.tl .hd) (Has.cons (.tl .hd) (Has.cons (.tl .hd) (Has.cons .hd Has.nil)))), w68, (by subst e68; rw [if_pos c65])⟩, rfl, rfl, rfl, rfl, rfl, rfl, rfl, rfl, rfl, rfl, trivial⟩
      refine T.set 65 (.bool false) (congrArg Value.bool (decide_eq_false c65)) ?_
      refine T.skip (Post.thnN ?_)
      exact ⟨(.slice A13c3 x13c3.length p13c3, x13c3, c13c3), HLe.refl _, ⟨(Has.cons .hd (Has.cons .hd (Has.cons .hd (Has.cons .hd Has.nil)))), w13c3, (by rw [if_neg c65])⟩, rfl, rfl, rfl, rfl, rfl, rfl, rfl, rfl, rfl, rfl, trivial⟩
    intro ⟨v13c4, x13c4, c13c4⟩ σ_c4 H_c4 L_c4 ds_c4 s_c4 hI_c4
    obtain ⟨hLc4, w13c4, hTc4⟩ := hI_c4
    obtain ⟨A13c4, p13c4, rfl, m13c4, n13c4_⟩ := OwnS.shape w13c4
    refine T.has hLc4 ?_
    refine T.seq ?_
    refine T.region ?_
    refine R.mvE rfl (by conv => lhs; whnf) ?_
    refine R.len Try.underlying37 rfl rfl ?_
    refine R.gtr rfl rfl rfl ?_
    refine TL.nil (Post.thnN ?_)
    refine T.condD rfl (fun c71 => ?_) (fun c71 => ?_)
    · refine T.set 71 (.bool true) (congrArg Value.bool (decide_eq_true c71)) ?_
      refine T.region ?_
      refine R.fldA Try.underlying46 rfl Try.sizeOf44 (by decide) rfl rfl ?_
      refine R.ld Try.isAgg44 rfl rfl .hd rfl ?_
      refine R.mvE rfl (by conv => lhs; whnf) ?_
      refine R.mvE rfl (by conv => lhs; whnf) ?_
      refine R.bld (cs := [.int .u64 yl2, .slice A13c4 x13c4.length p13c4]) rfl (fun _ => by kernel_rfl) ?_
      refine TL.shut (.tl (.tl (.tl .hd))) ?_
      intro HF13c4_4 sF13c4_4 qF13c4_4
      have fF13c4_4 := OwnS.read w13c4 sF13c4_4 qF13c4_4
      refine R.bs (e := 55) (cs := [.int .u64 yl2, .slice A13c4 x13c4.length p13c4]) rfl (fun _ => by kernel_rfl) ?_
      intro b77
      have w77 : OwnS listedE 55 HF13c4_4 (.slice (some ⟨b77, 0, none⟩) 1 1) [(yl2, x13c4)] [(b77, .cells #[.int .u64 yl2, .slice A13c4 x13c4.length p13c4] 55)] := OwnS.lit (xs := [(yl2, x13c4)]) (cellsOf_cons (a := [.int .u64 yl2, .slice A13c4 x13c4.length p13c4]) ⟨_, rfl, fF13c4_4⟩ cellsOf_nil) (by show 1 ≤ maxLen; decide)
      obtain ⟨k78, y78, r78⟩ := Src.ownA w77
      refine R.app (E := listedE) (e := 55) (xs := xb7l2_0) (ys := [(yl2, x13c4)]) Try_ty44 rfl rfl rfl (OwnS.mono wb7l2_0 (s_c3.trans (s_c4.trans sF13c4_4))) (.tl (.tl (.tl .hd))) (r78 _ .hd) y78 (by (try simp only [List.length_append, List.length_cons, List.length_nil, List.length_replicate, List.length_take, List.length_drop]); omega) (by (try simp only [List.length_append, List.length_cons, List.length_nil, List.length_replicate, List.length_take, List.length_drop]); omega) ?_
      intro v78 c78 w78
      obtain ⟨A78, p78, rfl, m78, n78⟩ := OwnS.shape w78
      refine TL.del (.tl .hd) ?_
      refine R.fldA Try.underlying46 rfl Try.sizeOf44 (by decide) rfl rfl ?_
      refine R.stX (old := [.slice Ab7l2_0 xb7l2_0.length pb7l2_0]) (l := [.slice A78 (xb7l2_0 ++ [(yl2, x13c4)]).length p78]) (new := [.slice A78 (xb7l2_0 ++ [(yl2, x13c4)]).length p78]) (et := 46) Try.sizeOf44 rfl rfl rfl (cells1 rfl) rfl (by show 0 + 1 ≤ 1; decide) rfl (all_one rfl) (.tl .hd) ?_
      refine TL.nil (Post.blkN ?_)
      refine id (Post.thnN ?_)
      refine T.region ?_
      refine R.addI rfl rfl rfl (by omega) ?_
      refine R.mvE rfl (by conv => lhs; whnf) ?_
      refine TL.nil (Post.thnN ?_)
      exact ⟨(kl2 + 1, .slice A78 (xb7l2_0 ++ [(yl2, x13c4)]).length p78, (xb7l2_0 ++ [(yl2, x13c4)]), c78), (s_l2.trans (s_c3.trans (s_c4.trans sF13c4_4))), ⟨(by omega), (Has.cons (.tl .hd) (Has.cons (.tl .hd) (Has.cons .hd Has.nil))), w78, (by first | omega | (simp; done) | (simp; omega) | (simp at *; omega)), (by subst er43; rw [← hQl2, drop_cons hyl2, index_turned_l2]; rw [LR.seq_go, hTc3, LR.seq_go, hTc4, LR.seq_go, if_pos c71])⟩, by show r32.length - (kl2 + 1) < r32.length - kl2; omega, rfl, rfl, rfl, rfl, rfl, rfl, rfl, rfl, trivial⟩
    refine T.set 71 (.bool false) (congrArg Value.bool (decide_eq_false c71)) ?_
    refine T.skip (Post.blkN ?_)
    refine id (Post.thnN ?_)
    refine T.region ?_
    refine R.addI rfl rfl rfl (by omega) ?_
    refine R.mvE rfl (by conv => lhs; whnf) ?_
    refine TL.nil (Post.thnN ?_)
    exact ⟨(kl2 + 1, .slice Ab7l2_0 xb7l2_0.length pb7l2_0, xb7l2_0, cb7l2_0), (s_l2.trans (s_c3.trans s_c4)), ⟨(by omega), (Has.cons .hd (Has.cons .hd (Has.cons .hd Has.nil))), (OwnS.mono wb7l2_0 (s_c3.trans s_c4)), (by first | omega | (simp; done) | (simp; omega) | (simp at *; omega)), (by subst er43; rw [← hQl2, drop_cons hyl2, index_turned_l2]; rw [LR.seq_go, hTc3, LR.seq_go, hTc4, LR.seq_go, if_neg c71])⟩, by show r32.length - (kl2 + 1) < r32.length - kl2; omega, rfl, rfl, rfl, rfl, rfl, rfl, rfl, rfl, trivial⟩
  refine T.exit (Post.thnE (Post.thnE (Post.blkX ?_)))
  have hEl2 : index_turned_l2 a0 a1 a2 r32 [] = xb7l2_0 := (hQl2.symm.trans (by rw [show kl2 = r32.length by omega, List.drop_length, index_turned_l2]))
  refine id (Post.thnN ?_)
  refine T.seq ?_
  refine T.region ?_
  refine R.ldX (cs := [.slice Ab7l2_0 xb7l2_0.length pb7l2_0]) (l := [.slice Ab7l2_0 xb7l2_0.length pb7l2_0]) Try.isAgg46 Try.sizeOf46 rfl rfl .hd rfl rfl ?_
  refine R.stX (old := [.slice none 0 0]) (l := [.slice Ab7l2_0 xb7l2_0.length pb7l2_0]) (new := [.slice Ab7l2_0 xb7l2_0.length pb7l2_0]) (et := 46) Try.sizeOf46 rfl rfl rfl rfl rfl (by show 0 + 1 ≤ 1; decide) rfl (all_one rfl) (.tl .hd) ?_
  refine TL.nil (Post.thnN ?_)
  refine T.has (Has.cons (.tl (.tl .hd)) (Has.cons (.tl .hd) Has.nil)) ?_
  refine T.ret ?_
  have hM : index_turned_m a0 a1 a2 = xb7l2_0 := by subst er32; subst e17; rw [index_turned_m, hEl1, LR.seq_go, LR.seq_go, hEl2, LR.seq_go]
  exact finR1 (v := .agg #[.slice Ab7l2_0 xb7l2_0.length pb7l2_0]) [cb7l2_0] rfl (.cellA (cs := [.slice Ab7l2_0 xb7l2_0.length pb7l2_0]) (l := [.slice Ab7l2_0 xb7l2_0.length pb7l2_0]) Try.isAgg46 Try.sizeOf46 rfl (.tl .hd) rfl rfl) (List.sublist_append_left ([cb7l2_0] : Own) _) ⟨.slice Ab7l2_0 xb7l2_0.length pb7l2_0, cb7l2_0, by first | rw [hM] | rfl, rfl, by rw [hM]; exact wb7l2_0⟩
def index_Put_1_m (q0 : Int) (a0 : List Int) : (List Int) :=
  LR.seq (slices_BinarySearch_int_m a0 q0) (fun r9 => (ins a0 r9.1.toNat q0))
set_option maxHeartbeats 3200000 in
theorem index_Put_1_c (H : Heap) (b1000 : Nat) (q0 : Int) (hb0 : H b1000 = some (.cells #[.int .i64 q0] 3)) (va0 : Value) (a0 : List Int) (Ca0 : Chunk) (ha0 : OwnS (intE .i64) 3 H va0 a0 Ca0) (hl : a0.length ≤ 2000000) : Fc Try.prog (.func (.func 94) #[] ([.pointer (some ⟨b1000, 0, none⟩)] : List Value).toArray) [va0] H [Ca0] (fun v' H' L' => ∃ u0_0 c0_0, v' = u0_0 ∧ L' = [c0_0] ∧ OwnS (intE .i64) 3 H' u0_0 (index_Put_1_m q0 a0) c0_0) := by
  refine Fc.of_body (N := 17) Try.func94 rfl (by kernel_rfl) rfl rfl ?_
  intro w0
  obtain ⟨Aa0, pa0, rfl, ma0, na0⟩ := OwnS.shape ha0
  refine T.seq ?_
  refine T.region ?_
  refine R.asE rfl (by conv => lhs; whnf) ?_
  refine TL.nil (Post.thnN ?_)
  refine T.seq ?_
  refine T.region ?_
  refine R.mvE rfl (by conv => lhs; whnf) ?_
  refine R.ldH Try.isAgg3 rfl rfl hb0 rfl ?_
  obtain ⟨r9, er9⟩ : ∃ r, r = (slices_BinarySearch_int_m a0 q0) := ⟨_, rfl⟩
  refine R.callvB (v := .tuple #[.int .i64 r9.1, .bool r9.2]) rfl rfl rfl (fun HB9 sB9 qB9 => by have fB9_0 := OwnS.read ha0 sB9 (In.all .hd qB9); exact (by rw [er9]; exact slices_BinarySearch_int_c _ _ a0 fB9_0 (q0) (by first | omega | (simp; done) | (simp; omega) | (simp at *; omega)))) ?_
  have tb9 := bsi_rng _ _ _ er9 (by first | omega | (simp; done) | (simp; omega) | (simp at *; omega))
  refine R.mvE rfl (by conv => lhs; whnf) ?_
  refine R.ext rfl rfl rfl ?_
  refine R.ext rfl rfl rfl ?_
  refine R.asE rfl (by conv => lhs; whnf) ?_
  refine R.asE rfl (by conv => lhs; whnf) ?_
  refine TL.nil (Post.thnN ?_)
  refine T.seq ?_
  refine T.region ?_
  refine R.mvE rfl (by conv => lhs; whnf) ?_
  refine R.mvE rfl (by conv => lhs; whnf) ?_
  refine R.ldH Try.isAgg3 rfl rfl hb0 rfl ?_
  refine R.bs rfl (run_buildSlice1 Try.underlying37 Try.sizeOf3 Try.zeroValue3 rfl rfl) ?_
  intro b15
  have w15 : OwnS (intE .i64) 3 H (.slice (some ⟨b15, 0, none⟩) 1 1) [q0] [(b15, .cells #[.int .i64 q0] 3)] := OwnS.lit (xs := [q0]) (cellsOf_cons (a := [.int .i64 q0]) rfl cellsOf_nil) (by show 1 ≤ maxLen; decide)
  refine TL.shut .hd ?_
  intro HF15_1 sF15_1 qF15_1
  have fF15_1 := OwnS.read w15 sF15_1 qF15_1
  refine TL.call [true] rfl rfl rfl (insert_c _ _ a0 _ (OwnS.mono ha0 sF15_1) (q0) _ _ (shut1 qF15_1) (r9.1) (by first | omega | (simp; done) | (simp; omega) | (simp at *; omega)) (by first | omega | (simp; done) | (simp; omega) | (simp at *; omega))) ?_
  intro v16 H16 L16 s16 q16
  obtain ⟨c16, rfl, w16⟩ := q16
  obtain ⟨x16, e16⟩ : ∃ x, x = (ins a0 r9.1.toNat q0) := ⟨_, rfl⟩
  rw [← e16] at w16
  obtain ⟨A16, p16, rfl, m16, n16⟩ := OwnS.shape w16
  refine R.asE rfl (by conv => lhs; whnf) ?_
  refine TL.nil (Post.thnN ?_)
  refine T.has (Has.cons .hd Has.nil) ?_
  refine T.ret ?_
  have hM : index_Put_1_m q0 a0 = x16 := by subst e16; subst er9; rw [index_Put_1_m, LR.seq_go]
  exact fin1L (v := .slice A16 x16.length p16) [c16] rfl rfl (List.Sublist.refl _) ⟨.slice A16 x16.length p16, c16, by first | rw [hM] | rfl, rfl, by rw [hM]; exact w16⟩
def index_Put_m (a0 : (List (Int × (List Int)))) (a1 : Int) (a2 : List Int) : ((List (Int × (List Int)))) × Int :=
  if ((index_Check_m a0) : Int) ≠ 0 then ((([] : (List (Int × (List Int)))), 240)) else (if (!(index_table_m a1)) = true then ((([] : (List (Int × (List Int)))), 2)) else (if ((types_Check_m a2) : Int) ≠ 0 then ((([] : (List (Int × (List Int)))), 130)) else (LR.seq (index_in_m a0 a1) (fun r26 => if (0 : Int) < (r26.length : Int) then ((([] : (List (Int × (List Int)))), 5)) else (LR.seq (index_Keys_m a2) (fun r32 => LR.seq (index_turned_m a0 r32 ((fun z => index_Put_1_m a1 z))) (fun r34 => (r34, 0))))))))
set_option maxHeartbeats 3200000 in
theorem index_Put_c (H : Heap) (a0 : (List (Int × (List Int)))) (va0_0 : Value) (ha0_0 : RdS listedE H va0_0 a0) (a1 : Int) (va2 : Value) (a2 : List Int) (ha2 : RdS (intE .u64) H va2 a2) (hn : a0.length ≤ 1000) (hr : ∀ r ∈ a0, r.2.length ≤ 1000) : Fc Try.prog (fnv 40) [.agg #[va0_0], .int .i64 a1, va2] H [] (fun v' H' L' => ∃ u0_0 c0_0, v' = .tuple #[.agg #[u0_0], .int .i64 (index_Put_m a0 a1 a2).2] ∧ L' = [c0_0] ∧ OwnS listedE 55 H' u0_0 (index_Put_m a0 a1 a2).1 c0_0) := by
  refine Fc.of_body (N := 35) Try.func40 rfl (by kernel_rfl) rfl rfl ?_
  intro w0
  obtain ⟨Aa0_0, ca0_0, rfl, hca0_0, hda0_0, ha0_0⟩ := ha0_0.shape
  obtain ⟨Aa2, ca2, rfl, hca2, hda2, ha2⟩ := ha2.shape
  refine T.seq ?_
  refine T.region ?_
  refine R.box rfl (by conv => lhs; whnf) ?_
  intro b3
  refine R.box rfl (by conv => lhs; whnf) ?_
  intro b4
  refine R.alloc Try.zeroValue46 rfl ?_
  intro b6
  refine R.asE rfl (by conv => lhs; whnf) ?_
  refine TL.shut (.tl .hd) ?_
  intro Hb4_1 sb4_1 qb4_1
  have hb4_1 : Hb4_1 b4 = some (.cells #[.int .i64 a1] 3) := shut1 qb4_1
  refine TL.shut (.tl .hd) ?_
  intro Hb3_2 sb3_2 qb3_2
  have hb3_2 : Hb3_2 b3 = some (.cells #[.slice Aa0_0 a0.length ca0_0] 46) := shut1 qb3_2
  refine TL.nil (Post.thnN ?_)
  refine T.seq ?_
  refine T.block ?_
  refine T.seq ?_
  refine T.region ?_
  refine R.ldXH (cs := [.slice Aa0_0 a0.length ca0_0]) (l := [.slice Aa0_0 a0.length ca0_0]) Try.isAgg46 Try.sizeOf46 rfl rfl hb3_2 rfl rfl ?_
  refine R.callv rfl rfl rfl (index_Check_c _ a0 _ (ha0_0.mono (sb4_1.trans sb3_2)) (by first | omega | assumption | (simp; done) | (simp; omega) | (simp at *; omega)) (by first | assumption | exact rows_le (by assumption) (by omega) | (intro r h; simp at h; done))) ?_
  refine R.neq rfl rfl rfl ?_
  refine R.asE rfl (by conv => lhs; whnf) ?_
  refine TL.nil (Post.thnN ?_)
  refine T.condD rfl (fun c8 => ?_) (fun c8 => ?_)
  · refine T.set 8 (.bool true) (congrArg Value.bool (decide_eq_true c8)) ?_
    refine T.seq ?_
    refine T.region ?_
    refine R.bld (cs := [.slice none 0 0]) rfl (fun _ => by kernel_rfl) ?_
    refine R.stX (old := [.slice none 0 0]) (l := [.slice none 0 0]) (new := [.slice none 0 0]) (et := 46) Try.sizeOf46 rfl rfl rfl rfl rfl (by show 0 + 1 ≤ 1; decide) rfl (all_one rfl) .hd ?_
    refine R.asE rfl (by conv => lhs; whnf) ?_
    refine TL.nil (Post.thnN ?_)
    refine T.has (Has.none (Has.cons .hd Has.nil)) ?_
    refine T.ret (Post.blkR (Post.thnR ?_))
    have hM : index_Put_m a0 a1 a2 = (([] : (List (Int × (List Int)))), 240) := by rw [index_Put_m, if_pos c8]
    exact finR2 (v := .agg #[.slice none 0 0]) (v' := .int .i64 240) [[]] rfl (.cellA (cs := [.slice none 0 0]) (l := [.slice none 0 0]) Try.isAgg46 Try.sizeOf46 rfl (.tl .hd) rfl rfl) (.tmp rfl) (List.sublist_append_left ([[]] : Own) _) ⟨.slice none 0 0, [], by first | rw [hM] | rfl, rfl, by rw [hM]; exact OwnS.nil⟩
  refine T.set 8 (.bool false) (congrArg Value.bool (decide_eq_false c8)) ?_
  refine T.seq ?_
  refine T.region ?_
  refine R.ldH Try.isAgg3 rfl rfl (sb3_2 _ _ hb4_1) rfl ?_
  refine R.callv rfl rfl rfl (index_table_c _ (a1)) ?_
  refine R.not rfl rfl ?_
  refine R.asE rfl (by conv => lhs; whnf) ?_
  refine TL.nil (Post.thnN ?_)
  refine T.cond rfl (fun c13 => ?_) (fun c13 => ?_)
  · refine T.set 13 (.bool true) (congrArg Value.bool c13) ?_
    refine T.seq ?_
    refine T.region ?_
    refine R.bld (cs := [.slice none 0 0]) rfl (fun _ => by kernel_rfl) ?_
    refine R.stX (old := [.slice none 0 0]) (l := [.slice none 0 0]) (new := [.slice none 0 0]) (et := 46) Try.sizeOf46 rfl rfl rfl rfl rfl (by show 0 + 1 ≤ 1; decide) rfl (all_one rfl) .hd ?_
    refine R.asE rfl (by conv => lhs; whnf) ?_
    refine TL.nil (Post.thnN ?_)
    refine T.has (Has.none (Has.cons .hd Has.nil)) ?_
    refine T.ret (Post.blkR (Post.thnR ?_))
    have hM : index_Put_m a0 a1 a2 = (([] : (List (Int × (List Int)))), 2) := by rw [index_Put_m, if_neg c8, if_t c13]
    exact finR2 (v := .agg #[.slice none 0 0]) (v' := .int .i64 2) [[]] rfl (.cellA (cs := [.slice none 0 0]) (l := [.slice none 0 0]) Try.isAgg46 Try.sizeOf46 rfl (.tl .hd) rfl rfl) (.tmp rfl) (List.sublist_append_left ([[]] : Own) _) ⟨.slice none 0 0, [], by first | rw [hM] | rfl, rfl, by rw [hM]; exact OwnS.nil⟩
  refine T.set 13 (.bool false) (congrArg Value.bool c13) ?_
  refine T.seq ?_
  refine T.region ?_
  refine R.mvE rfl (by conv => lhs; whnf) ?_
  refine R.callv rfl rfl rfl (types_Check_c _ _ a2 (ha2.mono (sb4_1.trans sb3_2))) ?_
  refine R.neq rfl rfl rfl ?_
  refine R.asE rfl (by conv => lhs; whnf) ?_
  refine TL.nil (Post.thnN ?_)
  refine T.condD rfl (fun c18 => ?_) (fun c18 => ?_)
  · refine T.set 18 (.bool true) (congrArg Value.bool (decide_eq_true c18)) ?_
    refine T.seq ?_
    refine T.region ?_
    refine R.bld (cs := [.slice none 0 0]) rfl (fun _ => by kernel_rfl) ?_
    refine R.stX (old := [.slice none 0 0]) (l := [.slice none 0 0]) (new := [.slice none 0 0]) (et := 46) Try.sizeOf46 rfl rfl rfl rfl rfl (by show 0 + 1 ≤ 1; decide) rfl (all_one rfl) .hd ?_
    refine R.asE rfl (by conv => lhs; whnf) ?_
    refine TL.nil (Post.thnN ?_)
    refine T.has (Has.none (Has.cons .hd Has.nil)) ?_
    refine T.ret (Post.blkR (Post.thnR ?_))
    have hM : index_Put_m a0 a1 a2 = (([] : (List (Int × (List Int)))), 130) := by rw [index_Put_m, if_neg c8, if_f c13, if_pos c18]
    exact finR2 (v := .agg #[.slice none 0 0]) (v' := .int .i64 130) [[]] rfl (.cellA (cs := [.slice none 0 0]) (l := [.slice none 0 0]) Try.isAgg46 Try.sizeOf46 rfl (.tl .hd) rfl rfl) (.tmp rfl) (List.sublist_append_left ([[]] : Own) _) ⟨.slice none 0 0, [], by first | rw [hM] | rfl, rfl, by rw [hM]; exact OwnS.nil⟩
  refine T.set 18 (.bool false) (congrArg Value.bool (decide_eq_false c18)) ?_
  refine T.seq ?_
  refine T.region ?_
  refine R.ldXH (cs := [.slice Aa0_0 a0.length ca0_0]) (l := [.slice Aa0_0 a0.length ca0_0]) Try.isAgg46 Try.sizeOf46 rfl rfl hb3_2 rfl rfl ?_
  refine R.ldH Try.isAgg3 rfl rfl (sb3_2 _ _ hb4_1) rfl ?_
  obtain ⟨r26, er26⟩ : ∃ r, r = (index_in_m a0 a1) := ⟨_, rfl⟩
  refine TL.call [] rfl rfl rfl (index_in_c _ a0 _ (ha0_0.mono (sb4_1.trans sb3_2)) (a1) (by first | omega | (simp; done) | (simp; omega) | (simp at *; omega))) ?_
  intro v26 H26 L26 s26 q26
  rw [← er26] at q26
  obtain ⟨u26_0_0, c26_0_0, rfl, rfl, w26_0_0⟩ := q26
  obtain ⟨A26_0_0, p26_0_0, rfl, m26_0_0, n26_0_0⟩ := OwnS.shape w26_0_0
  have ti26 := in_len _ _ _ er26
  refine R.len Try.underlying22 rfl rfl ?_
  refine R.gtr rfl rfl rfl ?_
  refine R.asE rfl (by conv => lhs; whnf) ?_
  refine TL.nil (Post.thnN ?_)
  refine T.condD rfl (fun c23 => ?_) (fun c23 => ?_)
  · refine T.set 23 (.bool true) (congrArg Value.bool (decide_eq_true c23)) ?_
    refine T.seq ?_
    refine T.region ?_
    refine R.bld (cs := [.slice none 0 0]) rfl (fun _ => by kernel_rfl) ?_
    refine R.stX (old := [.slice none 0 0]) (l := [.slice none 0 0]) (new := [.slice none 0 0]) (et := 46) Try.sizeOf46 rfl rfl rfl rfl rfl (by show 0 + 1 ≤ 1; decide) rfl (all_one rfl) (.tl .hd) ?_
    refine R.asE rfl (by conv => lhs; whnf) ?_
    refine TL.nil (Post.thnN ?_)
    refine T.has (Has.none (Has.cons (.tl .hd) Has.nil)) ?_
    refine T.ret (Post.blkR (Post.thnR ?_))
    have hM : index_Put_m a0 a1 a2 = (([] : (List (Int × (List Int)))), 5) := by subst er26; rw [index_Put_m, if_neg c8, if_f c13, if_neg c18, LR.seq_go, if_pos c23]
    exact finR2 (v := .agg #[.slice none 0 0]) (v' := .int .i64 5) [[]] rfl (.cellA (cs := [.slice none 0 0]) (l := [.slice none 0 0]) Try.isAgg46 Try.sizeOf46 rfl (.tl .hd) rfl rfl) (.tmp rfl) (List.sublist_append_left ([[]] : Own) _) ⟨.slice none 0 0, [], by first | rw [hM] | rfl, rfl, by rw [hM]; exact OwnS.nil⟩
  refine T.set 23 (.bool false) (congrArg Value.bool (decide_eq_false c23)) ?_
  refine T.skip (Post.blkN ?_)
  refine id (Post.thnN ?_)
  refine T.seq ?_
  refine T.draw Try_mixed (by kernel_rfl) ?_
  refine Plan.v 0 [1, 2, 3, 4, 5, 6] (by kernel_rfl) (by kernel_rfl) (by kernel_rfl) (by kernel_rfl) rfl (fun _ _ h_ => R.ldXH (cs := [.slice Aa0_0 a0.length ca0_0]) (l := [.slice Aa0_0 a0.length ca0_0]) Try.isAgg46 Try.sizeOf46 rfl rfl (s26 _ _ hb3_2) rfl rfl (TL.nil h_)) ?_
  refine Plan.v 1 [2, 3, 4, 5, 6] (by kernel_rfl) (by kernel_rfl) (by kernel_rfl) (by kernel_rfl) rfl (fun _ _ h_ => R.mvE rfl (by conv => lhs; whnf) (TL.nil h_)) ?_
  refine Plan.v 3 [2, 4, 5, 6] (by kernel_rfl) (by kernel_rfl) (by kernel_rfl) (by kernel_rfl) rfl (fun _ _ h_ => R.mkf (cs := [_]) rfl rfl (TL.nil h_)) ?_
  refine Plan.s1 2 [4, 5, 6] (by kernel_rfl) (by kernel_rfl) rfl ?_
  obtain ⟨r32, er32⟩ : ∃ r, r = (index_Keys_m a2) := ⟨_, rfl⟩
  refine TL.call [] rfl rfl rfl (index_Keys_c _ _ a2 (ha2.mono (sb4_1.trans (sb3_2.trans s26)))) ?_
  intro v32 H32 L32 s32 q32
  rw [← er32] at q32
  obtain ⟨u32_0_0, c32_0_0, rfl, rfl, w32_0_0⟩ := q32
  obtain ⟨A32_0_0, p32_0_0, rfl, m32_0_0, n32_0_0⟩ := OwnS.shape w32_0_0
  have tK32 := Keys_len _ _ er32
  refine TL.nil (Plan.e1 (s32) ?_)
  refine Plan.s1 4 [5, 6] (by kernel_rfl) (by kernel_rfl) rfl ?_
  refine TL.shut .hd ?_
  intro HF32_0_0_4 sF32_0_0_4 qF32_0_0_4
  have fF32_0_0_4 := OwnS.read w32_0_0 sF32_0_0_4 qF32_0_0_4
  obtain ⟨r34, er34⟩ : ∃ r, r = (index_turned_m a0 r32 ((fun z => index_Put_1_m a1 z))) := ⟨_, rfl⟩
  refine TL.call [] rfl rfl rfl (index_turned_c _ a0 _ (ha0_0.mono (sb4_1.trans (sb3_2.trans (s26.trans (s32.trans sF32_0_0_4))))) _ r32 fF32_0_0_4 _ (fun z => index_Put_1_m a1 z) (fun H2 h2 vz z cz hz hO => index_Put_1_c H2 b4 (a1) (h2 _ _ ((sb3_2.trans (s26.trans (s32.trans sF32_0_0_4))) _ _ hb4_1)) vz z cz hO (by first | omega | (simp; done) | (simp; omega) | (simp at *; omega))) rfl (by first | omega | (simp; done) | (simp; omega) | (simp at *; omega)) (by first | omega | (simp; done) | (simp; omega) | (simp at *; omega)) (by first | omega | (simp; done) | (simp; omega) | (simp at *; omega))) ?_
  intro v34 H34 L34 s34 q34
  rw [← er34] at q34
  obtain ⟨u34_0_0, c34_0_0, rfl, rfl, w34_0_0⟩ := q34
  obtain ⟨A34_0_0, p34_0_0, rfl, m34_0_0, n34_0_0⟩ := OwnS.shape w34_0_0
  refine TL.nil (Plan.e1 ((sF32_0_0_4.trans s34)) ?_)
  refine Plan.s1 5 [6] (by kernel_rfl) (by kernel_rfl) rfl ?_
  refine R.stX (old := [.slice none 0 0]) (l := [.slice A34_0_0 r34.length p34_0_0]) (new := [.slice A34_0_0 r34.length p34_0_0]) (et := 46) Try.sizeOf46 rfl rfl rfl rfl rfl (by show 0 + 1 ≤ 1; decide) rfl (all_one rfl) (.tl (.tl .hd)) ?_
  refine TL.nil (Plan.e0 (HLe.refl _) ?_)
  refine Plan.v 6 [] (by kernel_rfl) (by kernel_rfl) (by kernel_rfl) (by kernel_rfl) rfl (fun _ _ h_ => R.asE rfl (by conv => lhs; whnf) (TL.nil h_)) ?_
  refine Plan.done (Post.thnN ?_)
  refine T.has (Has.cons .hd (Has.cons (.tl .hd) Has.nil)) ?_
  refine T.ret ?_
  have hM : index_Put_m a0 a1 a2 = (r34, 0) := by subst er34; subst er32; subst er26; rw [index_Put_m, if_neg c8, if_f c13, if_neg c18, LR.seq_go, if_neg c23, LR.seq_go, LR.seq_go]
  exact finR2 (v := .agg #[.slice A34_0_0 r34.length p34_0_0]) (v' := .int .i64 0) [c34_0_0] rfl (.cellA (cs := [.slice A34_0_0 r34.length p34_0_0]) (l := [.slice A34_0_0 r34.length p34_0_0]) Try.isAgg46 Try.sizeOf46 rfl (.tl .hd) rfl rfl) (.tmp rfl) (List.sublist_append_left ([c34_0_0] : Own) _) ⟨.slice A34_0_0 r34.length p34_0_0, c34_0_0, by first | rw [hM] | rfl, rfl, by rw [hM]; exact w34_0_0⟩
def index_Drop_1_1_1_m (q0 : Int) (a0 : Int) : Bool :=
  (decide (a0 = q0))
def index_Drop_1_m (q0 : Int) (a0 : List Int) : (List Int) :=
  LR.seq (slices_DeleteFunc_int_m a0 ((fun z0 => index_Drop_1_1_1_m q0 z0))) (fun r6 => r6)
def index_Drop_m (a0 : (List (Int × (List Int)))) (a1 : Int) : ((List (Int × (List Int)))) × Int :=
  if ((index_Check_m a0) : Int) ≠ 0 then ((([] : (List (Int × (List Int)))), (index_Check_m a0))) else (LR.seq (index_in_m a0 a1) (fun r16 => if (r16.length : Int) = 0 then ((([] : (List (Int × (List Int)))), 4)) else (LR.seq (index_turned_m a0 r16 ((fun z => index_Drop_1_m a1 z))) (fun r24 => (r24, 0)))))
end Go.SX
