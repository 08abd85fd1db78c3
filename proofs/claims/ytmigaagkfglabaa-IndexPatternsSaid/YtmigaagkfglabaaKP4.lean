/- 'IndexPatterns' answers true, whatever it is handed, and what it is handed reads behind it as it did. -/
import Derived.RangeFuncNested
import Derived.RangeFuncBound
import Derived.RangeFuncCalls
import Derived.RangeFuncLeaves
import Derived.Shelf.Abstract
import Derived.Laws.AppendOwn
import Derived.Laws.OwnMore
import Derived.KernelRfl
import Derived.IntWalk
import Derived.Laws.Append
import Derived.WideLaws
import Derived.Laws.Slices
import Derived.Laws.MakeOwn
import Derived.OrdersIn
import Derived.Laws.Cover3
import Derived.Test.YtmigaagkfglabaaProg
import Derived.Laws.StructEq
import Derived.Shelf.Sort.Plain
import Derived.Sort.OwnSortedInts
import Derived.Shelf.Slices.In.SortNone
import Derived.Maps.RangeRun
import Derived.Lib.AppendZeros
import Derived.Sort.AssemblyPlain
import Derived.Shelf.Small.Bits
import Derived.Sort.Walk7a
import Derived.Laws.Bits64
import Derived.Laws.Bits64b
import Derived.Shelf.Spec.SlicesInsert
import Derived.Shelf.Spec.SlicesInsertGrow
import Derived.ProofKit
import Derived.ChangeSlices
import Derived.Carry
import Derived.Deep.Slices
import Derived.OpenShut
import Derived.Test.YtmigaagkfglabaaRows
import Derived.Test.YtmigaagkfglabaaKP3
set_option linter.unusedVariables false
set_option linter.unusedSimpArgs false
namespace Go.SX
open Go Go.Proofs

def slices_order2Ordered_Id_m (a0 : List Int) (a1 : Int) (a2 : Int) (a3 : Int) : Int × Int × (List Int) × Int :=
  LR.seq ((cmp_Less_Id_m (a0.getD a2.toNat (0 : Int)) (a0.getD a1.toNat (0 : Int))) : Bool) (fun sc1 => if sc1 = true then ((a2, a1, a0, (a3 + 1))) else ((a1, a2, a0, a3)))
set_option maxHeartbeats 3200000 in
theorem slices_order2Ordered_Id_c (H : Heap) (va0 : Value) (a0 : List Int) (Ca0 : Chunk) (ha0 : OwnS (intE .u64) 26 H va0 a0 Ca0) (a1 : Int) (a2 : Int) (ba3 : Nat) (a3 : Int) (h1 : 0 ≤ a1) (h2 : a1 < (a0.length : Int)) (h3 : 0 ≤ a2) (h4 : a2 < (a0.length : Int)) (h5 : 0 ≤ a3) (h6 : a3 ≤ 1000) : Fc Try.prog (fnv 160) [va0, .int .i64 a1, .int .i64 a2, .pointer (some ⟨ba3, 0, none⟩)] H [Ca0, [(ba3, .cells #[.int .i64 a3] 3)]] (fun v' H' L' => ∃ Da0, v' = .tuple #[.int .i64 (slices_order2Ordered_Id_m a0 a1 a2 a3).1, .int .i64 (slices_order2Ordered_Id_m a0 a1 a2 a3).2.1] ∧ L' = [Da0, [(ba3, .cells #[.int .i64 (slices_order2Ordered_Id_m a0 a1 a2 a3).2.2.2] 3)]] ∧ OwnS (intE .u64) 26 H' va0 (slices_order2Ordered_Id_m a0 a1 a2 a3).2.2.1 Da0) := by
  refine Fc.of_body (N := 28) Try.func160 rfl (by kernel_rfl) rfl rfl ?_
  intro w0
  obtain ⟨Aa0, pa0, rfl, ma0, na0⟩ := OwnS.shape ha0
  refine T.seq ?_
  refine T.region ?_
  refine R.asE rfl (by conv => lhs; whnf) ?_
  refine R.asE rfl (by conv => lhs; whnf) ?_
  refine TL.nil (Post.thnN ?_)
  refine T.seq ?_
  refine T.seq ?_
  refine T.cutK (ι := Bool) (fun b18c1 H' L' ds' => Has L' [Ca0, [(ba3, .cells #[.int .i64 a3] 3)]] ∧ ((cmp_Less_Id_m (a0.getD a2.toNat (0 : Int)) (a0.getD a1.toNat (0 : Int))) : Bool) = b18c1) (fun b18c1 => [(1, .int .i64 a1), (2, .int .i64 a2), (3, .pointer (some ⟨ba3, 0, none⟩)), (18, .bool (b18c1))]) ?_ ?_
  · refine T.draw Try_mixed (by kernel_rfl) ?_
    refine Plan.v 0 [1, 2, 3, 4, 5, 6, 7, 8] (by kernel_rfl) (by kernel_rfl) (by kernel_rfl) (by kernel_rfl) rfl (fun _ _ h_ => R.mvE rfl (by conv => lhs; whnf) (TL.nil h_)) ?_
    refine Plan.v 1 [2, 3, 4, 5, 6, 7, 8] (by kernel_rfl) (by kernel_rfl) (by kernel_rfl) (by kernel_rfl) rfl (fun _ _ h_ => R.mvE rfl (by conv => lhs; whnf) (TL.nil h_)) ?_
    have hl12 : a2.toNat < a0.length := by first | omega | (simp; done) | (simp; omega) | (simp at *; omega)
    obtain ⟨y12, e12, h12⟩ : ∃ y, y = (a0.getD a2.toNat (0 : Int)) ∧ a0[a2.toNat]? = some y := ⟨_, rfl, getD_get (by first | exact hl12 | simpa using hl12 | (simp only [List.length_set]; omega) | omega | (rw [(sortI_perm _).length_eq]; exact hl12))⟩
    obtain ⟨b12, u12, cs12, l12, f12, j12, i12, g12, k12⟩ := OwnS.elem ha0 h12
    obtain rfl : l12 = [.int .u64 y12] := g12
    refine Plan.v 2 [3, 4, 5, 6, 7, 8] (by kernel_rfl) (by kernel_rfl) (by kernel_rfl) (by kernel_rfl) rfl (fun _ _ h_ => R.ixp (sz := ((intE .u64)).size) Try.underlying22 Try.sizeOf26 rfl rfl rfl (by first | omega | (simp; done) | (simp; omega) | (simp at *; omega)) i12 (TL.nil h_)) ?_
    refine Plan.v 4 [3, 5, 6, 7, 8] (by kernel_rfl) (by kernel_rfl) (by kernel_rfl) (by kernel_rfl) rfl (fun _ _ h_ => R.mvE rfl (by conv => lhs; whnf) (TL.nil h_)) ?_
    refine Plan.v 5 [3, 6, 7, 8] (by kernel_rfl) (by kernel_rfl) (by kernel_rfl) (by kernel_rfl) rfl (fun _ _ h_ => R.mvE rfl (by conv => lhs; whnf) (TL.nil h_)) ?_
    have hl16 : a1.toNat < a0.length := by first | omega | (simp; done) | (simp; omega) | (simp at *; omega)
    obtain ⟨y16, e16, h16⟩ : ∃ y, y = (a0.getD a1.toNat (0 : Int)) ∧ a0[a1.toNat]? = some y := ⟨_, rfl, getD_get (by first | exact hl16 | simpa using hl16 | (simp only [List.length_set]; omega) | omega | (rw [(sortI_perm _).length_eq]; exact hl16))⟩
    obtain ⟨b16, u16, cs16, l16, f16, j16, i16, g16, k16⟩ := OwnS.elem ha0 h16
    obtain rfl : l16 = [.int .u64 y16] := g16
    refine Plan.v 6 [3, 7, 8] (by kernel_rfl) (by kernel_rfl) (by kernel_rfl) (by kernel_rfl) rfl (fun _ _ h_ => R.ixp (sz := ((intE .u64)).size) Try.underlying22 Try.sizeOf26 rfl rfl rfl (by first | omega | (simp; done) | (simp; omega) | (simp at *; omega)) i16 (TL.nil h_)) ?_
    refine Plan.s2 3 7 [7, 8] [3, 8] (by kernel_rfl) (by kernel_rfl) (by kernel_rfl) rfl rfl ?_ ?_
    · refine R.ld Try.isAgg26 rfl rfl (by rw [← f12]; exact .hd) (k12 0 _ rfl) ?_
      refine TL.nil (Plan.e1 (HLe.refl _) ?_)
      refine Plan.s1 7 [8] (by kernel_rfl) (by kernel_rfl) rfl ?_
      refine R.ld Try.isAgg26 rfl rfl (by rw [← f16]; exact .hd) (k16 0 _ rfl) ?_
      refine TL.nil (Plan.e1 (HLe.refl _) ?_)
      refine Plan.v 8 [] (by kernel_rfl) (by kernel_rfl) (by kernel_rfl) (by kernel_rfl) rfl (fun _ _ h_ => R.callv rfl rfl rfl (cmp_Less_Id_c _ (y12) (y16)) (TL.nil h_)) ?_
      refine Plan.done (Post.thnN ?_)
      exact ⟨(cmp_Less_Id_m y12 y16), HLe.refl _, ⟨(Has.cons .hd (Has.cons .hd Has.nil)), (by subst e16; subst e12; rfl)⟩, rfl, rfl, rfl, rfl, trivial⟩
    refine R.ld Try.isAgg26 rfl rfl (by rw [← f16]; exact .hd) (k16 0 _ rfl) ?_
    refine TL.nil (Plan.e1 (HLe.refl _) ?_)
    refine Plan.s1 3 [8] (by kernel_rfl) (by kernel_rfl) rfl ?_
    refine R.ld Try.isAgg26 rfl rfl (by rw [← f12]; exact .hd) (k12 0 _ rfl) ?_
    refine TL.nil (Plan.e1 (HLe.refl _) ?_)
    refine Plan.v 8 [] (by kernel_rfl) (by kernel_rfl) (by kernel_rfl) (by kernel_rfl) rfl (fun _ _ h_ => R.callv rfl rfl rfl (cmp_Less_Id_c _ (y12) (y16)) (TL.nil h_)) ?_
    refine Plan.done (Post.thnN ?_)
    exact ⟨(cmp_Less_Id_m y12 y16), HLe.refl _, ⟨(Has.cons .hd (Has.cons .hd Has.nil)), (by subst e16; subst e12; rfl)⟩, rfl, rfl, rfl, rfl, trivial⟩
  intro b18c1 σ_c1 H_c1 L_c1 ds_c1 s_c1 hI_c1
  obtain ⟨hLc1, hTc1⟩ := hI_c1
  refine T.has hLc1 ?_
  refine T.cond rfl (fun c18 => ?_) (fun c18 => ?_)
  · refine T.set 18 (.bool true) (congrArg Value.bool c18) ?_
    have hZ18 := hTc1.trans c18
    try simp only [or_f, or_t, and_f, and_t, decide_eq_true_eq, decide_eq_false_iff_not, Bool.not_eq_true'] at hZ18
    refine T.seq ?_
    refine T.region ?_
    refine R.mvE rfl (by conv => lhs; whnf) ?_
    refine R.nilck rfl rfl ?_
    refine R.ld Try.isAgg3 rfl rfl (.tl .hd) rfl ?_
    refine R.addI rfl rfl rfl (by omega) ?_
    refine R.nilck rfl rfl ?_
    refine R.stX (old := [.int .i64 a3]) (l := [.int .i64 (a3 + 1)]) (new := [.int .i64 (a3 + 1)]) (et := 3) Try.sizeOf3 rfl rfl rfl (cells1 rfl) rfl (by show 0 + 1 ≤ 1; decide) rfl (all_one rfl) (.tl .hd) ?_
    refine TL.nil (Post.thnN ?_)
    refine T.seq ?_
    refine T.region ?_
    refine R.mvE rfl (by conv => lhs; whnf) ?_
    refine R.mvE rfl (by conv => lhs; whnf) ?_
    refine R.asE rfl (by conv => lhs; whnf) ?_
    refine R.asE rfl (by conv => lhs; whnf) ?_
    refine TL.nil (Post.thnN ?_)
    refine T.has (Has.cons .hd (Has.cons .hd Has.nil)) ?_
    refine T.ret (Post.thnR ?_)
    have hM : slices_order2Ordered_Id_m a0 a1 a2 a3 = (a2, a1, a0, (a3 + 1)) := by rw [slices_order2Ordered_Id_m, hTc1, LR.seq_go, if_t c18]
    exact fin2L (v := .int .i64 a2) (v' := .int .i64 a1) [Ca0, [(ba3, .cells #[.int .i64 (a3 + 1)] 3)]] rfl rfl rfl (List.Sublist.refl _) ⟨Ca0, by first | rw [hM] | rfl, by first | rw [hM] | rfl, by rw [hM]; exact (OwnS.mono ha0 s_c1)⟩
  refine T.set 18 (.bool false) (congrArg Value.bool c18) ?_
  have hZ18 := hTc1.trans c18
  try simp only [or_f, or_t, and_f, and_t, decide_eq_true_eq, decide_eq_false_iff_not, Bool.not_eq_true'] at hZ18
  refine T.skip (Post.thnN ?_)
  refine T.seq ?_
  refine T.region ?_
  refine R.mvE rfl (by conv => lhs; whnf) ?_
  refine R.mvE rfl (by conv => lhs; whnf) ?_
  refine R.asE rfl (by conv => lhs; whnf) ?_
  refine R.asE rfl (by conv => lhs; whnf) ?_
  refine TL.nil (Post.thnN ?_)
  refine T.has (Has.cons .hd (Has.cons .hd Has.nil)) ?_
  refine T.ret ?_
  have hM : slices_order2Ordered_Id_m a0 a1 a2 a3 = (a1, a2, a0, a3) := by rw [slices_order2Ordered_Id_m, hTc1, LR.seq_go, if_f c18]
  exact fin2L (v := .int .i64 a1) (v' := .int .i64 a2) [Ca0, [(ba3, .cells #[.int .i64 a3] 3)]] rfl rfl rfl (List.Sublist.refl _) ⟨Ca0, by first | rw [hM] | rfl, by first | rw [hM] | rfl, by rw [hM]; exact (OwnS.mono ha0 s_c1)⟩
theorem order2_f (a0 : List Int) (a1 a2 a3 : Int) (r : Int × Int × (List Int) × Int) (e : r = slices_order2Ordered_Id_m a0 a1 a2 a3) : ((r.1 = a1 ∧ r.2.1 = a2) ∨ (r.1 = a2 ∧ r.2.1 = a1)) ∧ r.2.2.1 = a0 ∧ a3 ≤ r.2.2.2 ∧ r.2.2.2 ≤ a3 + 1 := by
  subst e
  unfold slices_order2Ordered_Id_m
  rw [LR.seq_go]
  split
  · exact ⟨.inr ⟨rfl, rfl⟩, rfl, by show a3 ≤ a3 + 1; omega, Int.le_refl _⟩
  · exact ⟨.inl ⟨rfl, rfl⟩, rfl, Int.le_refl _, by show a3 ≤ a3 + 1; omega⟩
def slices_medianOrdered_Id_m (a0 : List Int) (a1 : Int) (a2 : Int) (a3 : Int) (a4 : Int) : Int × (List Int) × Int :=
  LR.seq (slices_order2Ordered_Id_m a0 a1 a2 a4) (fun r16 => LR.seq (slices_order2Ordered_Id_m r16.2.2.1 r16.2.1 a3 r16.2.2.2) (fun r24 => LR.seq (slices_order2Ordered_Id_m r24.2.2.1 r16.1 r24.1 r24.2.2.2) (fun r32 => (r32.2.1, r32.2.2.1, r32.2.2.2))))
set_option maxHeartbeats 3200000 in
theorem slices_medianOrdered_Id_c (H : Heap) (va0 : Value) (a0 : List Int) (Ca0 : Chunk) (ha0 : OwnS (intE .u64) 26 H va0 a0 Ca0) (a1 : Int) (a2 : Int) (a3 : Int) (ba4 : Nat) (a4 : Int) (h1 : 0 ≤ a1) (h2 : a1 < (a0.length : Int)) (h3 : 0 ≤ a2) (h4 : a2 < (a0.length : Int)) (h7 : 0 ≤ a3) (h8 : a3 < (a0.length : Int)) (h5 : 0 ≤ a4) (h6 : a4 ≤ 900) : Fc Try.prog (fnv 154) [va0, .int .i64 a1, .int .i64 a2, .int .i64 a3, .pointer (some ⟨ba4, 0, none⟩)] H [Ca0, [(ba4, .cells #[.int .i64 a4] 3)]] (fun v' H' L' => ∃ Da0, v' = .int .i64 (slices_medianOrdered_Id_m a0 a1 a2 a3 a4).1 ∧ L' = [Da0, [(ba4, .cells #[.int .i64 (slices_medianOrdered_Id_m a0 a1 a2 a3 a4).2.2] 3)]] ∧ OwnS (intE .u64) 26 H' va0 (slices_medianOrdered_Id_m a0 a1 a2 a3 a4).2.1 Da0) := by
  refine Fc.of_body (N := 36) Try.func154 rfl (by kernel_rfl) rfl rfl ?_
  intro w0
  obtain ⟨Aa0, pa0, rfl, ma0, na0⟩ := OwnS.shape ha0
  refine T.seq ?_
  refine T.region ?_
  refine R.asE rfl (by conv => lhs; whnf) ?_
  refine TL.nil (Post.thnN ?_)
  refine T.seq ?_
  refine T.region ?_
  refine R.mvE rfl (by conv => lhs; whnf) ?_
  refine R.mvE rfl (by conv => lhs; whnf) ?_
  refine R.mvE rfl (by conv => lhs; whnf) ?_
  refine R.mvE rfl (by conv => lhs; whnf) ?_
  obtain ⟨r16, er16⟩ : ∃ r, r = (slices_order2Ordered_Id_m a0 a1 a2 a4) := ⟨_, rfl⟩
  refine TL.call [true, true] rfl rfl rfl (slices_order2Ordered_Id_c _ _ a0 _ ha0 (a1) (a2) _ a4 (by first | omega | (simp; done) | (simp; omega) | (simp at *; omega)) (by first | omega | (simp; done) | (simp; omega) | (simp at *; omega)) (by first | omega | (simp; done) | (simp; omega) | (simp at *; omega)) (by first | omega | (simp; done) | (simp; omega) | (simp at *; omega)) (by first | omega | (simp; done) | (simp; omega) | (simp at *; omega)) (by first | omega | (simp; done) | (simp; omega) | (simp at *; omega))) ?_
  intro v16 H16 L16 s16 q16
  rw [← er16] at q16
  obtain ⟨D16_a0, rfl, rfl, w16_a0⟩ := q16
  have n16_a0_ := OwnS.len w16_a0
  have tf16 := order2_f _ _ _ _ _ er16
  refine R.mvE rfl (by conv => lhs; whnf) ?_
  refine R.ext rfl rfl rfl ?_
  refine R.ext rfl rfl rfl ?_
  refine R.asE rfl (by conv => lhs; whnf) ?_
  refine R.asE rfl (by conv => lhs; whnf) ?_
  refine TL.nil (Post.thnN ?_)
  refine T.seq ?_
  refine T.region ?_
  refine R.mvE rfl (by conv => lhs; whnf) ?_
  refine R.mvE rfl (by conv => lhs; whnf) ?_
  refine R.mvE rfl (by conv => lhs; whnf) ?_
  refine R.mvE rfl (by conv => lhs; whnf) ?_
  obtain ⟨r24, er24⟩ : ∃ r, r = (slices_order2Ordered_Id_m r16.2.2.1 r16.2.1 a3 r16.2.2.2) := ⟨_, rfl⟩
  refine TL.call [true, true] rfl rfl rfl (slices_order2Ordered_Id_c _ _ r16.2.2.1 _ w16_a0 (r16.2.1) (a3) _ r16.2.2.2 (by first | omega | (simp; done) | (simp; omega) | (simp at *; omega)) (by first | omega | (simp; done) | (simp; omega) | (simp at *; omega)) (by first | omega | (simp; done) | (simp; omega) | (simp at *; omega)) (by first | omega | (simp; done) | (simp; omega) | (simp at *; omega)) (by first | omega | (simp; done) | (simp; omega) | (simp at *; omega)) (by first | omega | (simp; done) | (simp; omega) | (simp at *; omega))) ?_
  intro v24 H24 L24 s24 q24
  rw [← er24] at q24
  obtain ⟨D24_a0, rfl, rfl, w24_a0⟩ := q24
  have n24_a0_ := OwnS.len w24_a0
  have tf24 := order2_f _ _ _ _ _ er24
  refine R.mvE rfl (by conv => lhs; whnf) ?_
  refine R.ext rfl rfl rfl ?_
  refine R.ext rfl rfl rfl ?_
  refine R.asE rfl (by conv => lhs; whnf) ?_
  refine R.asE rfl (by conv => lhs; whnf) ?_
  refine TL.nil (Post.thnN ?_)
  refine T.seq ?_
  refine T.region ?_
  refine R.mvE rfl (by conv => lhs; whnf) ?_
  refine R.mvE rfl (by conv => lhs; whnf) ?_
  refine R.mvE rfl (by conv => lhs; whnf) ?_
  refine R.mvE rfl (by conv => lhs; whnf) ?_
  obtain ⟨r32, er32⟩ : ∃ r, r = (slices_order2Ordered_Id_m r24.2.2.1 r16.1 r24.1 r24.2.2.2) := ⟨_, rfl⟩
  refine TL.call [true, true] rfl rfl rfl (slices_order2Ordered_Id_c _ _ r24.2.2.1 _ w24_a0 (r16.1) (r24.1) _ r24.2.2.2 (by first | omega | (simp; done) | (simp; omega) | (simp at *; omega)) (by first | omega | (simp; done) | (simp; omega) | (simp at *; omega)) (by first | omega | (simp; done) | (simp; omega) | (simp at *; omega)) (by first | omega | (simp; done) | (simp; omega) | (simp at *; omega)) (by first | omega | (simp; done) | (simp; omega) | (simp at *; omega)) (by first | omega | (simp; done) | (simp; omega) | (simp at *; omega))) ?_
  intro v32 H32 L32 s32 q32
  rw [← er32] at q32
  obtain ⟨D32_a0, rfl, rfl, w32_a0⟩ := q32
  have n32_a0_ := OwnS.len w32_a0
  have tf32 := order2_f _ _ _ _ _ er32
  refine R.mvE rfl (by conv => lhs; whnf) ?_
  refine R.ext rfl rfl rfl ?_
  refine R.ext rfl rfl rfl ?_
  refine R.asE rfl (by conv => lhs; whnf) ?_
  refine R.asE rfl (by conv => lhs; whnf) ?_
  refine TL.nil (Post.thnN ?_)
  refine T.seq ?_
  refine T.region ?_
  refine R.mvE rfl (by conv => lhs; whnf) ?_
  refine R.asE rfl (by conv => lhs; whnf) ?_
  refine TL.nil (Post.thnN ?_)
  refine T.has (Has.cons .hd (Has.cons .hd Has.nil)) ?_
  refine T.ret ?_
  have hM : slices_medianOrdered_Id_m a0 a1 a2 a3 a4 = (r32.2.1, r32.2.2.1, r32.2.2.2) := by subst er32; subst er24; subst er16; rw [slices_medianOrdered_Id_m, LR.seq_go, LR.seq_go, LR.seq_go]
  exact fin1L (v := .int .i64 (r32.2.1)) [D32_a0, [(ba4, .cells #[.int .i64 (r32.2.2.2)] 3)]] rfl rfl (List.Sublist.refl _) ⟨D32_a0, by first | rw [hM] | rfl, by first | rw [hM] | rfl, by rw [hM]; exact w32_a0⟩
theorem median_f (a0 : List Int) (a1 a2 a3 a4 : Int) (r : Int × (List Int) × Int) (e : r = slices_medianOrdered_Id_m a0 a1 a2 a3 a4) : (r.1 = a1 ∨ r.1 = a2 ∨ r.1 = a3) ∧ r.2.1 = a0 ∧ a4 ≤ r.2.2 ∧ r.2.2 ≤ a4 + 3 := by
  subst e
  unfold slices_medianOrdered_Id_m
  simp only [LR.seq_go]
  have k1 := order2_f a0 a1 a2 a4 _ rfl
  generalize slices_order2Ordered_Id_m a0 a1 a2 a4 = q1 at *
  have k2 := order2_f q1.2.2.1 q1.2.1 a3 q1.2.2.2 _ rfl
  generalize slices_order2Ordered_Id_m q1.2.2.1 q1.2.1 a3 q1.2.2.2 = q2 at *
  have k3 := order2_f q2.2.2.1 q1.1 q2.1 q2.2.2.2 _ rfl
  generalize slices_order2Ordered_Id_m q2.2.2.1 q1.1 q2.1 q2.2.2.2 = q3 at *
  refine ⟨?_, by rw [k3.2.1, k2.2.1, k1.2.1], ?_, ?_⟩ <;> omega
def slices_medianAdjacentOrdered_Id_m (a0 : List Int) (a1 : Int) (a2 : Int) : Int × (List Int) × Int :=
  LR.seq (slices_medianOrdered_Id_m a0 ((a1 - 1)) a1 ((a1 + 1)) a2) (fun r14 => (r14.1, r14.2.1, r14.2.2))
set_option maxHeartbeats 3200000 in
theorem slices_medianAdjacentOrdered_Id_c (H : Heap) (va0 : Value) (a0 : List Int) (Ca0 : Chunk) (ha0 : OwnS (intE .u64) 26 H va0 a0 Ca0) (a1 : Int) (ba2 : Nat) (a2 : Int) (h1 : 1 ≤ a1) (h2 : a1 + 1 < (a0.length : Int)) (h5 : 0 ≤ a2) (h6 : a2 ≤ 900) : Fc Try.prog (fnv 153) [va0, .int .i64 a1, .pointer (some ⟨ba2, 0, none⟩)] H [Ca0, [(ba2, .cells #[.int .i64 a2] 3)]] (fun v' H' L' => ∃ Da0, v' = .int .i64 (slices_medianAdjacentOrdered_Id_m a0 a1 a2).1 ∧ L' = [Da0, [(ba2, .cells #[.int .i64 (slices_medianAdjacentOrdered_Id_m a0 a1 a2).2.2] 3)]] ∧ OwnS (intE .u64) 26 H' va0 (slices_medianAdjacentOrdered_Id_m a0 a1 a2).2.1 Da0) := by
  refine Fc.of_body (N := 15) Try.func153 rfl (by kernel_rfl) rfl rfl ?_
  intro w0
  obtain ⟨Aa0, pa0, rfl, ma0, na0⟩ := OwnS.shape ha0
  refine T.seq ?_
  refine T.region ?_
  refine R.asE rfl (by conv => lhs; whnf) ?_
  refine TL.nil (Post.thnN ?_)
  refine T.seq ?_
  refine T.region ?_
  refine R.mvE rfl (by conv => lhs; whnf) ?_
  refine R.mvE rfl (by conv => lhs; whnf) ?_
  refine R.subI rfl rfl rfl (by omega) ?_
  refine R.mvE rfl (by conv => lhs; whnf) ?_
  refine R.mvE rfl (by conv => lhs; whnf) ?_
  refine R.addI rfl rfl rfl (by omega) ?_
  refine R.mvE rfl (by conv => lhs; whnf) ?_
  obtain ⟨r14, er14⟩ : ∃ r, r = (slices_medianOrdered_Id_m a0 ((a1 - 1)) a1 ((a1 + 1)) a2) := ⟨_, rfl⟩
  refine TL.call [true, true] rfl rfl rfl (slices_medianOrdered_Id_c _ _ a0 _ ha0 ((a1 - 1)) (a1) ((a1 + 1)) _ a2 (by first | omega | (simp; done) | (simp; omega) | (simp at *; omega)) (by first | omega | (simp; done) | (simp; omega) | (simp at *; omega)) (by first | omega | (simp; done) | (simp; omega) | (simp at *; omega)) (by first | omega | (simp; done) | (simp; omega) | (simp at *; omega)) (by first | omega | (simp; done) | (simp; omega) | (simp at *; omega)) (by first | omega | (simp; done) | (simp; omega) | (simp at *; omega)) (by first | omega | (simp; done) | (simp; omega) | (simp at *; omega)) (by first | omega | (simp; done) | (simp; omega) | (simp at *; omega))) ?_
  intro v14 H14 L14 s14 q14
  rw [← er14] at q14
  obtain ⟨D14_a0, rfl, rfl, w14_a0⟩ := q14
  have n14_a0_ := OwnS.len w14_a0
  have tf14 := median_f _ _ _ _ _ _ er14
  refine R.asE rfl (by conv => lhs; whnf) ?_
  refine TL.nil (Post.thnN ?_)
  refine T.has (Has.cons .hd (Has.cons .hd Has.nil)) ?_
  refine T.ret ?_
  have hM : slices_medianAdjacentOrdered_Id_m a0 a1 a2 = (r14.1, r14.2.1, r14.2.2) := by subst er14; rw [slices_medianAdjacentOrdered_Id_m, LR.seq_go]
  exact fin1L (v := .int .i64 (r14.1)) [D14_a0, [(ba2, .cells #[.int .i64 (r14.2.2)] 3)]] rfl rfl (List.Sublist.refl _) ⟨D14_a0, by first | rw [hM] | rfl, by first | rw [hM] | rfl, by rw [hM]; exact w14_a0⟩
theorem medianAdj_f (a0 : List Int) (a1 a2 : Int) (r : Int × (List Int) × Int) (e : r = slices_medianAdjacentOrdered_Id_m a0 a1 a2) : (r.1 = a1 - 1 ∨ r.1 = a1 ∨ r.1 = a1 + 1) ∧ r.2.1 = a0 ∧ a2 ≤ r.2.2 ∧ r.2.2 ≤ a2 + 3 := by
  subst e
  unfold slices_medianAdjacentOrdered_Id_m
  simp only [LR.seq_go]
  exact median_f a0 (a1 - 1) a1 (a1 + 1) a2 _ rfl
def slices_choosePivotOrdered_Id_m (a0 : List Int) (a1 : Int) (a2 : Int) : Int × Int × (List Int) :=
  LR.seq (if (8 : Int) ≤ (a2 - a1) then (LR.seq (if (50 : Int) ≤ (a2 - a1) then (LR.seq (slices_medianAdjacentOrdered_Id_m a0 ((a1 + (((a2 - a1) / 4) * 1))) 0) (fun r37 => LR.seq (slices_medianAdjacentOrdered_Id_m r37.2.1 ((a1 + (((a2 - a1) / 4) * 2))) r37.2.2) (fun r40 => LR.seq (slices_medianAdjacentOrdered_Id_m r40.2.1 ((a1 + (((a2 - a1) / 4) * 3))) r40.2.2) (fun r43 => (r37.1, r40.1, r43.1, r43.2.2, r43.2.1))))) else (((a1 + (((a2 - a1) / 4) * 1)), (a1 + (((a2 - a1) / 4) * 2)), (a1 + (((a2 - a1) / 4) * 3)), 0, a0)) : Int × Int × Int × Int × (List Int)) (fun sc2 => LR.seq (slices_medianOrdered_Id_m sc2.2.2.2.2 sc2.1 sc2.2.1 sc2.2.2.1 sc2.2.2.2.1) (fun r48 => (r48.1, r48.2.2, r48.2.1)))) else (((a1 + (((a2 - a1) / 4) * 2)), 0, a0)) : Int × Int × (List Int)) (fun sc1 => if sc1.2.1 = 0 then ((sc1.1, 1, sc1.2.2)) else (if sc1.2.1 = 12 then ((sc1.1, 2, sc1.2.2)) else ((sc1.1, 0, sc1.2.2))))
set_option maxHeartbeats 3200000 in
theorem slices_choosePivotOrdered_Id_c (H : Heap) (va0 : Value) (a0 : List Int) (Ca0 : Chunk) (ha0 : OwnS (intE .u64) 26 H va0 a0 Ca0) (a1 : Int) (a2 : Int) (h1 : 0 ≤ a1) (h2 : a1 + 12 < a2) (h3 : a2 ≤ (a0.length : Int)) (hl : a0.length ≤ 4000000) : Fc Try.prog (fnv 113) [va0, .int .i64 a1, .int .i64 a2] H [Ca0] (fun v' H' L' => ∃ Da0, v' = .tuple #[.int .i64 (slices_choosePivotOrdered_Id_m a0 a1 a2).1, .int .i64 (slices_choosePivotOrdered_Id_m a0 a1 a2).2.1] ∧ L' = [Da0] ∧ OwnS (intE .u64) 26 H' va0 (slices_choosePivotOrdered_Id_m a0 a1 a2).2.2 Da0) := by
  refine Fc.of_body (N := 57) Try.func113 rfl (by kernel_rfl) rfl rfl ?_
  intro w0
  obtain ⟨Aa0, pa0, rfl, ma0, na0⟩ := OwnS.shape ha0
  refine T.seq ?_
  refine T.region ?_
  refine R.asE rfl (by conv => lhs; whnf) ?_
  refine R.asE rfl (by conv => lhs; whnf) ?_
  refine TL.nil (Post.thnN ?_)
  refine T.seq ?_
  refine T.region ?_
  refine R.mvE rfl (by conv => lhs; whnf) ?_
  refine R.mvE rfl (by conv => lhs; whnf) ?_
  refine R.subI rfl rfl rfl (by omega) ?_
  refine R.asE rfl (by conv => lhs; whnf) ?_
  refine TL.nil (Post.thnN ?_)
  refine T.seq ?_
  refine T.region ?_
  refine R.alloc Try.zeroValue3 rfl ?_
  intro b9
  refine TL.nil (Post.thnN ?_)
  refine T.seq ?_
  refine T.region ?_
  refine R.mvE rfl (by conv => lhs; whnf) ?_
  refine R.mvE rfl (by conv => lhs; whnf) ?_
  refine R.quoI rfl rfl rfl (by omega) ?_
  refine R.mulI rfl rfl rfl (by omega) ?_
  refine R.addI rfl rfl rfl (by omega) ?_
  refine R.asE rfl (by conv => lhs; whnf) ?_
  refine TL.nil (Post.thnN ?_)
  refine T.seq ?_
  refine T.region ?_
  refine R.mvE rfl (by conv => lhs; whnf) ?_
  refine R.mvE rfl (by conv => lhs; whnf) ?_
  refine R.quoI rfl rfl rfl (by omega) ?_
  refine R.mulI rfl rfl rfl (by omega) ?_
  refine R.addI rfl rfl rfl (by omega) ?_
  refine R.asE rfl (by conv => lhs; whnf) ?_
  refine TL.nil (Post.thnN ?_)
  refine T.seq ?_
  refine T.region ?_
  refine R.mvE rfl (by conv => lhs; whnf) ?_
  refine R.mvE rfl (by conv => lhs; whnf) ?_
  refine R.quoI rfl rfl rfl (by omega) ?_
  refine R.mulI rfl rfl rfl (by omega) ?_
  refine R.addI rfl rfl rfl (by omega) ?_
  refine R.asE rfl (by conv => lhs; whnf) ?_
  refine TL.nil (Post.thnN ?_)
  refine T.seq ?_
  refine T.seq ?_
  refine T.region ?_
  refine R.mvE rfl (by conv => lhs; whnf) ?_
  refine R.geq rfl rfl rfl ?_
  refine TL.nil (Post.thnN ?_)
  refine T.cutK (ι := Int × Int × (List Int) × Chunk) (fun ⟨n11c1, nb9c1_0, xPa0c1, cPa0c1⟩ H' L' ds' => Has L' [[(b9, .cells #[.int .i64 nb9c1_0] 3)], cPa0c1] ∧ OwnS (intE .u64) 26 H' (.slice Aa0 a0.length pa0) xPa0c1 cPa0c1 ∧ (if (8 : Int) ≤ (a2 - a1) then (LR.seq (if (50 : Int) ≤ (a2 - a1) then (LR.seq (slices_medianAdjacentOrdered_Id_m a0 ((a1 + (((a2 - a1) / 4) * 1))) 0) (fun r37 => LR.seq (slices_medianAdjacentOrdered_Id_m r37.2.1 ((a1 + (((a2 - a1) / 4) * 2))) r37.2.2) (fun r40 => LR.seq (slices_medianAdjacentOrdered_Id_m r40.2.1 ((a1 + (((a2 - a1) / 4) * 3))) r40.2.2) (fun r43 => (r37.1, r40.1, r43.1, r43.2.2, r43.2.1))))) else (((a1 + (((a2 - a1) / 4) * 1)), (a1 + (((a2 - a1) / 4) * 2)), (a1 + (((a2 - a1) / 4) * 3)), 0, a0)) : Int × Int × Int × Int × (List Int)) (fun sc2 => LR.seq (slices_medianOrdered_Id_m sc2.2.2.2.2 sc2.1 sc2.2.1 sc2.2.2.1 sc2.2.2.2.1) (fun r48 => (r48.1, r48.2.2, r48.2.1)))) else (((a1 + (((a2 - a1) / 4) * 2)), 0, a0)) : Int × Int × (List Int)) = (n11c1, nb9c1_0, xPa0c1)) (fun ⟨n11c1, nb9c1_0, xPa0c1, cPa0c1⟩ => [(9, .pointer (some ⟨b9, 0, none⟩)), (11, .int .i64 n11c1)]) ?_ ?_
  · refine T.condD rfl (fun c32 => ?_) (fun c32 => ?_)
    · refine T.set 32 (.bool true) (congrArg Value.bool (decide_eq_true c32)) ?_
      refine T.seq ?_
      refine T.seq ?_
      refine T.region ?_
      refine R.mvE rfl (by conv => lhs; whnf) ?_
      refine R.geq rfl rfl rfl ?_
      refine TL.nil (Post.thnN ?_)
      refine T.cutK (ι := Int × Int × Int × Int × (List Int) × Chunk) (fun ⟨n10c2, n11c2, n12c2, nb9c2_0, xPa0c2, cPa0c2⟩ H' L' ds' => Has L' [[(b9, .cells #[.int .i64 nb9c2_0] 3)], cPa0c2] ∧ OwnS (intE .u64) 26 H' (.slice Aa0 a0.length pa0) xPa0c2 cPa0c2 ∧ a1 ≤ n10c2 ∧ n10c2 < a2 ∧ a1 ≤ n11c2 ∧ n11c2 < a2 ∧ a1 ≤ n12c2 ∧ n12c2 < a2 ∧ 0 ≤ nb9c2_0 ∧ nb9c2_0 ≤ 9 ∧ (if (50 : Int) ≤ (a2 - a1) then (LR.seq (slices_medianAdjacentOrdered_Id_m a0 ((a1 + (((a2 - a1) / 4) * 1))) 0) (fun r37 => LR.seq (slices_medianAdjacentOrdered_Id_m r37.2.1 ((a1 + (((a2 - a1) / 4) * 2))) r37.2.2) (fun r40 => LR.seq (slices_medianAdjacentOrdered_Id_m r40.2.1 ((a1 + (((a2 - a1) / 4) * 3))) r40.2.2) (fun r43 => (r37.1, r40.1, r43.1, r43.2.2, r43.2.1))))) else (((a1 + (((a2 - a1) / 4) * 1)), (a1 + (((a2 - a1) / 4) * 2)), (a1 + (((a2 - a1) / 4) * 3)), 0, a0)) : Int × Int × Int × Int × (List Int)) = (n10c2, n11c2, n12c2, nb9c2_0, xPa0c2)) (fun ⟨n10c2, n11c2, n12c2, nb9c2_0, xPa0c2, cPa0c2⟩ => [(0, .slice Aa0 a0.length pa0), (9, .pointer (some ⟨b9, 0, none⟩)), (10, .int .i64 n10c2), (11, .int .i64 n11c2), (12, .int .i64 n12c2)]) ?_ ?_
      · refine T.condD rfl (fun c34 => ?_) (fun c34 => ?_)
        · refine T.set 34 (.bool true) (congrArg Value.bool (decide_eq_true c34)) ?_
          refine T.seq ?_
          refine T.region ?_
          refine R.mvE rfl (by conv => lhs; whnf) ?_
          refine R.mvE rfl (by conv => lhs; whnf) ?_
          refine TL.has (Has.cons (.tl .hd) (Has.cons .hd Has.nil)) ?_
          obtain ⟨r37, er37⟩ : ∃ r, r = (slices_medianAdjacentOrdered_Id_m a0 ((a1 + (((a2 - a1) / 4) * 1))) 0) := ⟨_, rfl⟩
          refine TL.call [true, true] rfl rfl rfl (slices_medianAdjacentOrdered_Id_c _ _ a0 _ ha0 ((a1 + (((a2 - a1) / 4) * 1))) _ 0 (by first | omega | (simp; done) | (simp; omega) | (simp at *; omega)) (by first | omega | (simp; done) | (simp; omega) | (simp at *; omega)) (by first | omega | (simp; done) | (simp; omega) | (simp at *; omega)) (by first | omega | (simp; done) | (simp; omega) | (simp at *; omega))) ?_
          intro v37 H37 L37 s37 q37
          rw [← er37] at q37
          obtain ⟨D37_a0, rfl, rfl, w37_a0⟩ := q37
          have n37_a0_ := OwnS.len w37_a0
          have tf37 := medianAdj_f _ _ _ _ er37
          refine R.asE rfl (by conv => lhs; whnf) ?_
          refine TL.nil (Post.thnN ?_)
          refine T.seq ?_
          refine T.region ?_
          refine R.mvE rfl (by conv => lhs; whnf) ?_
          refine R.mvE rfl (by conv => lhs; whnf) ?_
          obtain ⟨r40, er40⟩ : ∃ r, r = (slices_medianAdjacentOrdered_Id_m r37.2.1 ((a1 + (((a2 - a1) / 4) * 2))) r37.2.2) := ⟨_, rfl⟩
          refine TL.call [true, true] rfl rfl rfl (slices_medianAdjacentOrdered_Id_c _ _ r37.2.1 _ w37_a0 ((a1 + (((a2 - a1) / 4) * 2))) _ r37.2.2 (by first | omega | (simp; done) | (simp; omega) | (simp at *; omega)) (by first | omega | (simp; done) | (simp; omega) | (simp at *; omega)) (by first | omega | (simp; done) | (simp; omega) | (simp at *; omega)) (by first | omega | (simp; done) | (simp; omega) | (simp at *; omega))) ?_
          intro v40 H40 L40 s40 q40
          rw [← er40] at q40
          obtain ⟨D40_a0, rfl, rfl, w40_a0⟩ := q40
          have n40_a0_ := OwnS.len w40_a0
          have tf40 := medianAdj_f _ _ _ _ er40
          refine R.asE rfl (by conv => lhs; whnf) ?_
          refine TL.nil (Post.thnN ?_)
          refine T.region ?_
          refine R.mvE rfl (by conv => lhs; whnf) ?_
          refine R.mvE rfl (by conv => lhs; whnf) ?_
          obtain ⟨r43, er43⟩ : ∃ r, r = (slices_medianAdjacentOrdered_Id_m r40.2.1 ((a1 + (((a2 - a1) / 4) * 3))) r40.2.2) := ⟨_, rfl⟩
          refine TL.call [true, true] rfl rfl rfl (slices_medianAdjacentOrdered_Id_c _ _ r40.2.1 _ w40_a0 ((a1 + (((a2 - a1) / 4) * 3))) _ r40.2.2 (by first | omega | (simp; done) | (simp; omega) | (simp at *; omega)) (by first | omega | (simp; done) | (simp; omega) | (simp at *; omega)) (by first | omega | (simp; done) | (simp; omega) | (simp at *; omega)) (by first | omega | (simp; done) | (simp; omega) | (simp at *; omega))) ?_
          intro v43 H43 L43 s43 q43
          rw [← er43] at q43
          obtain ⟨D43_a0, rfl, rfl, w43_a0⟩ := q43
          have n43_a0_ := OwnS.len w43_a0
          have tf43 := medianAdj_f _ _ _ _ er43
          refine R.asE rfl (by conv => lhs; whnf) ?_
          refine TL.nil (Post.thnN ?_)
          exact ⟨(r37.1, r40.1, r43.1, r43.2.2, r43.2.1, D43_a0), (s37.trans (s40.trans s43)), ⟨(Has.cons (.tl .hd) (Has.cons .hd Has.nil)), w43_a0, (by first | omega | (simp; done) | (simp; omega) | (simp at *; omega)), (by first | omega | (simp; done) | (simp; omega) | (simp at *; omega)), (by first | omega | (simp; done) | (simp; omega) | (simp at *; omega)), (by first | omega | (simp; done) | (simp; omega) | (simp at *; omega)), (by first | omega | (simp; done) | (simp; omega) | (simp at *; omega)), (by first | omega | (simp; done) | (simp; omega) | (simp at *; omega)), (by first | omega | (simp; done) | (simp; omega) | (simp at *; omega)), (by first | omega | (simp; done) | (simp; omega) | (simp at *; omega)), (by subst er43; subst er40; subst er37; rw [if_pos c34, LR.seq_go, LR.seq_go, LR.seq_go])⟩, rfl, rfl, rfl, rfl, rfl, trivial⟩
        refine T.set 34 (.bool false) (congrArg Value.bool (decide_eq_false c34)) ?_
        refine T.skip (Post.thnN ?_)
        exact ⟨((a1 + (((a2 - a1) / 4) * 1)), (a1 + (((a2 - a1) / 4) * 2)), (a1 + (((a2 - a1) / 4) * 3)), 0, a0, Ca0), HLe.refl _, ⟨(Has.cons .hd (Has.cons .hd Has.nil)), ha0, (by first | omega | (simp; done) | (simp; omega) | (simp at *; omega)), (by first | omega | (simp; done) | (simp; omega) | (simp at *; omega)), (by first | omega | (simp; done) | (simp; omega) | (simp at *; omega)), (by first | omega | (simp; done) | (simp; omega) | (simp at *; omega)), (by first | omega | (simp; done) | (simp; omega) | (simp at *; omega)), (by first | omega | (simp; done) | (simp; omega) | (simp at *; omega)), (by first | omega | (simp; done) | (simp; omega) | (simp at *; omega)), (by first | omega | (simp; done) | (simp; omega) | (simp at *; omega)), (by rw [if_neg c34])⟩, rfl, rfl, rfl, rfl, rfl, trivial⟩
      intro ⟨n10c2, n11c2, n12c2, nb9c2_0, xPa0c2, cPa0c2⟩ σ_c2 H_c2 L_c2 ds_c2 s_c2 hI_c2
      obtain ⟨hLc2, wPa0c2, hBc2_0, hBc2_1, hBc2_2, hBc2_3, hBc2_4, hBc2_5, hBc2_6, hBc2_7, hTc2⟩ := hI_c2
      have nPa0c2_ := OwnS.len wPa0c2
      refine T.has hLc2 ?_
      refine T.region ?_
      refine R.mvE rfl (by conv => lhs; whnf) ?_
      refine R.mvE rfl (by conv => lhs; whnf) ?_
      refine R.mvE rfl (by conv => lhs; whnf) ?_
      refine R.mvE rfl (by conv => lhs; whnf) ?_
      refine TL.has (Has.cons (.tl .hd) (Has.cons .hd Has.nil)) ?_
      obtain ⟨r48, er48⟩ : ∃ r, r = (slices_medianOrdered_Id_m xPa0c2 n10c2 n11c2 n12c2 nb9c2_0) := ⟨_, rfl⟩
      refine TL.call [true, true] rfl rfl rfl (slices_medianOrdered_Id_c _ _ xPa0c2 _ wPa0c2 (n10c2) (n11c2) (n12c2) _ nb9c2_0 (by first | omega | (simp; done) | (simp; omega) | (simp at *; omega)) (by first | omega | (simp; done) | (simp; omega) | (simp at *; omega)) (by first | omega | (simp; done) | (simp; omega) | (simp at *; omega)) (by first | omega | (simp; done) | (simp; omega) | (simp at *; omega)) (by first | omega | (simp; done) | (simp; omega) | (simp at *; omega)) (by first | omega | (simp; done) | (simp; omega) | (simp at *; omega)) (by first | omega | (simp; done) | (simp; omega) | (simp at *; omega)) (by first | omega | (simp; done) | (simp; omega) | (simp at *; omega))) ?_
      intro v48 H48 L48 s48 q48
      rw [← er48] at q48
      obtain ⟨D48_a0, rfl, rfl, w48_a0⟩ := q48
      have n48_a0_ := OwnS.len w48_a0
      have tf48 := median_f _ _ _ _ _ _ er48
      refine R.asE rfl (by conv => lhs; whnf) ?_
      refine TL.nil (Post.thnN ?_)
      exact ⟨(r48.1, r48.2.2, r48.2.1, D48_a0), (s_c2.trans s48), ⟨(Has.cons (.tl .hd) (Has.cons .hd Has.nil)), w48_a0, (by subst er48; rw [if_pos c32, hTc2, LR.seq_go, LR.seq_go])⟩, rfl, rfl, trivial⟩
    refine T.set 32 (.bool false) (congrArg Value.bool (decide_eq_false c32)) ?_
    refine T.skip (Post.thnN ?_)
    exact ⟨((a1 + (((a2 - a1) / 4) * 2)), 0, a0, Ca0), HLe.refl _, ⟨(Has.cons .hd (Has.cons .hd Has.nil)), ha0, (by rw [if_neg c32])⟩, rfl, rfl, trivial⟩
  intro ⟨n11c1, nb9c1_0, xPa0c1, cPa0c1⟩ σ_c1 H_c1 L_c1 ds_c1 s_c1 hI_c1
  obtain ⟨hLc1, wPa0c1, hTc1⟩ := hI_c1
  have nPa0c1_ := OwnS.len wPa0c1
  refine T.has hLc1 ?_
  refine T.seq ?_
  refine T.region ?_
  refine R.ld Try.isAgg3 rfl rfl .hd rfl ?_
  refine TL.nil (Post.thnN ?_)
  refine T.block ?_
  refine T.seq ?_
  refine T.region ?_
  refine R.eql rfl rfl rfl ?_
  refine R.asE rfl (by conv => lhs; whnf) ?_
  refine TL.nil (Post.thnN ?_)
  refine T.condD rfl (fun c51 => ?_) (fun c51 => ?_)
  · refine T.set 51 (.bool true) (congrArg Value.bool (decide_eq_true c51)) ?_
    refine T.seq ?_
    refine T.region ?_
    refine R.mvE rfl (by conv => lhs; whnf) ?_
    refine R.asE rfl (by conv => lhs; whnf) ?_
    refine R.asE rfl (by conv => lhs; whnf) ?_
    refine TL.nil (Post.thnN ?_)
    refine T.has (Has.cons (.tl .hd) Has.nil) ?_
    refine T.ret (Post.blkR ?_)
    have hM : slices_choosePivotOrdered_Id_m a0 a1 a2 = (n11c1, 1, xPa0c1) := by rw [slices_choosePivotOrdered_Id_m, hTc1, LR.seq_go, if_pos c51]
    exact fin2L (v := .int .i64 n11c1) (v' := .int .i64 1) [cPa0c1] rfl rfl rfl (List.Sublist.refl _) ⟨cPa0c1, by first | rw [hM] | rfl, by first | rw [hM] | rfl, by rw [hM]; exact wPa0c1⟩
  refine T.set 51 (.bool false) (congrArg Value.bool (decide_eq_false c51)) ?_
  refine T.seq ?_
  refine T.region ?_
  refine R.eql rfl rfl rfl ?_
  refine R.asE rfl (by conv => lhs; whnf) ?_
  refine TL.nil (Post.thnN ?_)
  refine T.condD rfl (fun c54 => ?_) (fun c54 => ?_)
  · refine T.set 54 (.bool true) (congrArg Value.bool (decide_eq_true c54)) ?_
    refine T.seq ?_
    refine T.region ?_
    refine R.mvE rfl (by conv => lhs; whnf) ?_
    refine R.asE rfl (by conv => lhs; whnf) ?_
    refine R.asE rfl (by conv => lhs; whnf) ?_
    refine TL.nil (Post.thnN ?_)
    refine T.has (Has.cons (.tl .hd) Has.nil) ?_
    refine T.ret (Post.blkR ?_)
    have hM : slices_choosePivotOrdered_Id_m a0 a1 a2 = (n11c1, 2, xPa0c1) := by rw [slices_choosePivotOrdered_Id_m, hTc1, LR.seq_go, if_neg c51, if_pos c54]
    exact fin2L (v := .int .i64 n11c1) (v' := .int .i64 2) [cPa0c1] rfl rfl rfl (List.Sublist.refl _) ⟨cPa0c1, by first | rw [hM] | rfl, by first | rw [hM] | rfl, by rw [hM]; exact wPa0c1⟩
  refine T.set 54 (.bool false) (congrArg Value.bool (decide_eq_false c54)) ?_
  refine T.seq ?_
  refine T.region ?_
  refine R.mvE rfl (by conv => lhs; whnf) ?_
  refine R.asE rfl (by conv => lhs; whnf) ?_
  refine R.asE rfl (by conv => lhs; whnf) ?_
  refine TL.nil (Post.thnN ?_)
  refine T.has (Has.cons (.tl .hd) Has.nil) ?_
  refine T.ret (Post.blkR ?_)
  have hM : slices_choosePivotOrdered_Id_m a0 a1 a2 = (n11c1, 0, xPa0c1) := by rw [slices_choosePivotOrdered_Id_m, hTc1, LR.seq_go, if_neg c51, if_neg c54]
  exact fin2L (v := .int .i64 n11c1) (v' := .int .i64 0) [cPa0c1] rfl rfl rfl (List.Sublist.refl _) ⟨cPa0c1, by first | rw [hM] | rfl, by first | rw [hM] | rfl, by rw [hM]; exact wPa0c1⟩
theorem choose_f (a0 : List Int) (a1 a2 : Int) (r : Int × Int × (List Int)) (e : r = slices_choosePivotOrdered_Id_m a0 a1 a2) (h : a1 + 12 < a2) : (a1 ≤ r.1 ∧ r.1 < a2) ∧ (r.2.1 = 0 ∨ r.2.1 = 1 ∨ r.2.1 = 2) ∧ r.2.2 = a0 := by
  have key : ∀ (p : Int × Int × (List Int)), (a1 ≤ p.1 ∧ p.1 < a2) ∧ p.2.2 = a0 → r = (if p.2.1 = 0 then ((p.1, 1, p.2.2)) else (if p.2.1 = 12 then ((p.1, 2, p.2.2)) else ((p.1, 0, p.2.2)))) → (a1 ≤ r.1 ∧ r.1 < a2) ∧ (r.2.1 = 0 ∨ r.2.1 = 1 ∨ r.2.1 = 2) ∧ r.2.2 = a0 := by
    rintro p ⟨h1, h2⟩ rfl
    split
    · exact ⟨h1, .inr (.inl rfl), h2⟩
    · split
      · exact ⟨h1, .inr (.inr rfl), h2⟩
      · exact ⟨h1, .inl rfl, h2⟩
  unfold slices_choosePivotOrdered_Id_m at e
  rw [if_pos (show (8 : Int) ≤ a2 - a1 by omega)] at e
  simp only [LR.seq_go] at e
  by_cases h50 : (50 : Int) ≤ a2 - a1
  · rw [if_pos h50] at e
    simp only [LR.seq_go] at e
    have k1 := medianAdj_f a0 (a1 + (a2 - a1) / 4 * 1) 0 _ rfl
    generalize slices_medianAdjacentOrdered_Id_m a0 (a1 + (a2 - a1) / 4 * 1) 0 = q1 at *
    have k2 := medianAdj_f q1.2.1 (a1 + (a2 - a1) / 4 * 2) q1.2.2 _ rfl
    generalize slices_medianAdjacentOrdered_Id_m q1.2.1 (a1 + (a2 - a1) / 4 * 2) q1.2.2 = q2 at *
    have k3 := medianAdj_f q2.2.1 (a1 + (a2 - a1) / 4 * 3) q2.2.2 _ rfl
    generalize slices_medianAdjacentOrdered_Id_m q2.2.1 (a1 + (a2 - a1) / 4 * 3) q2.2.2 = q3 at *
    have k4 := median_f q3.2.1 q1.1 q2.1 q3.1 q3.2.2 _ rfl
    generalize slices_medianOrdered_Id_m q3.2.1 q1.1 q2.1 q3.1 q3.2.2 = q4 at *
    exact key (q4.1, q4.2.2, q4.2.1) ⟨by constructor <;> (simp only; omega), by simp only; rw [k4.2.1, k3.2.1, k2.2.1, k1.2.1]⟩ e
  · rw [if_neg h50] at e
    have k4 := median_f a0 (a1 + (a2 - a1) / 4 * 1) (a1 + (a2 - a1) / 4 * 2) (a1 + (a2 - a1) / 4 * 3) 0 _ rfl
    generalize slices_medianOrdered_Id_m a0 (a1 + (a2 - a1) / 4 * 1) (a1 + (a2 - a1) / 4 * 2) (a1 + (a2 - a1) / 4 * 3) 0 = q4 at *
    exact key (q4.1, q4.2.2, q4.2.1) ⟨by constructor <;> (simp only; omega), by simp only; rw [k4.2.1]⟩ e
end Go.SX

namespace Go.Proofs
open Go.Shelf
def Try.lays125_ren : Go.Shelf.Ren := ⟨fun | 125 => 67 | 128 => 118 | 129 => 119 | n => n, fun | 46 => 88 | 3 => 3 | 51 => 120 | 53 => 25 | 4 => 4 | 5 => 5 | 9 => 9 | n => n, fun | n => n⟩
theorem Try.lays125 : Go.Proofs.Lays.n125 Try.prog Try.lays125_ren := {
  mixed := by kernel_rfl
  f125 := Try.func67.trans (congrArg some (by kernel_rfl))
  f128 := Try.func118.trans (congrArg some (by kernel_rfl))
  f129 := Try.func119.trans (congrArg some (by kernel_rfl))
  t3 := Try.underlying3
  a3 := Try.isAgg3
  z3 := Try.sizeOf3
  v3 := Try.zeroValue3
  t4 := Try.underlying4
  a4 := Try.isAgg4
  z4 := Try.sizeOf4
  v4 := Try.zeroValue4
  t5 := Try.underlying5
  a5 := Try.isAgg5
  z5 := Try.sizeOf5
  v5 := Try.zeroValue5
  t9 := Try.underlying9
  a9 := Try.isAgg9
  z9 := Try.sizeOf9
  v9 := Try.zeroValue9
  t46 := Try.underlying88
  a46 := Try.isAgg88
  z46 := Try.sizeOf88
  v46 := Try.zeroValue88
  t51 := Try.underlying120
  a51 := Try.isAgg120
  z51 := Try.sizeOf120
  v51 := Try.zeroValue120
  t53 := Try.underlying25
  a53 := Try.isAgg25
  z53 := Try.sizeOf25
  v53 := Try.zeroValue25 }
end Go.Proofs

set_option linter.unusedVariables false
set_option linter.unusedSimpArgs false
namespace Go.SX
open Go Go.Proofs

def blen (x : Int) : Int := ((Lib.bitLen x.toNat : Nat) : Int)
theorem blen_nn (x : Int) : 0 ≤ blen x := Int.natCast_nonneg _
theorem blen_c (H : Heap) (a0 : Int) (h0 : 0 ≤ a0) (h1 : a0 ≤ 18446744073709551615) : Fv Try.prog (fnv 67) [.int .u64 a0] H (.int .i64 (blen a0)) := by
  intro w hs
  have he := Go.Proofs.enters_of (P := Try.prog) Try.func67 (by kernel_rfl) rfl #[.int .u64 a0] w
  refine ⟨.enter 67 #[.int .u64 a0], w, by simp [Deferred.ofValue, invoke, he], ?_⟩
  refine CallsIn.mono (callsIn_wide.2 (Go.Proofs.Any.bits_Len Try.lays125 a0 w h0 h1)) ?_
  rintro e' w' ⟨rfl, rfl⟩
  exact ⟨_, H, [], rfl, St.init hs, rfl, rfl⟩
def slices_nextPowerOfTwo_m (a0 : Int) : Int :=
  (bshl .u64 1 (blen a0))
set_option maxHeartbeats 3200000 in
theorem slices_nextPowerOfTwo_c (H : Heap) (a0 : Int) (h0 : 0 ≤ a0) (h1 : a0 ≤ 4000000) : Fv Try.prog (fnv 151) [.int .i64 a0] H (.int .u64 (slices_nextPowerOfTwo_m a0)) := by
  refine Fc.of_body (N := 7) Try.func151 rfl (by kernel_rfl) rfl rfl ?_
  intro w0
  refine T.seq ?_
  refine T.region ?_
  refine R.asE rfl (by conv => lhs; whnf) ?_
  refine TL.nil (Post.thnN ?_)
  refine T.seq ?_
  have hb := blen_nn a0
  refine T.region ?_
  refine R.mvE rfl (by conv => lhs; whnf) ?_
  refine R.convU Try.underlying3 Try.underlying88 rfl rfl (by omega) ?_
  refine R.callv rfl rfl rfl (blen_c _ (a0) (by first | omega | (simp; done) | (simp; omega) | (simp at *; omega)) (by first | omega | (simp; done) | (simp; omega) | (simp at *; omega))) ?_
  refine R.shl rfl rfl rfl (by omega) ?_
  refine R.asE rfl (by conv => lhs; whnf) ?_
  refine TL.nil (Post.thnN ?_)
  refine T.has Has.nil ?_
  refine T.ret ?_
  have hM : slices_nextPowerOfTwo_m a0 = (bshl .u64 1 (blen a0)) := by rw [slices_nextPowerOfTwo_m]
  exact fin1L (v := .int .u64 (bshl .u64 1 (blen a0))) [] rfl rfl (List.Sublist.refl _) ⟨rfl, by first | rw [hM] | rfl⟩
theorem npow_eq (n : Nat) (hn : n ≤ 4000000) : slices_nextPowerOfTwo_m (n : Int) = ((1 <<< Sort.bitsLen n : Nat) : Int) := by
  have hl : Sort.bitsLen n ≤ 22 := (Sort.bitsLen_le_iff n 22).2 (by omega)
  unfold slices_nextPowerOfTwo_m blen bshl
  simp only [Int.toNat_natCast]
  rw [Go.Proofs.bitLen_eq n (by omega), Int.one_mul, show min (Sort.bitsLen n) IntKind.u64.bits = Sort.bitsLen n from Nat.min_eq_left (by show _ ≤ 64; omega)]
  exact Go.Proofs.wrap_two_pow _ (by omega)
theorem band_rng (x y : Int) (hy : 0 ≤ y ∧ y < 18446744073709551616) : 0 ≤ band .u64 x y ∧ band .u64 x y ≤ y := by
  unfold band
  have h1 : (BitVec.ofInt IntKind.u64.bits x &&& BitVec.ofInt IntKind.u64.bits y).toNat ≤ (BitVec.ofInt IntKind.u64.bits y).toNat := by rw [BitVec.toNat_and]; exact Nat.and_le_right
  have h2 : ((BitVec.ofInt IntKind.u64.bits y).toNat : Int) = y := by
    rw [BitVec.toNat_ofInt]
    show (((y % ((2 : Int) ^ 64)).toNat : Nat) : Int) = y
    omega
  rw [IntKind.wrap_u64]
  omega
theorem band_np (L x : Int) (h : 8 ≤ L ∧ L ≤ 4000000) : 0 ≤ band .u64 x (IntKind.u64.wrap (slices_nextPowerOfTwo_m L - 1)) ∧ band .u64 x (IntKind.u64.wrap (slices_nextPowerOfTwo_m L - 1)) < 2 * L := by
  obtain ⟨n, rfl⟩ : ∃ n : Nat, L = n := ⟨L.toNat, by omega⟩
  have h1 := Sort.two_pow_bitsLen_le (n := n) (by omega)
  have h0 : 0 < 2 ^ Sort.bitsLen n := Nat.two_pow_pos _
  rw [npow_eq n (by omega), Nat.one_shiftLeft]
  generalize 2 ^ Sort.bitsLen n = p at h0 h1
  have e : IntKind.u64.wrap ((p : Int) - 1) = (p : Int) - 1 := wrap_u64 ⟨by omega, by omega⟩
  rw [e]
  have := band_rng x ((p : Int) - 1) ⟨by omega, by omega⟩
  omega
def _slices_xorshift__Next_m (a0 : Int) : Int × Int :=
  LR.seq ((bxor .u64 a0 (bshl .u64 a0 13)) : Int) (fun sc1 => LR.seq ((bxor .u64 sc1 (bshr .u64 sc1 7)) : Int) (fun sc2 => LR.seq ((bxor .u64 sc2 (bshl .u64 sc2 17)) : Int) (fun sc3 => (sc3, sc3))))
set_option maxHeartbeats 3200000 in
theorem _slices_xorshift__Next_c (H : Heap) (ba0 : Nat) (a0 : Int) : Fc Try.prog (fnv 152) [.pointer (some ⟨ba0, 0, none⟩)] H [[(ba0, .cells #[.int .u64 a0] 137)]] (fun v' H' L' => v' = .int .u64 (_slices_xorshift__Next_m a0).1 ∧ L' = [[(ba0, .cells #[.int .u64 (_slices_xorshift__Next_m a0).2] 137)]]) := by
  refine Fc.of_body (N := 33) Try.func152 rfl (by kernel_rfl) rfl rfl ?_
  intro w0
  refine T.seq ?_
  refine T.region ?_
  refine R.asE rfl (by conv => lhs; whnf) ?_
  refine TL.nil (Post.thnN ?_)
  refine T.seq ?_
  refine T.cutK (ι := Int) (fun nba0c1_0 H' L' ds' => Has L' [[(ba0, .cells #[.int .u64 nba0c1_0] 137)]] ∧ ((bxor .u64 a0 (bshl .u64 a0 13)) : Int) = nba0c1_0) (fun nba0c1_0 => [(0, .pointer (some ⟨ba0, 0, none⟩))]) ?_ ?_
  · refine T.draw Try_mixed (by kernel_rfl) ?_
    refine Plan.v 0 [1, 2, 3, 4, 5, 6, 7, 8, 9] (by kernel_rfl) (by kernel_rfl) (by kernel_rfl) (by kernel_rfl) rfl (fun _ _ h_ => R.mvE rfl (by conv => lhs; whnf) (TL.nil h_)) ?_
    refine Plan.v 1 [2, 3, 4, 5, 6, 7, 8, 9] (by kernel_rfl) (by kernel_rfl) (by kernel_rfl) (by kernel_rfl) rfl (fun _ _ h_ => R.nilck rfl rfl (TL.nil h_)) ?_
    refine Plan.v 3 [2, 4, 5, 6, 7, 8, 9] (by kernel_rfl) (by kernel_rfl) (by kernel_rfl) (by kernel_rfl) rfl (fun _ _ h_ => R.mvE rfl (by conv => lhs; whnf) (TL.nil h_)) ?_
    refine Plan.v 4 [2, 5, 6, 7, 8, 9] (by kernel_rfl) (by kernel_rfl) (by kernel_rfl) (by kernel_rfl) rfl (fun _ _ h_ => R.nilck rfl rfl (TL.nil h_)) ?_
    refine Plan.s2 2 5 [5, 6, 7, 8, 9] [2, 6, 7, 8, 9] (by kernel_rfl) (by kernel_rfl) (by kernel_rfl) rfl rfl ?_ ?_
    · refine R.ld Try.isAgg137 rfl rfl .hd rfl ?_
      refine TL.nil (Plan.e1 (HLe.refl _) ?_)
      refine Plan.s1 5 [6, 7, 8, 9] (by kernel_rfl) (by kernel_rfl) rfl ?_
      refine R.ld Try.isAgg137 rfl rfl .hd rfl ?_
      refine TL.nil (Plan.e1 (HLe.refl _) ?_)
      refine Plan.v 6 [7, 8, 9] (by kernel_rfl) (by kernel_rfl) (by kernel_rfl) (by kernel_rfl) rfl (fun _ _ h_ => R.shl rfl rfl rfl (by omega) (TL.nil h_)) ?_
      refine Plan.v 7 [8, 9] (by kernel_rfl) (by kernel_rfl) (by kernel_rfl) (by kernel_rfl) rfl (fun _ _ h_ => R.xor rfl rfl rfl (TL.nil h_)) ?_
      refine Plan.v 8 [9] (by kernel_rfl) (by kernel_rfl) (by kernel_rfl) (by kernel_rfl) rfl (fun _ _ h_ => R.nilck rfl rfl (TL.nil h_)) ?_
      refine Plan.s1 9 [] (by kernel_rfl) (by kernel_rfl) rfl ?_
      refine R.stX (old := [.int .u64 a0]) (l := [.int .u64 (bxor .u64 a0 (bshl .u64 a0 13))]) (new := [.int .u64 (bxor .u64 a0 (bshl .u64 a0 13))]) (et := 137) Try.sizeOf137 rfl rfl rfl (cells1 rfl) rfl (by show 0 + 1 ≤ 1; decide) rfl (all_one rfl) .hd ?_
      refine TL.nil (Plan.e0 (HLe.refl _) ?_)
      refine Plan.done (Post.thnN ?_)
      exact ⟨(bxor .u64 a0 (bshl .u64 a0 13)), HLe.refl _, ⟨(Has.cons .hd Has.nil), (by rfl)⟩, rfl, trivial⟩
    refine R.ld Try.isAgg137 rfl rfl .hd rfl ?_
    refine TL.nil (Plan.e1 (HLe.refl _) ?_)
    refine Plan.v 6 [2, 7, 8, 9] (by kernel_rfl) (by kernel_rfl) (by kernel_rfl) (by kernel_rfl) rfl (fun _ _ h_ => R.shl rfl rfl rfl (by omega) (TL.nil h_)) ?_
    refine Plan.s1 2 [7, 8, 9] (by kernel_rfl) (by kernel_rfl) rfl ?_
    refine R.ld Try.isAgg137 rfl rfl .hd rfl ?_
    refine TL.nil (Plan.e1 (HLe.refl _) ?_)
    refine Plan.v 7 [8, 9] (by kernel_rfl) (by kernel_rfl) (by kernel_rfl) (by kernel_rfl) rfl (fun _ _ h_ => R.xor rfl rfl rfl (TL.nil h_)) ?_
    refine Plan.v 8 [9] (by kernel_rfl) (by kernel_rfl) (by kernel_rfl) (by kernel_rfl) rfl (fun _ _ h_ => R.nilck rfl rfl (TL.nil h_)) ?_
    refine Plan.s1 9 [] (by kernel_rfl) (by kernel_rfl) rfl ?_
    refine R.stX (old := [.int .u64 a0]) (l := [.int .u64 (bxor .u64 a0 (bshl .u64 a0 13))]) (new := [.int .u64 (bxor .u64 a0 (bshl .u64 a0 13))]) (et := 137) Try.sizeOf137 rfl rfl rfl (cells1 rfl) rfl (by show 0 + 1 ≤ 1; decide) rfl (all_one rfl) .hd ?_
    refine TL.nil (Plan.e0 (HLe.refl _) ?_)
    refine Plan.done (Post.thnN ?_)
    exact ⟨(bxor .u64 a0 (bshl .u64 a0 13)), HLe.refl _, ⟨(Has.cons .hd Has.nil), (by rfl)⟩, rfl, trivial⟩
  intro nba0c1_0 σ_c1 H_c1 L_c1 ds_c1 s_c1 hI_c1
  obtain ⟨hLc1, hTc1⟩ := hI_c1
  refine T.has hLc1 ?_
  refine T.seq ?_
  refine T.cutK (ι := Int) (fun nba0c2_0 H' L' ds' => Has L' [[(ba0, .cells #[.int .u64 nba0c2_0] 137)]] ∧ ((bxor .u64 nba0c1_0 (bshr .u64 nba0c1_0 7)) : Int) = nba0c2_0) (fun nba0c2_0 => [(0, .pointer (some ⟨ba0, 0, none⟩))]) ?_ ?_
  · refine T.draw Try_mixed (by kernel_rfl) ?_
    refine Plan.v 0 [1, 2, 3, 4, 5, 6, 7, 8, 9] (by kernel_rfl) (by kernel_rfl) (by kernel_rfl) (by kernel_rfl) rfl (fun _ _ h_ => R.mvE rfl (by conv => lhs; whnf) (TL.nil h_)) ?_
    refine Plan.v 1 [2, 3, 4, 5, 6, 7, 8, 9] (by kernel_rfl) (by kernel_rfl) (by kernel_rfl) (by kernel_rfl) rfl (fun _ _ h_ => R.nilck rfl rfl (TL.nil h_)) ?_
    refine Plan.v 3 [2, 4, 5, 6, 7, 8, 9] (by kernel_rfl) (by kernel_rfl) (by kernel_rfl) (by kernel_rfl) rfl (fun _ _ h_ => R.mvE rfl (by conv => lhs; whnf) (TL.nil h_)) ?_
    refine Plan.v 4 [2, 5, 6, 7, 8, 9] (by kernel_rfl) (by kernel_rfl) (by kernel_rfl) (by kernel_rfl) rfl (fun _ _ h_ => R.nilck rfl rfl (TL.nil h_)) ?_
    refine Plan.s2 2 5 [5, 6, 7, 8, 9] [2, 6, 7, 8, 9] (by kernel_rfl) (by kernel_rfl) (by kernel_rfl) rfl rfl ?_ ?_
    · refine R.ld Try.isAgg137 rfl rfl .hd rfl ?_
      refine TL.nil (Plan.e1 (HLe.refl _) ?_)
      refine Plan.s1 5 [6, 7, 8, 9] (by kernel_rfl) (by kernel_rfl) rfl ?_
      refine R.ld Try.isAgg137 rfl rfl .hd rfl ?_
      refine TL.nil (Plan.e1 (HLe.refl _) ?_)
      refine Plan.v 6 [7, 8, 9] (by kernel_rfl) (by kernel_rfl) (by kernel_rfl) (by kernel_rfl) rfl (fun _ _ h_ => R.shr rfl rfl rfl (by omega) (TL.nil h_)) ?_
      refine Plan.v 7 [8, 9] (by kernel_rfl) (by kernel_rfl) (by kernel_rfl) (by kernel_rfl) rfl (fun _ _ h_ => R.xor rfl rfl rfl (TL.nil h_)) ?_
      refine Plan.v 8 [9] (by kernel_rfl) (by kernel_rfl) (by kernel_rfl) (by kernel_rfl) rfl (fun _ _ h_ => R.nilck rfl rfl (TL.nil h_)) ?_
      refine Plan.s1 9 [] (by kernel_rfl) (by kernel_rfl) rfl ?_
      refine R.stX (old := [.int .u64 nba0c1_0]) (l := [.int .u64 (bxor .u64 nba0c1_0 (bshr .u64 nba0c1_0 7))]) (new := [.int .u64 (bxor .u64 nba0c1_0 (bshr .u64 nba0c1_0 7))]) (et := 137) Try.sizeOf137 rfl rfl rfl (cells1 rfl) rfl (by show 0 + 1 ≤ 1; decide) rfl (all_one rfl) .hd ?_
      refine TL.nil (Plan.e0 (HLe.refl _) ?_)
      refine Plan.done (Post.thnN ?_)
      exact ⟨(bxor .u64 nba0c1_0 (bshr .u64 nba0c1_0 7)), HLe.refl _, ⟨(Has.cons .hd Has.nil), (by rfl)⟩, rfl, trivial⟩
    refine R.ld Try.isAgg137 rfl rfl .hd rfl ?_
    refine TL.nil (Plan.e1 (HLe.refl _) ?_)
    refine Plan.v 6 [2, 7, 8, 9] (by kernel_rfl) (by kernel_rfl) (by kernel_rfl) (by kernel_rfl) rfl (fun _ _ h_ => R.shr rfl rfl rfl (by omega) (TL.nil h_)) ?_
    refine Plan.s1 2 [7, 8, 9] (by kernel_rfl) (by kernel_rfl) rfl ?_
    refine R.ld Try.isAgg137 rfl rfl .hd rfl ?_
    refine TL.nil (Plan.e1 (HLe.refl _) ?_)
    refine Plan.v 7 [8, 9] (by kernel_rfl) (by kernel_rfl) (by kernel_rfl) (by kernel_rfl) rfl (fun _ _ h_ => R.xor rfl rfl rfl (TL.nil h_)) ?_
    refine Plan.v 8 [9] (by kernel_rfl) (by kernel_rfl) (by kernel_rfl) (by kernel_rfl) rfl (fun _ _ h_ => R.nilck rfl rfl (TL.nil h_)) ?_
    refine Plan.s1 9 [] (by kernel_rfl) (by kernel_rfl) rfl ?_
    refine R.stX (old := [.int .u64 nba0c1_0]) (l := [.int .u64 (bxor .u64 nba0c1_0 (bshr .u64 nba0c1_0 7))]) (new := [.int .u64 (bxor .u64 nba0c1_0 (bshr .u64 nba0c1_0 7))]) (et := 137) Try.sizeOf137 rfl rfl rfl (cells1 rfl) rfl (by show 0 + 1 ≤ 1; decide) rfl (all_one rfl) .hd ?_
    refine TL.nil (Plan.e0 (HLe.refl _) ?_)
    refine Plan.done (Post.thnN ?_)
    exact ⟨(bxor .u64 nba0c1_0 (bshr .u64 nba0c1_0 7)), HLe.refl _, ⟨(Has.cons .hd Has.nil), (by rfl)⟩, rfl, trivial⟩
  intro nba0c2_0 σ_c2 H_c2 L_c2 ds_c2 s_c2 hI_c2
  obtain ⟨hLc2, hTc2⟩ := hI_c2
  refine T.has hLc2 ?_
  refine T.seq ?_
  refine T.cutK (ι := Int) (fun nba0c3_0 H' L' ds' => Has L' [[(ba0, .cells #[.int .u64 nba0c3_0] 137)]] ∧ ((bxor .u64 nba0c2_0 (bshl .u64 nba0c2_0 17)) : Int) = nba0c3_0) (fun nba0c3_0 => [(0, .pointer (some ⟨ba0, 0, none⟩))]) ?_ ?_
  · refine T.draw Try_mixed (by kernel_rfl) ?_
    refine Plan.v 0 [1, 2, 3, 4, 5, 6, 7, 8, 9] (by kernel_rfl) (by kernel_rfl) (by kernel_rfl) (by kernel_rfl) rfl (fun _ _ h_ => R.mvE rfl (by conv => lhs; whnf) (TL.nil h_)) ?_
    refine Plan.v 1 [2, 3, 4, 5, 6, 7, 8, 9] (by kernel_rfl) (by kernel_rfl) (by kernel_rfl) (by kernel_rfl) rfl (fun _ _ h_ => R.nilck rfl rfl (TL.nil h_)) ?_
    refine Plan.v 3 [2, 4, 5, 6, 7, 8, 9] (by kernel_rfl) (by kernel_rfl) (by kernel_rfl) (by kernel_rfl) rfl (fun _ _ h_ => R.mvE rfl (by conv => lhs; whnf) (TL.nil h_)) ?_
    refine Plan.v 4 [2, 5, 6, 7, 8, 9] (by kernel_rfl) (by kernel_rfl) (by kernel_rfl) (by kernel_rfl) rfl (fun _ _ h_ => R.nilck rfl rfl (TL.nil h_)) ?_
    refine Plan.s2 2 5 [5, 6, 7, 8, 9] [2, 6, 7, 8, 9] (by kernel_rfl) (by kernel_rfl) (by kernel_rfl) rfl rfl ?_ ?_
    · refine R.ld Try.isAgg137 rfl rfl .hd rfl ?_
      refine TL.nil (Plan.e1 (HLe.refl _) ?_)
      refine Plan.s1 5 [6, 7, 8, 9] (by kernel_rfl) (by kernel_rfl) rfl ?_
      refine R.ld Try.isAgg137 rfl rfl .hd rfl ?_
      refine TL.nil (Plan.e1 (HLe.refl _) ?_)
      refine Plan.v 6 [7, 8, 9] (by kernel_rfl) (by kernel_rfl) (by kernel_rfl) (by kernel_rfl) rfl (fun _ _ h_ => R.shl rfl rfl rfl (by omega) (TL.nil h_)) ?_
      refine Plan.v 7 [8, 9] (by kernel_rfl) (by kernel_rfl) (by kernel_rfl) (by kernel_rfl) rfl (fun _ _ h_ => R.xor rfl rfl rfl (TL.nil h_)) ?_
      refine Plan.v 8 [9] (by kernel_rfl) (by kernel_rfl) (by kernel_rfl) (by kernel_rfl) rfl (fun _ _ h_ => R.nilck rfl rfl (TL.nil h_)) ?_
      refine Plan.s1 9 [] (by kernel_rfl) (by kernel_rfl) rfl ?_
      refine R.stX (old := [.int .u64 nba0c2_0]) (l := [.int .u64 (bxor .u64 nba0c2_0 (bshl .u64 nba0c2_0 17))]) (new := [.int .u64 (bxor .u64 nba0c2_0 (bshl .u64 nba0c2_0 17))]) (et := 137) Try.sizeOf137 rfl rfl rfl (cells1 rfl) rfl (by show 0 + 1 ≤ 1; decide) rfl (all_one rfl) .hd ?_
      refine TL.nil (Plan.e0 (HLe.refl _) ?_)
      refine Plan.done (Post.thnN ?_)
      exact ⟨(bxor .u64 nba0c2_0 (bshl .u64 nba0c2_0 17)), HLe.refl _, ⟨(Has.cons .hd Has.nil), (by rfl)⟩, rfl, trivial⟩
    refine R.ld Try.isAgg137 rfl rfl .hd rfl ?_
    refine TL.nil (Plan.e1 (HLe.refl _) ?_)
    refine Plan.v 6 [2, 7, 8, 9] (by kernel_rfl) (by kernel_rfl) (by kernel_rfl) (by kernel_rfl) rfl (fun _ _ h_ => R.shl rfl rfl rfl (by omega) (TL.nil h_)) ?_
    refine Plan.s1 2 [7, 8, 9] (by kernel_rfl) (by kernel_rfl) rfl ?_
    refine R.ld Try.isAgg137 rfl rfl .hd rfl ?_
    refine TL.nil (Plan.e1 (HLe.refl _) ?_)
    refine Plan.v 7 [8, 9] (by kernel_rfl) (by kernel_rfl) (by kernel_rfl) (by kernel_rfl) rfl (fun _ _ h_ => R.xor rfl rfl rfl (TL.nil h_)) ?_
    refine Plan.v 8 [9] (by kernel_rfl) (by kernel_rfl) (by kernel_rfl) (by kernel_rfl) rfl (fun _ _ h_ => R.nilck rfl rfl (TL.nil h_)) ?_
    refine Plan.s1 9 [] (by kernel_rfl) (by kernel_rfl) rfl ?_
    refine R.stX (old := [.int .u64 nba0c2_0]) (l := [.int .u64 (bxor .u64 nba0c2_0 (bshl .u64 nba0c2_0 17))]) (new := [.int .u64 (bxor .u64 nba0c2_0 (bshl .u64 nba0c2_0 17))]) (et := 137) Try.sizeOf137 rfl rfl rfl (cells1 rfl) rfl (by show 0 + 1 ≤ 1; decide) rfl (all_one rfl) .hd ?_
    refine TL.nil (Plan.e0 (HLe.refl _) ?_)
    refine Plan.done (Post.thnN ?_)
    exact ⟨(bxor .u64 nba0c2_0 (bshl .u64 nba0c2_0 17)), HLe.refl _, ⟨(Has.cons .hd Has.nil), (by rfl)⟩, rfl, trivial⟩
  intro nba0c3_0 σ_c3 H_c3 L_c3 ds_c3 s_c3 hI_c3
  obtain ⟨hLc3, hTc3⟩ := hI_c3
  refine T.has hLc3 ?_
  refine T.seq ?_
  refine T.region ?_
  refine R.mvE rfl (by conv => lhs; whnf) ?_
  refine R.nilck rfl rfl ?_
  refine R.ld Try.isAgg137 rfl rfl .hd rfl ?_
  refine R.asE rfl (by conv => lhs; whnf) ?_
  refine TL.nil (Post.thnN ?_)
  refine T.has (Has.cons .hd Has.nil) ?_
  refine T.ret ?_
  have hM : _slices_xorshift__Next_m a0 = (nba0c3_0, nba0c3_0) := by rw [_slices_xorshift__Next_m, hTc1, LR.seq_go, hTc2, LR.seq_go, hTc3, LR.seq_go]
  exact fin1L (v := .int .u64 nba0c3_0) [[(ba0, .cells #[.int .u64 nba0c3_0] 137)]] rfl rfl (List.Sublist.refl _) ⟨by first | rw [hM] | rfl, by first | rw [hM] | rfl⟩
def slices_breakPatternsOrdered_Id_l1 (a1 : Int) (a2 : Int) : Nat → (Int × Int × (List Int)) → Int × Int × (List Int)
  | 0, _ => default
  | ml1 + 1, sl1 => if sl1.1 ≤ ((a1 + (((a2 - a1) / 4) * 2)) + 1) then (LR.seq (_slices_xorshift__Next_m sl1.2.1) (fun r36 => LR.seq (if ((a2 - a1) : Int) ≤ (band .u64 r36.1 (IntKind.u64.wrap ((slices_nextPowerOfTwo_m ((a2 - a1))) - 1))) then (((band .u64 r36.1 (IntKind.u64.wrap ((slices_nextPowerOfTwo_m ((a2 - a1))) - 1))) - (a2 - a1))) else ((band .u64 r36.1 (IntKind.u64.wrap ((slices_nextPowerOfTwo_m ((a2 - a1))) - 1)))) : Int) (fun sc2 => slices_breakPatternsOrdered_Id_l1 a1 a2 ml1 (((sl1.1 + 1), r36.2, (((sl1.2.2.set sl1.1.toNat (sl1.2.2.getD (((a1 + sc2)).toNat) (0 : Int)))).set (((a1 + sc2)).toNat) (sl1.2.2.getD sl1.1.toNat (0 : Int)))))))) else ((sl1.1, sl1.2.1, sl1.2.2))
def slices_breakPatternsOrdered_Id_m (a0 : List Int) (a1 : Int) (a2 : Int) : (List Int) :=
  if (8 : Int) ≤ (a2 - a1) then (LR.seq (slices_breakPatternsOrdered_Id_l1 a1 a2 ((a1 + (a2 - a1) / 4 * 2 + 2 - (((a1 + (((a2 - a1) / 4) * 2)) - 1))).toNat + 1) ((((a1 + (((a2 - a1) / 4) * 2)) - 1), (a2 - a1), a0))) (fun ol1 => ol1.2.2)) else a0
set_option maxHeartbeats 3200000 in
theorem slices_breakPatternsOrdered_Id_c (H : Heap) (va0 : Value) (a0 : List Int) (Ca0 : Chunk) (ha0 : OwnS (intE .u64) 26 H va0 a0 Ca0) (a1 : Int) (a2 : Int) (h1 : 0 ≤ a1) (h2 : a1 + 12 < a2) (h3 : a2 ≤ (a0.length : Int)) (hl : a0.length ≤ 4000000) : Fc Try.prog (fnv 112) [va0, .int .i64 a1, .int .i64 a2] H [Ca0] (fun v' H' L' => ∃ Da0, v' = .tuple #[] ∧ L' = [Da0] ∧ OwnS (intE .u64) 26 H' va0 (slices_breakPatternsOrdered_Id_m a0 a1 a2) Da0) := by
  refine Fc.of_body (N := 65) Try.func112 rfl (by kernel_rfl) rfl rfl ?_
  intro w0
  obtain ⟨Aa0, pa0, rfl, ma0, na0⟩ := OwnS.shape ha0
  refine T.seq ?_
  refine T.region ?_
  refine R.mvE rfl (by conv => lhs; whnf) ?_
  refine R.mvE rfl (by conv => lhs; whnf) ?_
  refine R.subI rfl rfl rfl (by omega) ?_
  refine R.asE rfl (by conv => lhs; whnf) ?_
  refine TL.nil (Post.thnN ?_)
  refine T.seq ?_
  refine T.region ?_
  refine R.mvE rfl (by conv => lhs; whnf) ?_
  refine R.geq rfl rfl rfl ?_
  refine TL.nil (Post.thnN ?_)
  refine T.condD rfl (fun c15 => ?_) (fun c15 => ?_)
  · refine T.set 15 (.bool true) (congrArg Value.bool (decide_eq_true c15)) ?_
    refine T.seq ?_
    refine T.region ?_
    refine R.mvE rfl (by conv => lhs; whnf) ?_
    refine R.convU Try.underlying3 Try.underlying137 rfl rfl (by omega) ?_
    refine R.alloc Try.zeroValue137 rfl ?_
    intro b7
    refine R.stX (old := [.int .u64 0]) (l := [.int .u64 (a2 - a1)]) (new := [.int .u64 (a2 - a1)]) (et := 137) Try.sizeOf137 rfl rfl rfl (cells1 rfl) rfl (by show 0 + 1 ≤ 1; decide) rfl (all_one rfl) .hd ?_
    refine TL.nil (Post.thnN ?_)
    refine T.seq ?_
    refine T.region ?_
    refine R.mvE rfl (by conv => lhs; whnf) ?_
    refine R.callv rfl rfl rfl (slices_nextPowerOfTwo_c _ ((a2 - a1)) (by first | omega | (simp; done) | (simp; omega) | (simp at *; omega)) (by first | omega | (simp; done) | (simp; omega) | (simp at *; omega))) ?_
    refine R.asE rfl (by conv => lhs; whnf) ?_
    refine TL.nil (Post.thnN ?_)
    refine T.seq ?_
    refine T.region ?_
    refine R.mvE rfl (by conv => lhs; whnf) ?_
    refine R.mvE rfl (by conv => lhs; whnf) ?_
    refine R.quoI rfl rfl rfl (by omega) ?_
    refine R.mulI rfl rfl rfl (by omega) ?_
    refine R.addI rfl rfl rfl (by omega) ?_
    refine R.subI rfl rfl rfl (by omega) ?_
    refine R.asE rfl (by conv => lhs; whnf) ?_
    refine TL.nil (Post.thnN ?_)
    refine T.block ?_
    refine T.loop (ι := Nat × Int × Int × (List Int) × Chunk) (fun ⟨kl1, n9l1, nb7l1_0, xPa0l1, cPa0l1⟩ H' L' ds' => (a1 + (a2 - a1) / 4 * 2 + 2 - n9l1).toNat < kl1 ∧ Has L' [[(b7, .cells #[.int .u64 nb7l1_0] 137)], cPa0l1] ∧ OwnS (intE .u64) 26 H' (.slice Aa0 a0.length pa0) xPa0l1 cPa0l1 ∧ a1 + (a2 - a1) / 4 * 2 - 1 ≤ n9l1 ∧ n9l1 ≤ a1 + (a2 - a1) / 4 * 2 + 2 ∧ slices_breakPatternsOrdered_Id_l1 a1 a2 kl1 ((n9l1, nb7l1_0, xPa0l1)) = slices_breakPatternsOrdered_Id_l1 a1 a2 ((a1 + (a2 - a1) / 4 * 2 + 2 - (((a1 + (((a2 - a1) / 4) * 2)) - 1))).toNat + 1) ((((a1 + (((a2 - a1) / 4) * 2)) - 1), (a2 - a1), a0))) (fun ⟨kl1, n9l1, nb7l1_0, xPa0l1, cPa0l1⟩ => [(0, .slice Aa0 a0.length pa0), (1, .int .i64 a1), (6, .int .i64 (a2 - a1)), (7, .pointer (some ⟨b7, 0, none⟩)), (8, .int .u64 (slices_nextPowerOfTwo_m ((a2 - a1)))), (9, .int .i64 n9l1)]) (fun ⟨kl1, n9l1, nb7l1_0, xPa0l1, cPa0l1⟩ => kl1) (((a1 + (a2 - a1) / 4 * 2 + 2 - (((a1 + (((a2 - a1) / 4) * 2)) - 1))).toNat + 1), ((a1 + (((a2 - a1) / 4) * 2)) - 1), (a2 - a1), a0, Ca0) ?_ ?_ ?_
    · exact ⟨(by omega), (Has.cons .hd (Has.cons .hd Has.nil)), ha0, (by first | omega | (simp; done) | (simp; omega) | (simp at *; omega)), (by first | omega | (simp; done) | (simp; omega) | (simp at *; omega)), (by rfl)⟩
    · exact ⟨rfl, rfl, rfl, rfl, rfl, rfl, trivial⟩
    intro ⟨kl1, n9l1, nb7l1_0, xPa0l1, cPa0l1⟩ σ_l1 H_l1 L_l1 ds_l1 s_l1 hI_l1
    obtain ⟨hkl1, hI_l1⟩ := hI_l1
    obtain ⟨ml1, rfl⟩ : ∃ m, kl1 = m + 1 := ⟨kl1 - 1, by omega⟩
    obtain ⟨hLl1, wPa0l1, hBl1_0, hBl1_1, hQl1⟩ := hI_l1
    have nPa0l1_ := OwnS.len wPa0l1
    refine T.has hLl1 ?_
    refine T.seq ?_
    refine T.seq ?_
    refine T.region ?_
    refine R.mvE rfl (by conv => lhs; whnf) ?_
    refine R.mvE rfl (by conv => lhs; whnf) ?_
    refine R.mvE rfl (by conv => lhs; whnf) ?_
    refine R.quoI rfl rfl rfl (by omega) ?_
    refine R.mulI rfl rfl rfl (by omega) ?_
    refine R.addI rfl rfl rfl (by omega) ?_
    refine R.addI rfl rfl rfl (by omega) ?_
    refine R.leq rfl rfl rfl ?_
    refine TL.nil (Post.thnN ?_)
    refine T.condD rfl (fun c33 => ?_) (fun c33 => ?_)
    · refine T.set 33 (.bool true) (congrArg Value.bool (decide_eq_true c33)) ?_
      refine T.skip (Post.thnN ?_)
      refine T.seq ?_
      refine T.block ?_
      refine T.seq ?_
      refine T.region ?_
      obtain ⟨r36, er36⟩ : ∃ r, r = (_slices_xorshift__Next_m nb7l1_0) := ⟨_, rfl⟩
      refine TL.call [true] rfl rfl rfl (_slices_xorshift__Next_c _ _ nb7l1_0) ?_
      intro v36 H36 L36 s36 q36
      rw [← er36] at q36
      obtain ⟨rfl, rfl⟩ := q36
      have hb36 := band_np (a2 - a1) r36.1 (by omega)
      refine R.mvE rfl (by conv => lhs; whnf) ?_
      refine R.sub rfl rfl rfl ?_
      refine R.and rfl rfl rfl ?_
      refine R.convI Try.underlying88 Try.underlying3 rfl rfl (by omega) ?_
      refine R.asE rfl (by conv => lhs; whnf) ?_
      refine TL.nil (Post.thnN ?_)
      refine T.seq ?_
      refine T.seq ?_
      refine T.region ?_
      refine R.mvE rfl (by conv => lhs; whnf) ?_
      refine R.mvE rfl (by conv => lhs; whnf) ?_
      refine R.geq rfl rfl rfl ?_
      refine TL.nil (Post.thnN ?_)
      refine T.cutK (ι := Int) (fun n10c2 H' L' ds' => Has L' [[(b7, .cells #[.int .u64 (r36.2)] 137)], cPa0l1] ∧ 0 ≤ n10c2 ∧ n10c2 < a2 - a1 ∧ (if ((a2 - a1) : Int) ≤ (band .u64 r36.1 (IntKind.u64.wrap ((slices_nextPowerOfTwo_m ((a2 - a1))) - 1))) then (((band .u64 r36.1 (IntKind.u64.wrap ((slices_nextPowerOfTwo_m ((a2 - a1))) - 1))) - (a2 - a1))) else ((band .u64 r36.1 (IntKind.u64.wrap ((slices_nextPowerOfTwo_m ((a2 - a1))) - 1)))) : Int) = n10c2) (fun n10c2 => [(0, .slice Aa0 a0.length pa0), (1, .int .i64 a1), (6, .int .i64 (a2 - a1)), (7, .pointer (some ⟨b7, 0, none⟩)), (8, .int .u64 (slices_nextPowerOfTwo_m ((a2 - a1)))), (9, .int .i64 n9l1), (10, .int .i64 n10c2)]) ?_ ?_
      · refine T.condD rfl (fun c43 => ?_) (fun c43 => ?_)
        · refine T.set 43 (.bool true) (congrArg Value.bool (decide_eq_true c43)) ?_
          refine T.region ?_
          refine R.mvE rfl (by conv => lhs; whnf) ?_
          refine R.mvE rfl (by conv => lhs; whnf) ?_
          refine R.subI rfl rfl rfl (by omega) ?_
          refine R.asE rfl (by conv => lhs; whnf) ?_
          refine TL.nil (Post.thnN ?_)
          exact ⟨((band .u64 r36.1 (IntKind.u64.wrap ((slices_nextPowerOfTwo_m ((a2 - a1))) - 1))) - (a2 - a1)), HLe.refl _, ⟨(Has.cons .hd (Has.cons .hd Has.nil)), (by first | omega | (simp; done) | (simp; omega) | (simp at *; omega)), (by first | omega | (simp; done) | (simp; omega) | (simp at *; omega)), (by rw [if_pos c43])⟩, rfl, rfl, rfl, rfl, rfl, rfl, rfl, trivial⟩
        refine T.set 43 (.bool false) (congrArg Value.bool (decide_eq_false c43)) ?_
        refine T.skip (Post.thnN ?_)
        exact ⟨(band .u64 r36.1 (IntKind.u64.wrap ((slices_nextPowerOfTwo_m ((a2 - a1))) - 1))), HLe.refl _, ⟨(Has.cons .hd (Has.cons .hd Has.nil)), (by first | omega | (simp; done) | (simp; omega) | (simp at *; omega)), (by first | omega | (simp; done) | (simp; omega) | (simp at *; omega)), (by rw [if_neg c43])⟩, rfl, rfl, rfl, rfl, rfl, rfl, rfl, trivial⟩
      intro n10c2 σ_c2 H_c2 L_c2 ds_c2 s_c2 hI_c2
      obtain ⟨hLc2, hBc2_0, hBc2_1, hTc2⟩ := hI_c2
      refine T.has hLc2 ?_
      refine T.draw Try_mixed (by kernel_rfl) ?_
      refine Plan.v 0 [1, 2, 3, 4, 5, 6, 7, 8, 9, 10, 11, 12, 13, 14, 15, 16, 17, 18, 19] (by kernel_rfl) (by kernel_rfl) (by kernel_rfl) (by kernel_rfl) rfl (fun _ _ h_ => R.mvE rfl (by conv => lhs; whnf) (TL.nil h_)) ?_
      refine Plan.v 1 [2, 3, 4, 5, 6, 7, 8, 9, 10, 11, 12, 13, 14, 15, 16, 17, 18, 19] (by kernel_rfl) (by kernel_rfl) (by kernel_rfl) (by kernel_rfl) rfl (fun _ _ h_ => R.mvE rfl (by conv => lhs; whnf) (TL.nil h_)) ?_
      refine Plan.v 2 [3, 4, 5, 6, 7, 8, 9, 10, 11, 12, 13, 14, 15, 16, 17, 18, 19] (by kernel_rfl) (by kernel_rfl) (by kernel_rfl) (by kernel_rfl) rfl (fun _ _ h_ => R.mvE rfl (by conv => lhs; whnf) (TL.nil h_)) ?_
      refine Plan.v 3 [4, 5, 6, 7, 8, 9, 10, 11, 12, 13, 14, 15, 16, 17, 18, 19] (by kernel_rfl) (by kernel_rfl) (by kernel_rfl) (by kernel_rfl) rfl (fun _ _ h_ => R.mvE rfl (by conv => lhs; whnf) (TL.nil h_)) ?_
      refine Plan.v 4 [5, 6, 7, 8, 9, 10, 11, 12, 13, 14, 15, 16, 17, 18, 19] (by kernel_rfl) (by kernel_rfl) (by kernel_rfl) (by kernel_rfl) rfl (fun _ _ h_ => R.mvE rfl (by conv => lhs; whnf) (TL.nil h_)) ?_
      refine Plan.v 5 [6, 7, 8, 9, 10, 11, 12, 13, 14, 15, 16, 17, 18, 19] (by kernel_rfl) (by kernel_rfl) (by kernel_rfl) (by kernel_rfl) rfl (fun _ _ h_ => R.addI rfl rfl rfl (by omega) (TL.nil h_)) ?_
      refine Plan.v 6 [7, 8, 9, 10, 11, 12, 13, 14, 15, 16, 17, 18, 19] (by kernel_rfl) (by kernel_rfl) (by kernel_rfl) (by kernel_rfl) rfl (fun _ _ h_ => R.mvE rfl (by conv => lhs; whnf) (TL.nil h_)) ?_
      refine Plan.v 7 [8, 9, 10, 11, 12, 13, 14, 15, 16, 17, 18, 19] (by kernel_rfl) (by kernel_rfl) (by kernel_rfl) (by kernel_rfl) rfl (fun _ _ h_ => R.mvE rfl (by conv => lhs; whnf) (TL.nil h_)) ?_
      refine Plan.v 8 [9, 10, 11, 12, 13, 14, 15, 16, 17, 18, 19] (by kernel_rfl) (by kernel_rfl) (by kernel_rfl) (by kernel_rfl) rfl (fun _ _ h_ => R.mvE rfl (by conv => lhs; whnf) (TL.nil h_)) ?_
      refine Plan.v 9 [10, 11, 12, 13, 14, 15, 16, 17, 18, 19] (by kernel_rfl) (by kernel_rfl) (by kernel_rfl) (by kernel_rfl) rfl (fun _ _ h_ => R.addI rfl rfl rfl (by omega) (TL.nil h_)) ?_
      have hl57 : ((a1 + n10c2)).toNat < a0.length := by first | omega | (simp; done) | (simp; omega) | (simp at *; omega)
      obtain ⟨y57, e57, h57⟩ : ∃ y, y = (xPa0l1.getD (((a1 + n10c2)).toNat) (0 : Int)) ∧ xPa0l1[((a1 + n10c2)).toNat]? = some y := ⟨_, rfl, getD_get (by first | exact hl57 | simpa using hl57 | (simp only [List.length_set]; omega) | omega | (rw [(sortI_perm _).length_eq]; exact hl57))⟩
      obtain ⟨b57, u57, cs57, l57, f57, j57, i57, g57, k57⟩ := OwnS.elem (OwnS.mono wPa0l1 (s36.trans s_c2)) h57
      obtain rfl : l57 = [.int .u64 y57] := g57
      refine Plan.v 10 [11, 12, 13, 14, 15, 16, 17, 18, 19] (by kernel_rfl) (by kernel_rfl) (by kernel_rfl) (by kernel_rfl) rfl (fun _ _ h_ => R.ixp (sz := ((intE .u64)).size) Try.underlying22 Try.sizeOf26 rfl rfl rfl (by first | omega | (simp; done) | (simp; omega) | (simp at *; omega)) i57 (TL.nil h_)) ?_
      refine Plan.v 12 [11, 13, 14, 15, 16, 17, 18, 19] (by kernel_rfl) (by kernel_rfl) (by kernel_rfl) (by kernel_rfl) rfl (fun _ _ h_ => R.mvE rfl (by conv => lhs; whnf) (TL.nil h_)) ?_
      refine Plan.v 13 [11, 14, 15, 16, 17, 18, 19] (by kernel_rfl) (by kernel_rfl) (by kernel_rfl) (by kernel_rfl) rfl (fun _ _ h_ => R.mvE rfl (by conv => lhs; whnf) (TL.nil h_)) ?_
      have hl61 : n9l1.toNat < a0.length := by first | omega | (simp; done) | (simp; omega) | (simp at *; omega)
      obtain ⟨y61, e61, h61⟩ : ∃ y, y = (xPa0l1.getD n9l1.toNat (0 : Int)) ∧ xPa0l1[n9l1.toNat]? = some y := ⟨_, rfl, getD_get (by first | exact hl61 | simpa using hl61 | (simp only [List.length_set]; omega) | omega | (rw [(sortI_perm _).length_eq]; exact hl61))⟩
      obtain ⟨b61, u61, cs61, l61, f61, j61, i61, g61, k61⟩ := OwnS.elem (OwnS.mono wPa0l1 (s36.trans s_c2)) h61
      obtain rfl : l61 = [.int .u64 y61] := g61
      refine Plan.v 14 [11, 15, 16, 17, 18, 19] (by kernel_rfl) (by kernel_rfl) (by kernel_rfl) (by kernel_rfl) rfl (fun _ _ h_ => R.ixp (sz := ((intE .u64)).size) Try.underlying22 Try.sizeOf26 rfl rfl rfl (by first | omega | (simp; done) | (simp; omega) | (simp at *; omega)) i61 (TL.nil h_)) ?_
      refine Plan.s2 11 15 [15, 16, 17, 18, 19] [11, 16, 17, 18, 19] (by kernel_rfl) (by kernel_rfl) (by kernel_rfl) rfl rfl ?_ ?_
      · refine R.ld Try.isAgg26 rfl rfl (by rw [← f57]; exact (.tl .hd)) (k57 0 _ rfl) ?_
        refine TL.nil (Plan.e1 (HLe.refl _) ?_)
        refine Plan.s1 15 [16, 17, 18, 19] (by kernel_rfl) (by kernel_rfl) rfl ?_
        refine R.ld Try.isAgg26 rfl rfl (by rw [← f61]; exact (.tl .hd)) (k61 0 _ rfl) ?_
        refine TL.nil (Plan.e1 (HLe.refl _) ?_)
        have hl63 : n9l1.toNat < a0.length := by first | omega | (simp; done) | (simp; omega) | (simp at *; omega)
        obtain ⟨y63, e63, h63⟩ : ∃ y, y = (xPa0l1.getD n9l1.toNat (0 : Int)) ∧ xPa0l1[n9l1.toNat]? = some y := ⟨_, rfl, getD_get (by first | exact hl63 | simpa using hl63 | (simp only [List.length_set]; omega) | omega | (rw [(sortI_perm _).length_eq]; exact hl63))⟩
        obtain ⟨b63, u63, cs63, l63, f63, j63, i63, g63, k63⟩ := OwnS.elem (OwnS.mono wPa0l1 (s36.trans s_c2)) h63
        obtain rfl : l63 = [.int .u64 y63] := g63
        refine Plan.v 16 [17, 18, 19] (by kernel_rfl) (by kernel_rfl) (by kernel_rfl) (by kernel_rfl) rfl (fun _ _ h_ => R.ixp (sz := ((intE .u64)).size) Try.underlying22 Try.sizeOf26 rfl rfl rfl (by first | omega | (simp; done) | (simp; omega) | (simp at *; omega)) i63 (TL.nil h_)) ?_
        refine Plan.s1 17 [18, 19] (by kernel_rfl) (by kernel_rfl) rfl ?_
        refine R.stEF (E := (intE .u64)) (e := 26) (v := (.slice Aa0 a0.length pa0)) (m := [.int .u64 y57]) (o := 0) (y := y63) (y' := y57) (j := n9l1.toNat) Try.sizeOf26 rfl (OwnS.mono wPa0l1 (s36.trans s_c2)) (.tl .hd) i63 rfl rfl (cells1 rfl) (all_one rfl) h63 (by show 0 + 1 ≤ 1; decide) (fun l hl => by have e0 : l = [.int .u64 y63] := hl; subst e0; exact rfl) ?_
        intro cst13 wst13
        refine TL.nil (Plan.e0 (HLe.refl _) ?_)
        have hl64 : ((a1 + n10c2)).toNat < a0.length := by first | omega | (simp; done) | (simp; omega) | (simp at *; omega)
        obtain ⟨y64, e64, h64⟩ : ∃ y, y = (((xPa0l1.set n9l1.toNat y57)).getD (((a1 + n10c2)).toNat) (0 : Int)) ∧ ((xPa0l1.set n9l1.toNat y57))[((a1 + n10c2)).toNat]? = some y := ⟨_, rfl, getD_get (by first | exact hl64 | simpa using hl64 | (simp only [List.length_set]; omega) | omega | (rw [(sortI_perm _).length_eq]; exact hl64))⟩
        obtain ⟨b64, u64, cs64, l64, f64, j64, i64, g64, k64⟩ := OwnS.elem wst13 h64
        obtain rfl : l64 = [.int .u64 y64] := g64
        refine Plan.v 18 [19] (by kernel_rfl) (by kernel_rfl) (by kernel_rfl) (by kernel_rfl) rfl (fun _ _ h_ => R.ixp (sz := ((intE .u64)).size) Try.underlying22 Try.sizeOf26 rfl rfl rfl (by first | omega | (simp; done) | (simp; omega) | (simp at *; omega)) i64 (TL.nil h_)) ?_
        refine Plan.s1 19 [] (by kernel_rfl) (by kernel_rfl) rfl ?_
        refine R.stEF (E := (intE .u64)) (e := 26) (v := (.slice Aa0 a0.length pa0)) (m := [.int .u64 y61]) (o := 0) (y := y64) (y' := y61) (j := ((a1 + n10c2)).toNat) Try.sizeOf26 rfl wst13 .hd i64 rfl rfl (cells1 rfl) (all_one rfl) h64 (by show 0 + 1 ≤ 1; decide) (fun l hl => by have e0 : l = [.int .u64 y64] := hl; subst e0; exact rfl) ?_
        intro cst14 wst14
        refine TL.nil (Plan.e0 (HLe.refl _) ?_)
        refine Plan.done (Post.blkN ?_)
        refine id (Post.thnN ?_)
        refine T.region ?_
        refine R.mvE rfl (by conv => lhs; whnf) ?_
        refine R.addI rfl rfl rfl (by omega) ?_
        refine R.asE rfl (by conv => lhs; whnf) ?_
        refine TL.nil (Post.thnN ?_)
        exact ⟨(ml1, (n9l1 + 1), r36.2, (((xPa0l1.set n9l1.toNat y57)).set (((a1 + n10c2)).toNat) y61), cst14), (s_l1.trans (s36.trans s_c2)), ⟨(by first | omega | (simp; omega) | (simp at *; omega)), (Has.cons (.tl .hd) (Has.cons .hd Has.nil)), wst14, (by first | omega | (simp; done) | (simp; omega) | (simp at *; omega)), (by first | omega | (simp; done) | (simp; omega) | (simp at *; omega)), (by subst e64; subst e63; subst e61; subst e57; subst er36; rw [← hQl1, slices_breakPatternsOrdered_Id_l1]; rw [if_pos c33, LR.seq_go, hTc2, LR.seq_go])⟩, by show ml1 < ml1 + 1; omega, rfl, rfl, rfl, rfl, rfl, rfl, trivial⟩
      refine R.ld Try.isAgg26 rfl rfl (by rw [← f61]; exact (.tl .hd)) (k61 0 _ rfl) ?_
      refine TL.nil (Plan.e1 (HLe.refl _) ?_)
      refine Plan.s1 11 [16, 17, 18, 19] (by kernel_rfl) (by kernel_rfl) rfl ?_
      refine R.ld Try.isAgg26 rfl rfl (by rw [← f57]; exact (.tl .hd)) (k57 0 _ rfl) ?_
      refine TL.nil (Plan.e1 (HLe.refl _) ?_)
      have hl63 : n9l1.toNat < a0.length := by first | omega | (simp; done) | (simp; omega) | (simp at *; omega)
      obtain ⟨y63, e63, h63⟩ : ∃ y, y = (xPa0l1.getD n9l1.toNat (0 : Int)) ∧ xPa0l1[n9l1.toNat]? = some y := ⟨_, rfl, getD_get (by first | exact hl63 | simpa using hl63 | (simp only [List.length_set]; omega) | omega | (rw [(sortI_perm _).length_eq]; exact hl63))⟩
      obtain ⟨b63, u63, cs63, l63, f63, j63, i63, g63, k63⟩ := OwnS.elem (OwnS.mono wPa0l1 (s36.trans s_c2)) h63
      obtain rfl : l63 = [.int .u64 y63] := g63
      refine Plan.v 16 [17, 18, 19] (by kernel_rfl) (by kernel_rfl) (by kernel_rfl) (by kernel_rfl) rfl (fun _ _ h_ => R.ixp (sz := ((intE .u64)).size) Try.underlying22 Try.sizeOf26 rfl rfl rfl (by first | omega | (simp; done) | (simp; omega) | (simp at *; omega)) i63 (TL.nil h_)) ?_
      refine Plan.s1 17 [18, 19] (by kernel_rfl) (by kernel_rfl) rfl ?_
      refine R.stEF (E := (intE .u64)) (e := 26) (v := (.slice Aa0 a0.length pa0)) (m := [.int .u64 y57]) (o := 0) (y := y63) (y' := y57) (j := n9l1.toNat) Try.sizeOf26 rfl (OwnS.mono wPa0l1 (s36.trans s_c2)) (.tl .hd) i63 rfl rfl (cells1 rfl) (all_one rfl) h63 (by show 0 + 1 ≤ 1; decide) (fun l hl => by have e0 : l = [.int .u64 y63] := hl; subst e0; exact rfl) ?_
      intro cst15 wst15
      refine TL.nil (Plan.e0 (HLe.refl _) ?_)
      have hl64 : ((a1 + n10c2)).toNat < a0.length := by first | omega | (simp; done) | (simp; omega) | (simp at *; omega)
      obtain ⟨y64, e64, h64⟩ : ∃ y, y = (((xPa0l1.set n9l1.toNat y57)).getD (((a1 + n10c2)).toNat) (0 : Int)) ∧ ((xPa0l1.set n9l1.toNat y57))[((a1 + n10c2)).toNat]? = some y := ⟨_, rfl, getD_get (by first | exact hl64 | simpa using hl64 | (simp only [List.length_set]; omega) | omega | (rw [(sortI_perm _).length_eq]; exact hl64))⟩
      obtain ⟨b64, u64, cs64, l64, f64, j64, i64, g64, k64⟩ := OwnS.elem wst15 h64
      obtain rfl : l64 = [.int .u64 y64] := g64
      refine Plan.v 18 [19] (by kernel_rfl) (by kernel_rfl) (by kernel_rfl) (by kernel_rfl) rfl (fun _ _ h_ => R.ixp (sz := ((intE .u64)).size) Try.underlying22 Try.sizeOf26 rfl rfl rfl (by first | omega | (simp; done) | (simp; omega) | (simp at *; omega)) i64 (TL.nil h_)) ?_
      refine Plan.s1 19 [] (by kernel_rfl) (by kernel_rfl) rfl ?_
      refine R.stEF (E := (intE .u64)) (e := 26) (v := (.slice Aa0 a0.length pa0)) (m := [.int .u64 y61]) (o := 0) (y := y64) (y' := y61) (j := ((a1 + n10c2)).toNat) Try.sizeOf26 rfl wst15 .hd i64 rfl rfl (cells1 rfl) (all_one rfl) h64 (by show 0 + 1 ≤ 1; decide) (fun l hl => by have e0 : l = [.int .u64 y64] := hl; subst e0; exact rfl) ?_
      intro cst16 wst16
      refine TL.nil (Plan.e0 (HLe.refl _) ?_)
      refine Plan.done (Post.blkN ?_)
      refine id (Post.thnN ?_)
      refine T.region ?_
      refine R.mvE rfl (by conv => lhs; whnf) ?_
      refine R.addI rfl rfl rfl (by omega) ?_
      refine R.asE rfl (by conv => lhs; whnf) ?_
      refine TL.nil (Post.thnN ?_)
      exact ⟨(ml1, (n9l1 + 1), r36.2, (((xPa0l1.set n9l1.toNat y57)).set (((a1 + n10c2)).toNat) y61), cst16), (s_l1.trans (s36.trans s_c2)), ⟨(by first | omega | (simp; omega) | (simp at *; omega)), (Has.cons (.tl .hd) (Has.cons .hd Has.nil)), wst16, (by first | omega | (simp; done) | (simp; omega) | (simp at *; omega)), (by first | omega | (simp; done) | (simp; omega) | (simp at *; omega)), (by subst e64; subst e63; subst e61; subst e57; subst er36; rw [← hQl1, slices_breakPatternsOrdered_Id_l1]; rw [if_pos c33, LR.seq_go, hTc2, LR.seq_go])⟩, by show ml1 < ml1 + 1; omega, rfl, rfl, rfl, rfl, rfl, rfl, trivial⟩
    refine T.set 33 (.bool false) (congrArg Value.bool (decide_eq_false c33)) ?_
    refine T.exit (Post.thnE (Post.thnE (Post.blkX ?_)))
    have hEl1 : slices_breakPatternsOrdered_Id_l1 a1 a2 ((a1 + (a2 - a1) / 4 * 2 + 2 - (((a1 + (((a2 - a1) / 4) * 2)) - 1))).toNat + 1) ((((a1 + (((a2 - a1) / 4) * 2)) - 1), (a2 - a1), a0)) = (n9l1, nb7l1_0, xPa0l1) := (by rw [← hQl1, slices_breakPatternsOrdered_Id_l1]; rw [if_neg c33])
    refine id ?_
    have hM : slices_breakPatternsOrdered_Id_m a0 a1 a2 = xPa0l1 := by rw [slices_breakPatternsOrdered_Id_m, if_pos c15, hEl1, LR.seq_go]
    exact fin0N [cPa0l1] rfl (List.Sublist.cons _ (List.Sublist.cons_cons _ (List.nil_sublist _))) ⟨cPa0l1, by first | rw [hM] | rfl, by first | rw [hM] | rfl, by rw [hM]; exact wPa0l1⟩
  refine T.set 15 (.bool false) (congrArg Value.bool (decide_eq_false c15)) ?_
  refine T.skip ?_
  have hM : slices_breakPatternsOrdered_Id_m a0 a1 a2 = a0 := by rw [slices_breakPatternsOrdered_Id_m, if_neg c15]
  exact fin0N [Ca0] rfl (List.Sublist.cons_cons _ (List.nil_sublist _)) ⟨Ca0, by first | rw [hM] | rfl, by first | rw [hM] | rfl, by rw [hM]; exact ha0⟩
end Go.SX

set_option linter.unusedVariables false
set_option linter.unusedSimpArgs false
namespace Go.SX
open Go
theorem so_scan2 (b : Nat) (xs : List Int) : ∀ (k i m : Nat), b - i ≤ k → k < m → 1 ≤ i → slices_partialInsertionSortOrdered_Id_l2 (b : Int) xs m (i : Int) = ((Sort.scanSorted Sort.ltInt xs.toArray b i : Nat) : Int)
  | k, i, 0, _, h, _ => by omega
  | k, i, m + 1, h1, h2, h3 => by
    simp only [slices_partialInsertionSortOrdered_Id_l2, LR.seq_go, so_less, Int.toNat_natCast]
    rw [Sort.scanSorted, so_get, so_get, show ((i : Int) - 1).toNat = i - 1 by omega]
    rw [so_ifd, so_lt]
    cases hb : (decide (i < b) && !Sort.ltInt (xs.getD i 0) (xs.getD (i - 1) 0)) with
    | false => rfl
    | true =>
      have : i < b := of_decide_eq_true (Bool.and_eq_true_iff.1 hb).1
      rw [if_pos rfl, if_pos rfl]
      cases k with
      | zero => omega
      | succ k => exact so_scan2 b xs k (i + 1) m (by omega) (by omega) (by omega)
theorem so_scan2_ge (lt : Int → Int → Bool) (d : Array Int) (b : Nat) : ∀ (k i : Nat), b - i ≤ k → i ≤ Sort.scanSorted lt d b i ∧ (i ≤ b → Sort.scanSorted lt d b i ≤ b)
  | k, i, h => by
    rw [Sort.scanSorted]
    by_cases hi : (decide (i < b) && !lt d[i]! d[i - 1]!) = true
    · rw [if_pos hi]
      have : i < b := of_decide_eq_true (Bool.and_eq_true_iff.1 hi).1
      cases k with
      | zero => omega
      | succ k => have := so_scan2_ge lt d b k (i + 1) (by omega); omega
    · rw [if_neg hi]; omega
theorem so_down : ∀ (j m : Nat) (xs : List Int), j < m → (slices_partialInsertionSortOrdered_Id_l6 m ((j : Int), xs)).2 = (Sort.shiftDown Sort.ltInt j xs.toArray).toList
  | j, 0, xs, h => by omega
  | 0, m + 1, xs, h => by
    simp only [slices_partialInsertionSortOrdered_Id_l6]
    rw [if_neg (by omega), Sort.shiftDown]
  | j + 1, m + 1, xs, h => by
    simp only [slices_partialInsertionSortOrdered_Id_l6, LR.seq_go, so_less, Int.toNat_natCast, tn1, tn1i]
    rw [if_pos (by omega), Sort.shiftDown, so_get, so_get, so_swp]
    cases Sort.ltInt (xs.getD (j + 1) 0) (xs.getD j 0) with
    | false => rfl
    | true => rw [if_neg (by decide), if_neg (by decide)]; exact so_down j m (sw xs (j + 1) j) (by omega)
theorem so_up (b : Nat) : ∀ (k j m : Nat) (xs : List Int), b - j ≤ k → k < m → 1 ≤ j → (slices_partialInsertionSortOrdered_Id_l8 (b : Int) m ((j : Int), xs)).2 = (Sort.shiftUp Sort.ltInt b j xs.toArray).toList
  | k, j, 0, xs, _, h, _ => by omega
  | k, j, m + 1, xs, h1, h2, h3 => by
    simp only [slices_partialInsertionSortOrdered_Id_l8, LR.seq_go, so_less, Int.toNat_natCast]
    rw [Sort.shiftUp, show ((j : Int) - 1).toNat = j - 1 by omega, so_get, so_get, so_swp]
    by_cases h : j < b
    · rw [if_pos (by omega), if_pos h]
      cases Sort.ltInt (xs.getD j 0) (xs.getD (j - 1) 0) with
      | false => rfl
      | true =>
        rw [if_neg (by decide), if_neg (by decide)]
        cases k with
        | zero => omega
        | succ k => exact so_up b k (j + 1) m (sw xs j (j - 1)) (by omega) (by omega) (by omega)
    · rw [if_neg (by omega), if_neg h]
def pairL (p : Array Int × Bool) : Bool × List Int := (p.2, p.1.toList)
theorem so_part_l (a b : Nat) (hab : a < b) : ∀ (s m i : Nat) (xs : List Int), s < m → a + 1 ≤ i → i ≤ b → s ≤ 5 → LR.on (slices_partialInsertionSortOrdered_Id_l1 (a : Int) (b : Int) m ((i : Int), 5 - (s : Int), xs)) (fun r => r) (fun o => (false, o.2.2)) = pairL (Sort.partialIns Sort.ltInt a b s i xs.toArray)
  | s, 0, i, xs, h, _, _, _ => by omega
  | 0, m + 1, i, xs, _, _, _, _ => by
    simp only [slices_partialInsertionSortOrdered_Id_l1]
    rw [if_neg (by omega), LR.on_go, Sort.partialIns]; rfl
  | s + 1, m + 1, i, xs, h1, h2, h3, h4 => by
    simp only [slices_partialInsertionSortOrdered_Id_l1, LR.seq_go]
    rw [if_pos (by omega), Sort.partialIns, so_scan2 b xs (b - i) i _ (Nat.le_refl _) (by omega) (by omega)]
    have hg := so_scan2_ge Sort.ltInt xs.toArray b (b - i) i (Nat.le_refl _)
    generalize Sort.scanSorted Sort.ltInt xs.toArray b i = i' at *
    simp only
    by_cases e : i' = b
    · rw [if_pos (by omega), if_pos e, LR.on_ret]; rfl
    rw [if_neg (by omega), if_neg e]
    by_cases h50 : b - a < 50
    · rw [if_pos (by omega), if_pos h50, LR.on_ret]; rfl
    rw [if_neg (by omega), if_neg h50, Int.toNat_natCast, show ((i' : Int) - 1).toNat = i' - 1 by omega, so_swp]
    rw [show (xs.set i' (xs.getD (i' - 1) 0)).set (i' - 1) (xs.getD i' 0) = sw xs i' (i' - 1) from rfl]
    have e1 : (if (2 : Int) ≤ (i' : Int) - (a : Int) then (slices_partialInsertionSortOrdered_Id_l6 (i' - 1 + 1) ((i' : Int) - 1, sw xs i' (i' - 1))).2 else sw xs i' (i' - 1)) = (if i' - a ≥ 2 then Sort.shiftDown Sort.ltInt (i' - 1) (sw xs i' (i' - 1)).toArray else (sw xs i' (i' - 1)).toArray).toList := by
      by_cases h : i' - a ≥ 2
      · rw [if_pos (by omega), if_pos h, show (i' : Int) - 1 = ((i' - 1 : Nat) : Int) by omega, so_down _ _ _ (by omega)]
      · rw [if_neg (by omega), if_neg h]
    rw [e1]
    generalize (if i' - a ≥ 2 then Sort.shiftDown Sort.ltInt (i' - 1) (sw xs i' (i' - 1)).toArray else (sw xs i' (i' - 1)).toArray) = d
    by_cases hb : b - i' ≥ 2
    · rw [if_pos (by omega), if_pos hb, show (i' : Int) + 1 = ((i' + 1 : Nat) : Int) by omega, so_up b (b - (i' + 1)) (i' + 1) _ _ (Nat.le_refl _) (by omega) (by omega), Array.toArray_toList, show (5 : Int) - ((s + 1 : Nat) : Int) + 1 = 5 - (s : Int) by omega]
      have := so_part_l a b hab s m i' (Sort.shiftUp Sort.ltInt b (i' + 1) d).toList (by omega) (by omega) (by omega) (by omega)
      rw [Array.toArray_toList] at this
      exact this
    · rw [if_neg (by omega), if_neg hb, show (5 : Int) - ((s + 1 : Nat) : Int) + 1 = 5 - (s : Int) by omega]
      have := so_part_l a b hab s m i' d.toList (by omega) (by omega) (by omega) (by omega)
      rw [Array.toArray_toList] at this
      exact this
theorem so_part (xs : List Int) (a b : Nat) (hab : a < b) : slices_partialInsertionSortOrdered_Id_m xs (a : Int) (b : Int) = pairL (Sort.partialInsertionSort Sort.ltInt xs.toArray a b) := by
  unfold slices_partialInsertionSortOrdered_Id_m Sort.partialInsertionSort
  exact so_part_l a b hab 5 _ (a + 1) xs (by decide) (Nat.le_refl _) (by omega) (by decide)
/-- the two scans -/
theorem scanUp_le (p : Int → Bool) (d : Array Int) (j : Nat) : ∀ (k i : Nat), j + 1 - i ≤ k → i ≤ Sort.scanUp p d j i ∧ Sort.scanUp p d j i ≤ max i (j + 1)
  | k, i, h => by
    rw [Sort.scanUp]
    by_cases hi : (decide (i ≤ j) && p d[i]!) = true
    · rw [if_pos hi]
      have : i ≤ j := of_decide_eq_true (Bool.and_eq_true_iff.1 hi).1
      cases k with
      | zero => omega
      | succ k => have := scanUp_le p d j k (i + 1) (by omega); omega
    · rw [if_neg hi]; omega
theorem scanDown_le (p : Int → Bool) (d : Array Int) (i : Nat) (hi : 1 ≤ i) : ∀ (j : Nat), Sort.scanDown p d i j ≤ j ∧ (i - 1 ≤ j → i - 1 ≤ Sort.scanDown p d i j)
  | 0 => by rw [Sort.scanDown]; omega
  | j + 1 => by
    rw [Sort.scanDown]
    split
    · rename_i h
      have h1 : i ≤ j + 1 := of_decide_eq_true (Bool.and_eq_true_iff.1 h).1
      have := scanDown_le p d i hi j; omega
    · omega
theorem so_e3 (a j : Nat) (xs : List Int) : ∀ (k i m : Nat), j + 1 - i ≤ k → k < m → slices_partitionEqualOrdered_Id_l3 (a : Int) (j : Int) xs m (i : Int) = ((Sort.scanUp (fun x => !Sort.ltInt xs.toArray[a]! x) xs.toArray j i : Nat) : Int)
  | k, i, 0, _, h => by omega
  | k, i, m + 1, h1, h2 => by
    simp only [slices_partitionEqualOrdered_Id_l3, LR.seq_go, so_less, Int.toNat_natCast]
    rw [Sort.scanUp]
    simp only [so_get]
    rw [so_ifd, so_le]
    cases hb : (decide (i ≤ j) && !Sort.ltInt (xs.getD a 0) (xs.getD i 0)) with
    | false => rfl
    | true =>
      have : i ≤ j := of_decide_eq_true (Bool.and_eq_true_iff.1 hb).1
      rw [if_pos rfl, if_pos rfl]
      cases k with
      | zero => omega
      | succ k => have := so_e3 a j xs k (i + 1) m (by omega) (by omega); simp only [so_get] at this; exact this
theorem so_e5 (a i : Nat) (hi : 1 ≤ i) (xs : List Int) : ∀ (j m : Nat), j + 1 - i < m → slices_partitionEqualOrdered_Id_l5 (a : Int) (i : Int) xs m (j : Int) = ((Sort.scanDown (fun x => Sort.ltInt xs.toArray[a]! x) xs.toArray i j : Nat) : Int)
  | j, 0, h => by omega
  | 0, m + 1, h => by
    simp only [slices_partitionEqualOrdered_Id_l5, LR.seq_go]
    rw [so_ifd, show decide ((i : Int) ≤ ((0 : Nat) : Int)) = false from decide_eq_false (by omega), Bool.false_and, if_neg Bool.false_ne_true, Sort.scanDown]
  | j + 1, m + 1, h => by
    simp only [slices_partitionEqualOrdered_Id_l5, LR.seq_go, so_less, Int.toNat_natCast, tn1i]
    rw [Sort.scanDown]
    simp only [so_get]
    rw [so_ifd, so_le]
    cases hb : (decide (i ≤ j + 1) && Sort.ltInt (xs.getD a 0) (xs.getD (j + 1) 0)) with
    | false => rfl
    | true =>
      have hij : i ≤ j + 1 := of_decide_eq_true (Bool.and_eq_true_iff.1 hb).1
      rw [if_pos rfl, if_pos rfl]
      have := so_e5 a i hi xs j m (by omega); simp only [so_get] at this; exact this
def pairI2 (p : Nat × Array Int) : Int × List Int := ((p.1 : Int), p.2.toList)
theorem so_e2 (a : Nat) : ∀ (k i j m : Nat) (xs : List Int), j + 1 - i ≤ k → k < m → a + 1 ≤ i → i - 1 ≤ j + 1 → a ≤ j → slices_partitionEqualOrdered_Id_l2 (a : Int) m ((i : Int), (j : Int), xs) = pairI2 (Sort.partEqLoop Sort.ltInt a i j xs.toArray)
  | k, i, j, 0, xs, _, h, _, _, _ => by omega
  | k, i, j, m + 1, xs, h1, h2, h3, h4, h5 => by
    simp only [slices_partitionEqualOrdered_Id_l2, LR.seq_go]
    rw [Sort.partEqLoop, so_e3 a j xs (j + 1 - i) i _ (Nat.le_refl _) (by omega)]
    have hu := scanUp_le (fun x => !Sort.ltInt xs.toArray[a]! x) xs.toArray j (j + 1 - i) i (Nat.le_refl _)
    generalize hi2 : Sort.scanUp (fun x => !Sort.ltInt xs.toArray[a]! x) xs.toArray j i = i2 at *
    rw [so_e5 a i2 (by omega) xs j _ (by omega)]
    have hd := scanDown_le (fun x => Sort.ltInt xs.toArray[a]! x) xs.toArray i2 (by omega) j
    generalize hj2 : Sort.scanDown (fun x => Sort.ltInt xs.toArray[a]! x) xs.toArray i2 j = j2 at *
    by_cases hc : i2 > j2
    · rw [if_pos (by omega), if_pos hc]; rfl
    · rw [if_neg (by omega), if_neg hc, dif_pos (by omega), so_swp]
      simp only [Int.toNat_natCast]
      rw [show (j2 : Int) - 1 = ((j2 - 1 : Nat) : Int) by omega]
      cases k with
      | zero => omega
      | succ k => exact so_e2 a k (i2 + 1) (j2 - 1) m (sw xs i2 j2) (by omega) (by omega) (by omega) (by omega) (by omega)
theorem so_pe (xs : List Int) (a b p : Nat) (hab : a < b) : slices_partitionEqualOrdered_Id_m xs (a : Int) (b : Int) (p : Int) = pairI2 (Sort.partitionEqual Sort.ltInt xs.toArray a b p) := by
  unfold slices_partitionEqualOrdered_Id_m Sort.partitionEqual
  simp only [LR.seq_go, Int.toNat_natCast]
  rw [so_swp, show (b : Int) - 1 = ((b - 1 : Nat) : Int) by omega]
  exact so_e2 a (b - 1 + 1 - (a + 1)) (a + 1) (b - 1) _ (sw xs a p) (Nat.le_refl _) (by omega) (by omega) (by omega) (by omega)
theorem so_p8 (a j : Nat) (xs : List Int) : ∀ (k i m : Nat), j + 1 - i ≤ k → k < m → slices_partitionOrdered_Id_l8 (a : Int) (j : Int) xs m (i : Int) = ((Sort.scanUp (fun x => Sort.ltInt x xs.toArray[a]!) xs.toArray j i : Nat) : Int)
  | k, i, 0, _, h => by omega
  | k, i, m + 1, h1, h2 => by
    simp only [slices_partitionOrdered_Id_l8, LR.seq_go, so_less, Int.toNat_natCast]
    rw [Sort.scanUp]
    simp only [so_get]
    rw [so_ifd, so_le]
    cases hb : (decide (i ≤ j) && Sort.ltInt (xs.getD i 0) (xs.getD a 0)) with
    | false => rfl
    | true =>
      have : i ≤ j := of_decide_eq_true (Bool.and_eq_true_iff.1 hb).1
      rw [if_pos rfl, if_pos rfl]
      cases k with
      | zero => omega
      | succ k => have := so_p8 a j xs k (i + 1) m (by omega) (by omega); simp only [so_get] at this; exact this
theorem so_p10 (a i : Nat) (hi : 1 ≤ i) (xs : List Int) : ∀ (j m : Nat), j + 1 - i < m → slices_partitionOrdered_Id_l10 (a : Int) (i : Int) xs m (j : Int) = ((Sort.scanDown (fun x => !Sort.ltInt x xs.toArray[a]!) xs.toArray i j : Nat) : Int)
  | j, 0, h => by omega
  | 0, m + 1, h => by
    simp only [slices_partitionOrdered_Id_l10, LR.seq_go]
    rw [so_ifd, show decide ((i : Int) ≤ ((0 : Nat) : Int)) = false from decide_eq_false (by omega), Bool.false_and, if_neg Bool.false_ne_true, Sort.scanDown]
  | j + 1, m + 1, h => by
    simp only [slices_partitionOrdered_Id_l10, LR.seq_go, so_less, Int.toNat_natCast, tn1i]
    rw [Sort.scanDown]
    simp only [so_get]
    rw [so_ifd, so_le]
    cases hb : (decide (i ≤ j + 1) && !Sort.ltInt (xs.getD (j + 1) 0) (xs.getD a 0)) with
    | false => rfl
    | true =>
      have hij : i ≤ j + 1 := of_decide_eq_true (Bool.and_eq_true_iff.1 hb).1
      rw [if_pos rfl, if_pos rfl]
      have := so_p10 a i hi xs j m (by omega); simp only [so_get] at this; exact this
theorem so_p2 (a b : Nat) (hb0 : 1 ≤ b) (xs : List Int) : ∀ (k i m : Nat), b - 1 + 1 - i ≤ k → k < m → slices_partitionOrdered_Id_l2 (a : Int) (b : Int) xs m (i : Int) = ((Sort.scanUp (fun x => Sort.ltInt x xs.toArray[a]!) xs.toArray (b - 1) i : Nat) : Int)
  | k, i, 0, _, h => by omega
  | k, i, m + 1, h1, h2 => by
    simp only [slices_partitionOrdered_Id_l2, LR.seq_go, so_less, Int.toNat_natCast]
    rw [Sort.scanUp]
    simp only [so_get]
    rw [so_ifd, show decide ((i : Int) ≤ (b : Int) - 1) = decide (i ≤ b - 1) by rw [decide_eq_decide]; omega]
    cases hb : (decide (i ≤ b - 1) && Sort.ltInt (xs.getD i 0) (xs.getD a 0)) with
    | false => rfl
    | true =>
      have : i ≤ b - 1 := of_decide_eq_true (Bool.and_eq_true_iff.1 hb).1
      rw [if_pos rfl, if_pos rfl]
      cases k with
      | zero => omega
      | succ k => have := so_p2 a b hb0 xs k (i + 1) m (by omega) (by omega); simp only [so_get] at this; exact this
theorem so_p4 (a i : Nat) (hi : 1 ≤ i) (xs : List Int) : ∀ (j m : Nat), j + 1 - i < m → slices_partitionOrdered_Id_l4 (a : Int) (i : Int) xs m (j : Int) = ((Sort.scanDown (fun x => !Sort.ltInt x xs.toArray[a]!) xs.toArray i j : Nat) : Int)
  | j, 0, h => by omega
  | 0, m + 1, h => by
    simp only [slices_partitionOrdered_Id_l4, LR.seq_go]
    rw [so_ifd, show decide ((i : Int) ≤ ((0 : Nat) : Int)) = false from decide_eq_false (by omega), Bool.false_and, if_neg Bool.false_ne_true, Sort.scanDown]
  | j + 1, m + 1, h => by
    simp only [slices_partitionOrdered_Id_l4, LR.seq_go, so_less, Int.toNat_natCast, tn1i]
    rw [Sort.scanDown]
    simp only [so_get]
    rw [so_ifd, so_le]
    cases hb : (decide (i ≤ j + 1) && !Sort.ltInt (xs.getD (j + 1) 0) (xs.getD a 0)) with
    | false => rfl
    | true =>
      have hij : i ≤ j + 1 := of_decide_eq_true (Bool.and_eq_true_iff.1 hb).1
      rw [if_pos rfl, if_pos rfl]
      have := so_p4 a i hi xs j m (by omega); simp only [so_get] at this; exact this
theorem so_p7 (a : Nat) : ∀ (k i j m : Nat) (xs : List Int), j + 1 - i ≤ k → k < m → a + 1 ≤ i → i - 1 ≤ j + 1 → a ≤ j → slices_partitionOrdered_Id_l7 (a : Int) m ((i : Int), (j : Int), xs) = pairI2 (Sort.partLoop Sort.ltInt a i j xs.toArray)
  | k, i, j, 0, xs, _, h, _, _, _ => by omega
  | k, i, j, m + 1, xs, h1, h2, h3, h4, h5 => by
    simp only [slices_partitionOrdered_Id_l7, LR.seq_go]
    rw [Sort.partLoop, so_p8 a j xs (j + 1 - i) i _ (Nat.le_refl _) (by omega)]
    have hu := scanUp_le (fun x => Sort.ltInt x xs.toArray[a]!) xs.toArray j (j + 1 - i) i (Nat.le_refl _)
    generalize hi2 : Sort.scanUp (fun x => Sort.ltInt x xs.toArray[a]!) xs.toArray j i = i2 at *
    rw [so_p10 a i2 (by omega) xs j _ (by omega)]
    have hd := scanDown_le (fun x => !Sort.ltInt x xs.toArray[a]!) xs.toArray i2 (by omega) j
    generalize hj2 : Sort.scanDown (fun x => !Sort.ltInt x xs.toArray[a]!) xs.toArray i2 j = j2 at *
    by_cases hc : i2 > j2
    · rw [if_pos (by omega), if_pos hc]; rfl
    · rw [if_neg (by omega), if_neg hc, dif_pos (by omega), so_swp]
      simp only [Int.toNat_natCast]
      rw [show (j2 : Int) - 1 = ((j2 - 1 : Nat) : Int) by omega]
      cases k with
      | zero => omega
      | succ k => exact so_p7 a k (i2 + 1) (j2 - 1) m (sw xs i2 j2) (by omega) (by omega) (by omega) (by omega) (by omega)
def trip (p : Nat × Bool × Array Int) : Int × Bool × List Int := ((p.1 : Int), p.2.1, p.2.2.toList)
theorem so_pp (xs : List Int) (a b p : Nat) (hab : a < b) : slices_partitionOrdered_Id_m xs (a : Int) (b : Int) (p : Int) = trip (Sort.partition Sort.ltInt xs.toArray a b p) := by
  unfold slices_partitionOrdered_Id_m Sort.partition
  simp only [LR.seq_go, Int.toNat_natCast]
  rw [so_swp, show (xs.set a (xs.getD p 0)).set p (xs.getD a 0) = sw xs a p from rfl, show (a : Int) + 1 = ((a + 1 : Nat) : Int) by omega, so_p2 a b (by omega) (sw xs a p) (b - 1 + 1 - (a + 1)) (a + 1) _ (Nat.le_refl _) (by omega)]
  have hu := scanUp_le (fun x => Sort.ltInt x (sw xs a p).toArray[a]!) (sw xs a p).toArray (b - 1) (b - 1 + 1 - (a + 1)) (a + 1) (Nat.le_refl _)
  generalize Sort.scanUp (fun x => Sort.ltInt x (sw xs a p).toArray[a]!) (sw xs a p).toArray (b - 1) (a + 1) = i at *
  rw [show (b : Int) - 1 = ((b - 1 : Nat) : Int) by omega, so_p4 a i (by omega) (sw xs a p) (b - 1) _ (by omega)]
  have hd := scanDown_le (fun x => !Sort.ltInt x (sw xs a p).toArray[a]!) (sw xs a p).toArray i (by omega) (b - 1)
  generalize Sort.scanDown (fun x => !Sort.ltInt x (sw xs a p).toArray[a]!) (sw xs a p).toArray i (b - 1) = j at *
  generalize sw xs a p = ys at *
  by_cases hc : i > j
  · rw [if_pos (by omega), if_pos hc, Int.toNat_natCast, so_swp]; rfl
  · rw [if_neg (by omega), if_neg hc, so_swp]
    simp only [Int.toNat_natCast]
    rw [show (ys.set i (ys.getD j 0)).set j (ys.getD i 0) = sw ys i j from rfl, show (j : Int) - 1 = ((j - 1 : Nat) : Int) by omega, show (i : Int) + 1 = ((i + 1 : Nat) : Int) by omega, so_p7 a (j - 1 + 1 - (i + 1)) (i + 1) (j - 1) _ (sw ys i j) (Nat.le_refl _) (by omega) (by omega) (by omega) (by omega)]
    generalize Sort.partLoop Sort.ltInt a (i + 1) (j - 1) (sw ys i j).toArray = r
    obtain ⟨r1, r2⟩ := r
    obtain ⟨zs, rfl⟩ : ∃ zs : List Int, r2 = zs.toArray := ⟨r2.toList, (Array.toArray_toList).symm⟩
    simp only [pairI2, trip, Int.toNat_natCast]
    rw [so_swp]; rfl
end Go.SX

set_option linter.unusedVariables false
set_option linter.unusedSimpArgs false
namespace Go.SX
open Go
theorem so_o2 (xs : List Int) (a b s : Nat) : slices_order2Ordered_Id_m xs (a : Int) (b : Int) (s : Int) = (((Sort.order2 Sort.ltInt xs.toArray a b s).1 : Int), ((Sort.order2 Sort.ltInt xs.toArray a b s).2.1 : Int), xs, ((Sort.order2 Sort.ltInt xs.toArray a b s).2.2 : Int)) := by
  unfold slices_order2Ordered_Id_m Sort.order2
  rw [LR.seq_go, so_less, Int.toNat_natCast, Int.toNat_natCast, so_get, so_get]
  split <;> rfl
theorem so_med (xs : List Int) (a b c s : Nat) : slices_medianOrdered_Id_m xs (a : Int) (b : Int) (c : Int) (s : Int) = (((Sort.median Sort.ltInt xs.toArray a b c s).1 : Int), xs, ((Sort.median Sort.ltInt xs.toArray a b c s).2 : Int)) := by
  unfold slices_medianOrdered_Id_m Sort.median
  simp only [LR.seq_go, so_o2]
theorem so_madj (xs : List Int) (a s : Nat) (ha : 1 ≤ a) : slices_medianAdjacentOrdered_Id_m xs (a : Int) (s : Int) = (((Sort.medianAdjacent Sort.ltInt xs.toArray a s).1 : Int), xs, ((Sort.medianAdjacent Sort.ltInt xs.toArray a s).2 : Int)) := by
  unfold slices_medianAdjacentOrdered_Id_m Sort.medianAdjacent
  rw [show (a : Int) - 1 = ((a - 1 : Nat) : Int) by omega, show (a : Int) + 1 = ((a + 1 : Nat) : Int) by omega, LR.seq_go, so_med]
def hintN : Sort.Hint → Int
  | .unknown => 0
  | .increasing => 1
  | .decreasing => 2
theorem so_choose (xs : List Int) (a b : Nat) (hab : a + 12 < b) : slices_choosePivotOrdered_Id_m xs (a : Int) (b : Int) = (((Sort.choosePivot Sort.ltInt xs.toArray a b).1 : Int), hintN (Sort.choosePivot Sort.ltInt xs.toArray a b).2, xs) := by
  have key : ∀ (p s : Nat), (if ((s : Nat) : Int) = 0 then (((p : Int), (1 : Int), xs) : Int × Int × List Int) else (if ((s : Nat) : Int) = 12 then ((p : Int), 2, xs) else ((p : Int), 0, xs))) = ((p : Int), hintN (if s = 0 then .increasing else if s = 12 then .decreasing else .unknown), xs) := fun p s => by
    by_cases h0 : s = 0
    · rw [if_pos (by omega), if_pos h0]; rfl
    · rw [if_neg (by omega), if_neg h0]
      by_cases h1 : s = 12
      · rw [if_pos (by omega), if_pos h1]; rfl
      · rw [if_neg (by omega), if_neg h1]; rfl
  unfold slices_choosePivotOrdered_Id_m Sort.choosePivot
  rw [if_pos (show (8 : Int) ≤ (b : Int) - (a : Int) by omega)]
  simp only [LR.seq_go]
  rw [if_pos (show b - a ≥ 8 by omega)]
  have e1 : (a : Int) + ((b : Int) - (a : Int)) / 4 * 1 = ((a + (b - a) / 4 * 1 : Nat) : Int) := by omega
  have e2 : (a : Int) + ((b : Int) - (a : Int)) / 4 * 2 = ((a + (b - a) / 4 * 2 : Nat) : Int) := by omega
  have e3 : (a : Int) + ((b : Int) - (a : Int)) / 4 * 3 = ((a + (b - a) / 4 * 3 : Nat) : Int) := by omega
  rw [e1, e2, e3]
  by_cases h50 : b - a ≥ 50
  · rw [if_pos (show (50 : Int) ≤ (b : Int) - (a : Int) by omega), if_pos h50]
    rw [show (0 : Int) = ((0 : Nat) : Int) from rfl, so_madj _ _ _ (by omega)]
    simp only
    rw [so_madj _ _ _ (by omega)]
    simp only
    rw [so_madj _ _ _ (by omega)]
    simp only
    rw [so_med]
    exact key _ _
  · rw [if_neg (show ¬ (50 : Int) ≤ (b : Int) - (a : Int) by omega), if_neg h50]
    simp only
    rw [show (0 : Int) = ((0 : Nat) : Int) from rfl, so_med]
    exact key _ _
theorem so_next (r : UInt64) : _slices_xorshift__Next_m (r.toNat : Int) = (((Sort.xorNext r).toNat : Int), ((Sort.xorNext r).toNat : Int)) := by
  have x0 : r.toNat < 18446744073709551616 := r.toNat_lt
  have bx : ∀ u v : Nat, u < 18446744073709551616 → v < 18446744073709551616 → bxor .u64 (u : Int) (v : Int) = ((u ^^^ v : Nat) : Int) := fun u v hu hv => bits_xor_u64_nat u v hu hv
  have lt : ∀ u v : Nat, u < 18446744073709551616 → v < 18446744073709551616 → u ^^^ v < 18446744073709551616 := fun u v hu hv => Nat.xor_lt_two_pow (n := 64) hu hv
  have s13 : ∀ u : Nat, bshl .u64 (u : Int) 13 = ((u * 8192 % 18446744073709551616 : Nat) : Int) := fun u => by
    show IntKind.u64.wrap ((u : Int) * 8192) = _
    rw [IntKind.wrap_u64]; omega
  have s17 : ∀ u : Nat, bshl .u64 (u : Int) 17 = ((u * 131072 % 18446744073709551616 : Nat) : Int) := fun u => by
    show IntKind.u64.wrap ((u : Int) * 131072) = _
    rw [IntKind.wrap_u64]; omega
  have s7 : ∀ u : Nat, bshr .u64 (u : Int) 7 = ((u / 128 : Nat) : Int) := fun u => by
    show (u : Int).fdiv 128 = _
    rw [Int.fdiv_eq_ediv_of_nonneg _ (by decide)]; omega
  unfold _slices_xorshift__Next_m
  simp only [LR.seq_go, Sort.xorNext_toNat, Sort.xorNextN]
  generalize r.toNat = x at *
  rw [s13, bx x _ x0 (by omega)]
  have x1 := lt x (x * 8192 % 18446744073709551616) x0 (by omega)
  generalize x ^^^ (x * 8192 % 18446744073709551616) = y at *
  rw [s7, bx y _ x1 (by omega)]
  have x2 := lt y (y / 128) x1 (by omega)
  generalize y ^^^ (y / 128) = z at *
  rw [s17, bx z _ x2 (by omega)]
theorem so_bstep (a b : Nat) (hab : a + 8 ≤ b) (hb : b ≤ 4000000) (i m : Nat) (hi : i ≤ a + (b - a) / 4 * 2 + 1) (r : UInt64) (xs : List Int) :
    slices_breakPatternsOrdered_Id_l1 (a : Int) (b : Int) (m + 1) ((i : Int), (r.toNat : Int), xs) = slices_breakPatternsOrdered_Id_l1 (a : Int) (b : Int) m (((i + 1 : Nat) : Int), ((Sort.breakStep a (b - a) (1 <<< Sort.bitsLen (b - a)) (r, xs.toArray) i).1.toNat : Int), (Sort.breakStep a (b - a) (1 <<< Sort.bitsLen (b - a)) (r, xs.toArray) i).2.toList) := by
  simp only [slices_breakPatternsOrdered_Id_l1, LR.seq_go, so_next, Int.toNat_natCast]
  rw [if_pos (by omega), show (b : Int) - (a : Int) = ((b - a : Nat) : Int) by omega, npow_eq _ (by omega)]
  have h1 := Sort.two_pow_bitsLen_le (n := b - a) (by omega)
  have h0 : 0 < 2 ^ Sort.bitsLen (b - a) := Nat.two_pow_pos _
  unfold Sort.breakStep
  simp only
  rw [Nat.one_shiftLeft]
  generalize 2 ^ Sort.bitsLen (b - a) = M at h0 h1
  have hr : (Sort.xorNext r).toNat < 18446744073709551616 := (Sort.xorNext r).toNat_lt
  generalize Sort.xorNext r = r2 at *
  have e : IntKind.u64.wrap ((M : Int) - 1) = ((M - 1 : Nat) : Int) := by rw [wrap_u64 ⟨by omega, by omega⟩]; omega
  have eb : band .u64 (r2.toNat : Int) ((M - 1 : Nat) : Int) = ((r2.toNat &&& (M - 1) : Nat) : Int) := bits_and_u64_nat _ _ hr (by omega)
  rw [e, eb]
  generalize r2.toNat &&& (M - 1) = o
  have eo : (if ((b - a : Nat) : Int) ≤ (o : Int) then (o : Int) - ((b - a : Nat) : Int) else (o : Int)) = ((if o ≥ b - a then o - (b - a) else o : Nat) : Int) := by
    by_cases h : o ≥ b - a
    · rw [if_pos (by omega), if_pos h]; omega
    · rw [if_neg (by omega), if_neg h]
  rw [eo]
  generalize (if o ≥ b - a then o - (b - a) else o) = q
  rw [show ((a : Int) + (q : Int)).toNat = a + q by omega, so_swp]
  rfl
theorem so_break (xs : List Int) (a b : Nat) (hab : a + 12 < b) (hb : b ≤ 4000000) : slices_breakPatternsOrdered_Id_m xs (a : Int) (b : Int) = (Sort.breakPatterns xs.toArray a b).toList := by
  unfold slices_breakPatternsOrdered_Id_m Sort.breakPatterns
  rw [if_pos (by omega)]
  simp only
  rw [if_pos (show b - a ≥ 8 by omega), LR.seq_go]
  have e0 : (a : Int) + ((b : Int) - (a : Int)) / 4 * 2 - 1 = ((a + (b - a) / 4 * 2 - 1 : Nat) : Int) := by omega
  have em : ((a : Int) + ((b : Int) - (a : Int)) / 4 * 2 + 2 - ((a + (b - a) / 4 * 2 - 1 : Nat) : Int)).toNat + 1 = 4 := by omega
  have er : (b : Int) - (a : Int) = ((UInt64.ofNat (b - a)).toNat : Int) := by
    rw [UInt64.toNat_ofNat']; omega
  rw [e0, em]
  conv => lhs; rw [show ((b : Int) - (a : Int)) = ((UInt64.ofNat (b - a)).toNat : Int) from er]
  rw [so_bstep a b (by omega) hb _ 3 (by omega), so_bstep a b (by omega) hb _ 2 (by omega), so_bstep a b (by omega) hb _ 1 (by omega)]
  simp only [Array.toArray_toList]
  rw [slices_breakPatternsOrdered_Id_l1, if_neg (by simp only; omega)]
theorem partEq_rng (lt : Int → Int → Bool) (a : Nat) : ∀ (k i j : Nat) (d : Array Int), j + 1 - i ≤ k → 1 ≤ i → i ≤ (Sort.partEqLoop lt a i j d).1 ∧ (Sort.partEqLoop lt a i j d).1 ≤ max i (j + 1)
  | k, i, j, d, h, h1 => by
    rw [Sort.partEqLoop]
    have hu := scanUp_le (fun x => !lt d[a]! x) d j (j + 1 - i) i (Nat.le_refl _)
    generalize Sort.scanUp (fun x => !lt d[a]! x) d j i = i2 at *
    have hd := scanDown_le (fun x => lt d[a]! x) d i2 (by omega) j
    generalize Sort.scanDown (fun x => lt d[a]! x) d i2 j = j2 at *
    by_cases hc : i2 > j2
    · rw [if_pos hc]; exact ⟨hu.1, hu.2⟩
    · rw [if_neg hc]
      split
      · cases k with
        | zero => omega
        | succ k => have := partEq_rng lt a k (i2 + 1) (j2 - 1) (Sort.swp d i2 j2) (by omega) (by omega); omega
      · exact ⟨hu.1, hu.2⟩
theorem peq_f (xs : List Int) (a b p : Int) (r : Int × List Int) (e : r = slices_partitionEqualOrdered_Id_m xs a b p) (h : 0 ≤ a ∧ a < b ∧ 0 ≤ p) : a < r.1 ∧ r.1 ≤ b := by
  obtain ⟨a, rfl⟩ : ∃ n : Nat, a = n := ⟨a.toNat, by omega⟩
  obtain ⟨b, rfl⟩ : ∃ n : Nat, b = n := ⟨b.toNat, by omega⟩
  obtain ⟨p, rfl⟩ : ∃ n : Nat, p = n := ⟨p.toNat, by omega⟩
  rw [e, so_pe xs a b p (by omega)]
  unfold Sort.partitionEqual
  have := partEq_rng Sort.ltInt a (b - 1 + 1 - (a + 1)) (a + 1) (b - 1) (Sort.swp xs.toArray a p) (Nat.le_refl _) (by omega)
  simp only [pairI2]
  omega
theorem pp_f (xs : List Int) (a b p : Int) (r : Int × Bool × List Int) (e : r = slices_partitionOrdered_Id_m xs a b p) (h : 0 ≤ a ∧ a ≤ p ∧ p < b ∧ b ≤ (xs.length : Int)) : a ≤ r.1 ∧ r.1 < b := by
  obtain ⟨a, rfl⟩ : ∃ n : Nat, a = n := ⟨a.toNat, by omega⟩
  obtain ⟨b, rfl⟩ : ∃ n : Nat, b = n := ⟨b.toNat, by omega⟩
  obtain ⟨p, rfl⟩ : ∃ n : Nat, p = n := ⟨p.toNat, by omega⟩
  rw [e, so_pp xs a b p (by omega)]
  have := Sort.partition_holds Sort.ltInt Sort.swo_ltInt xs.toArray a b p (by omega) (by omega) (by simp; omega)
  simp only [trip]
  omega
end Go.SX

set_option linter.unusedVariables false
set_option linter.unusedSimpArgs false
namespace Go.SX
open Go Go.Proofs

def pdqStep_l1 (srt : List Int → Int → Int → Int → List Int) : Nat → (Int × Int × Int × Bool × Bool × (List Int)) → LR ((List Int)) (Unit)
  | 0, _ => .go default
  | ml1 + 1, sl1 => if ((sl1.2.1 - sl1.1) : Int) ≤ 12 then (LR.seq (slices_insertionSortOrdered_Id_m sl1.2.2.2.2.2 sl1.1 sl1.2.1) (fun r27 => .ret r27)) else (if sl1.2.2.1 = 0 then (LR.seq (slices_heapSortOrdered_Id_m sl1.2.2.2.2.2 sl1.1 sl1.2.1) (fun r33 => .ret r33)) else (LR.seq (if (!sl1.2.2.2.1) = true then (LR.seq (slices_breakPatternsOrdered_Id_m sl1.2.2.2.2.2 sl1.1 sl1.2.1) (fun r39 => ((sl1.2.2.1 - 1), r39))) else ((sl1.2.2.1, sl1.2.2.2.2.2)) : Int × (List Int)) (fun sc2 => LR.seq (slices_choosePivotOrdered_Id_m sc2.2 sl1.1 sl1.2.1) (fun r46 => LR.seq (if r46.2.1 = 2 then (LR.seq (slices_reverseRangeOrdered_Id_m r46.2.2 sl1.1 sl1.2.1) (fun r54 => (((sl1.2.1 - 1) - (r46.1 - sl1.1)), 1, r54))) else ((r46.1, r46.2.1, r46.2.2)) : Int × Int × (List Int)) (fun sc3 => LR.seq (if sl1.2.2.2.1 = true then (if sl1.2.2.2.2.1 = true then ((decide (sc3.2.1 = 1))) else false) else false : Bool) (fun sc4 => LR.on (if sc4 = true then (LR.seq (slices_partialInsertionSortOrdered_Id_m sc3.2.2 sl1.1 sl1.2.1) (fun r72 => if r72.1 = true then (.ret (.ret r72.2)) else (.go r72.2))) else (.go sc3.2.2) : LR (LR ((List Int)) (Unit)) ((List Int))) (fun r => r) (fun sc5 => LR.seq (if (0 : Int) < sl1.1 then ((!(cmp_Less_Id_m (sc5.getD (((sl1.1 - 1)).toNat) (0 : Int)) (sc5.getD sc3.1.toNat (0 : Int))))) else false : Bool) (fun sc6 => if sc6 = true then (LR.seq (slices_partitionEqualOrdered_Id_m sc5 sl1.1 sl1.2.1 sc3.1) (fun r92 => pdqStep_l1 srt ml1 ((r92.1, sl1.2.1, sc2.1, sl1.2.2.2.1, sl1.2.2.2.2.1, r92.2)))) else (LR.seq (slices_partitionOrdered_Id_m sc5 sl1.1 sl1.2.1 sc3.1) (fun r99 => if ((r99.1 - sl1.1) : Int) < (sl1.2.1 - r99.1) then (LR.seq (srt r99.2.2 sl1.1 r99.1 sc2.1) (fun r121 => pdqStep_l1 srt ml1 (((r99.1 + 1), sl1.2.1, sc2.1, (decide ((((sl1.2.1 - sl1.1) / 8) : Int) ≤ (r99.1 - sl1.1))), r99.2.1, r121)))) else (LR.seq (srt r99.2.2 ((r99.1 + 1)) sl1.2.1 sc2.1) (fun r132 => pdqStep_l1 srt ml1 ((sl1.1, r99.1, sc2.1, (decide ((((sl1.2.1 - sl1.1) / 8) : Int) ≤ (sl1.2.1 - r99.1))), r99.2.1, r132))))))))))))))
def pdqStep_m (srt : List Int → Int → Int → Int → List Int) (a0 : List Int) (a1 : Int) (a2 : Int) (a3 : Int) : (List Int) :=
  LR.on (pdqStep_l1 srt ((a2 - a1).toNat + 1) ((a1, a2, a3, true, true, a0))) (fun r => r) (fun _ => default)
set_option maxHeartbeats 3200000 in
theorem pdqStep_c (H : Heap) (va0 : Value) (a0 : List Int) (Ca0 : Chunk) (ha0 : OwnS (intE .u64) 26 H va0 a0 Ca0) (a1 : Int) (a2 : Int) (a3 : Int) (N : Nat) (srt : List Int → Int → Int → Int → List Int) (ih : ∀ (H : Heap) (v0 : Value) (xs : List Int) (C : Chunk), OwnS (intE .u64) 26 H v0 xs C → ∀ (a b lim : Int), 0 ≤ a → a ≤ b → b ≤ (xs.length : Int) → xs.length ≤ 4000000 → 0 ≤ lim → lim ≤ 100 → b - a < (N : Int) → Fc Try.prog (fnv 66) [v0, .int .i64 a, .int .i64 b, .int .i64 lim] H [C] (fun v1 H1 L1 => ∃ D, v1 = .tuple #[] ∧ L1 = [D] ∧ OwnS (intE .u64) 26 H1 v0 (srt xs a b lim) D)) (h1 : 0 ≤ a1) (h2 : a1 ≤ a2) (h3 : a2 ≤ (a0.length : Int)) (hl : a0.length ≤ 4000000) (h5 : 0 ≤ a3) (h6 : a3 ≤ 100) (hN : a2 - a1 ≤ (N : Int)) : Fc Try.prog (fnv 66) [va0, .int .i64 a1, .int .i64 a2, .int .i64 a3] H [Ca0] (fun v' H' L' => ∃ Da0, v' = .tuple #[] ∧ L' = [Da0] ∧ OwnS (intE .u64) 26 H' va0 (pdqStep_m srt a0 a1 a2 a3) Da0) := by
  refine Fc.of_body (N := 134) Try.func66 rfl (by kernel_rfl) rfl rfl ?_
  intro w0
  obtain ⟨Aa0, pa0, rfl, ma0, na0⟩ := OwnS.shape ha0
  refine T.seq ?_
  refine T.region ?_
  refine R.asE rfl (by conv => lhs; whnf) ?_
  refine TL.nil (Post.thnN ?_)
  refine T.seq ?_
  refine T.region ?_
  refine R.asE rfl (by conv => lhs; whnf) ?_
  refine TL.nil (Post.thnN ?_)
  refine T.block ?_
  refine T.loop (ι := Nat × Int × Int × Int × Bool × Bool × (List Int) × Chunk) (fun ⟨kl1, n1l1, n2l1, n3l1, b8l1, b9l1, xPa0l1, cPa0l1⟩ H' L' ds' => (n2l1 - n1l1).toNat < kl1 ∧ Has L' [cPa0l1] ∧ OwnS (intE .u64) 26 H' (.slice Aa0 a0.length pa0) xPa0l1 cPa0l1 ∧ 0 ≤ n1l1 ∧ n1l1 ≤ n2l1 ∧ n2l1 ≤ (a0.length : Int) ∧ 0 ≤ n3l1 ∧ n3l1 ≤ 100 ∧ n2l1 - n1l1 ≤ (N : Int) ∧ pdqStep_l1 srt kl1 ((n1l1, n2l1, n3l1, b8l1, b9l1, xPa0l1)) = pdqStep_l1 srt ((a2 - a1).toNat + 1) ((a1, a2, a3, true, true, a0))) (fun ⟨kl1, n1l1, n2l1, n3l1, b8l1, b9l1, xPa0l1, cPa0l1⟩ => [(0, .slice Aa0 a0.length pa0), (1, .int .i64 n1l1), (2, .int .i64 n2l1), (3, .int .i64 n3l1), (8, .bool (b8l1)), (9, .bool (b9l1))]) (fun ⟨kl1, n1l1, n2l1, n3l1, b8l1, b9l1, xPa0l1, cPa0l1⟩ => kl1) (((a2 - a1).toNat + 1), a1, a2, a3, true, true, a0, Ca0) ?_ ?_ ?_
  · exact ⟨(by omega), (Has.cons .hd Has.nil), ha0, (by first | omega | (simp; done) | (simp; omega) | (simp at *; omega)), (by first | omega | (simp; done) | (simp; omega) | (simp at *; omega)), (by first | omega | (simp; done) | (simp; omega) | (simp at *; omega)), (by first | omega | (simp; done) | (simp; omega) | (simp at *; omega)), (by first | omega | (simp; done) | (simp; omega) | (simp at *; omega)), (by first | omega | (simp; done) | (simp; omega) | (simp at *; omega)), (by rfl)⟩
  · exact ⟨rfl, rfl, rfl, rfl, rfl, rfl, trivial⟩
  intro ⟨kl1, n1l1, n2l1, n3l1, b8l1, b9l1, xPa0l1, cPa0l1⟩ σ_l1 H_l1 L_l1 ds_l1 s_l1 hI_l1
  obtain ⟨hkl1, hI_l1⟩ := hI_l1
  obtain ⟨ml1, rfl⟩ : ∃ m, kl1 = m + 1 := ⟨kl1 - 1, by omega⟩
  obtain ⟨hLl1, wPa0l1, hBl1_0, hBl1_1, hBl1_2, hBl1_3, hBl1_4, hBl1_5, hQl1⟩ := hI_l1
  have nPa0l1_ := OwnS.len wPa0l1
  refine T.has hLl1 ?_
  refine T.block ?_
  refine T.seq ?_
  refine T.region ?_
  refine R.mvE rfl (by conv => lhs; whnf) ?_
  refine R.mvE rfl (by conv => lhs; whnf) ?_
  refine R.subI rfl rfl rfl (by omega) ?_
  refine R.asE rfl (by conv => lhs; whnf) ?_
  refine TL.nil (Post.thnN ?_)
  refine T.seq ?_
  refine T.seq ?_
  refine T.region ?_
  refine R.mvE rfl (by conv => lhs; whnf) ?_
  refine R.leq rfl rfl rfl ?_
  refine TL.nil (Post.thnN ?_)
  refine T.condD rfl (fun c23 => ?_) (fun c23 => ?_)
  · refine T.set 23 (.bool true) (congrArg Value.bool (decide_eq_true c23)) ?_
    refine T.seq ?_
    refine T.region ?_
    refine R.mvE rfl (by conv => lhs; whnf) ?_
    refine R.mvE rfl (by conv => lhs; whnf) ?_
    refine R.mvE rfl (by conv => lhs; whnf) ?_
    obtain ⟨r27, er27⟩ : ∃ r, r = (slices_insertionSortOrdered_Id_m xPa0l1 n1l1 n2l1) := ⟨_, rfl⟩
    refine TL.call [true] rfl rfl rfl (slices_insertionSortOrdered_Id_c _ _ xPa0l1 _ wPa0l1 (n1l1) (n2l1) (by first | omega | (simp; done) | (simp; omega) | (simp at *; omega)) (by first | omega | (simp; done) | (simp; omega) | (simp at *; omega)) (by first | omega | (simp; done) | (simp; omega) | (simp at *; omega)) (by first | omega | (simp; done) | (simp; omega) | (simp at *; omega))) ?_
    intro v27 H27 L27 s27 q27
    rw [← er27] at q27
    obtain ⟨D27_a0, rfl, rfl, w27_a0⟩ := q27
    have n27_a0_ := OwnS.len w27_a0
    refine TL.nil (Post.thnN ?_)
    refine T.has (Has.cons .hd Has.nil) ?_
    refine T.ret (Post.thnR (Post.blkR (Post.thnR (Post.blkR ?_))))
    have hXl1 : pdqStep_l1 srt ((a2 - a1).toNat + 1) ((a1, a2, a3, true, true, a0)) = .ret r27 := by subst er27; rw [← hQl1, pdqStep_l1]; rw [if_pos c23, LR.seq_go]
    have hM : pdqStep_m srt a0 a1 a2 a3 = r27 := by rw [pdqStep_m, hXl1, LR.on_ret]
    exact fin0L [D27_a0] rfl (List.Sublist.refl _) ⟨D27_a0, by first | rw [hM] | rfl, by first | rw [hM] | rfl, by rw [hM]; exact w27_a0⟩
  refine T.set 23 (.bool false) (congrArg Value.bool (decide_eq_false c23)) ?_
  refine T.skip (Post.thnN ?_)
  refine T.seq ?_
  refine T.seq ?_
  refine T.region ?_
  refine R.mvE rfl (by conv => lhs; whnf) ?_
  refine R.eql rfl rfl rfl ?_
  refine TL.nil (Post.thnN ?_)
  refine T.condD rfl (fun c29 => ?_) (fun c29 => ?_)
  · refine T.set 29 (.bool true) (congrArg Value.bool (decide_eq_true c29)) ?_
    refine T.seq ?_
    refine T.region ?_
    refine R.mvE rfl (by conv => lhs; whnf) ?_
    refine R.mvE rfl (by conv => lhs; whnf) ?_
    refine R.mvE rfl (by conv => lhs; whnf) ?_
    obtain ⟨r33, er33⟩ : ∃ r, r = (slices_heapSortOrdered_Id_m xPa0l1 n1l1 n2l1) := ⟨_, rfl⟩
    refine TL.call [true] rfl rfl rfl (slices_heapSortOrdered_Id_c _ _ xPa0l1 _ wPa0l1 (n1l1) (n2l1) (by first | omega | (simp; done) | (simp; omega) | (simp at *; omega)) (by first | omega | (simp; done) | (simp; omega) | (simp at *; omega)) (by first | omega | (simp; done) | (simp; omega) | (simp at *; omega)) (by first | omega | (simp; done) | (simp; omega) | (simp at *; omega))) ?_
    intro v33 H33 L33 s33 q33
    rw [← er33] at q33
    obtain ⟨D33_a0, rfl, rfl, w33_a0⟩ := q33
    have n33_a0_ := OwnS.len w33_a0
    refine TL.nil (Post.thnN ?_)
    refine T.has (Has.cons .hd Has.nil) ?_
    refine T.ret (Post.thnR (Post.blkR (Post.thnR (Post.blkR ?_))))
    have hXl1 : pdqStep_l1 srt ((a2 - a1).toNat + 1) ((a1, a2, a3, true, true, a0)) = .ret r33 := by subst er33; rw [← hQl1, pdqStep_l1]; rw [if_neg c23, if_pos c29, LR.seq_go]
    have hM : pdqStep_m srt a0 a1 a2 a3 = r33 := by rw [pdqStep_m, hXl1, LR.on_ret]
    exact fin0L [D33_a0] rfl (List.Sublist.refl _) ⟨D33_a0, by first | rw [hM] | rfl, by first | rw [hM] | rfl, by rw [hM]; exact w33_a0⟩
  refine T.set 29 (.bool false) (congrArg Value.bool (decide_eq_false c29)) ?_
  refine T.skip (Post.thnN ?_)
  refine T.seq ?_
  refine T.seq ?_
  refine T.region ?_
  refine R.mvE rfl (by conv => lhs; whnf) ?_
  refine R.not rfl rfl ?_
  refine TL.nil (Post.thnN ?_)
  refine T.cutK (ι := Int × (List Int) × Chunk) (fun ⟨n3c2, xPa0c2, cPa0c2⟩ H' L' ds' => Has L' [cPa0c2] ∧ OwnS (intE .u64) 26 H' (.slice Aa0 a0.length pa0) xPa0c2 cPa0c2 ∧ 0 ≤ n3c2 ∧ n3c2 ≤ 100 ∧ (if (!b8l1) = true then (LR.seq (slices_breakPatternsOrdered_Id_m xPa0l1 n1l1 n2l1) (fun r39 => ((n3l1 - 1), r39))) else ((n3l1, xPa0l1)) : Int × (List Int)) = (n3c2, xPa0c2)) (fun ⟨n3c2, xPa0c2, cPa0c2⟩ => [(0, .slice Aa0 a0.length pa0), (1, .int .i64 n1l1), (2, .int .i64 n2l1), (3, .int .i64 n3c2), (8, .bool (b8l1)), (9, .bool (b9l1)), (10, .int .i64 (n2l1 - n1l1))]) ?_ ?_
  · refine T.cond rfl (fun c35 => ?_) (fun c35 => ?_)
    · refine T.set 35 (.bool true) (congrArg Value.bool c35) ?_
      refine T.seq ?_
      refine T.region ?_
      refine R.mvE rfl (by conv => lhs; whnf) ?_
      refine R.mvE rfl (by conv => lhs; whnf) ?_
      refine R.mvE rfl (by conv => lhs; whnf) ?_
      obtain ⟨r39, er39⟩ : ∃ r, r = (slices_breakPatternsOrdered_Id_m xPa0l1 n1l1 n2l1) := ⟨_, rfl⟩
      refine TL.call [true] rfl rfl rfl (slices_breakPatternsOrdered_Id_c _ _ xPa0l1 _ wPa0l1 (n1l1) (n2l1) (by first | omega | (simp; done) | (simp; omega) | (simp at *; omega)) (by first | omega | (simp; done) | (simp; omega) | (simp at *; omega)) (by first | omega | (simp; done) | (simp; omega) | (simp at *; omega)) (by first | omega | (simp; done) | (simp; omega) | (simp at *; omega))) ?_
      intro v39 H39 L39 s39 q39
      rw [← er39] at q39
      obtain ⟨D39_a0, rfl, rfl, w39_a0⟩ := q39
      have n39_a0_ := OwnS.len w39_a0
      refine TL.nil (Post.thnN ?_)
      refine T.region ?_
      refine R.mvE rfl (by conv => lhs; whnf) ?_
      refine R.subI rfl rfl rfl (by omega) ?_
      refine R.asE rfl (by conv => lhs; whnf) ?_
      refine TL.nil (Post.thnN ?_)
      exact ⟨((n3l1 - 1), r39, D39_a0), s39, ⟨(Has.cons .hd Has.nil), w39_a0, (by first | omega | (simp; done) | (simp; omega) | (simp at *; omega)), (by first | omega | (simp; done) | (simp; omega) | (simp at *; omega)), (by subst er39; rw [if_t c35, LR.seq_go])⟩, rfl, rfl, rfl, rfl, rfl, rfl, rfl, trivial⟩
    refine T.set 35 (.bool false) (congrArg Value.bool c35) ?_
    refine T.skip (Post.thnN ?_)
    exact ⟨(n3l1, xPa0l1, cPa0l1), HLe.refl _, ⟨(Has.cons .hd Has.nil), wPa0l1, (by first | omega | (simp; done) | (simp; omega) | (simp at *; omega)), (by first | omega | (simp; done) | (simp; omega) | (simp at *; omega)), (by rw [if_f c35])⟩, rfl, rfl, rfl, rfl, rfl, rfl, rfl, trivial⟩
  intro ⟨n3c2, xPa0c2, cPa0c2⟩ σ_c2 H_c2 L_c2 ds_c2 s_c2 hI_c2
  obtain ⟨hLc2, wPa0c2, hBc2_0, hBc2_1, hTc2⟩ := hI_c2
  have nPa0c2_ := OwnS.len wPa0c2
  refine T.has hLc2 ?_
  refine T.seq ?_
  refine T.region ?_
  refine R.mvE rfl (by conv => lhs; whnf) ?_
  refine R.mvE rfl (by conv => lhs; whnf) ?_
  refine R.mvE rfl (by conv => lhs; whnf) ?_
  obtain ⟨r46, er46⟩ : ∃ r, r = (slices_choosePivotOrdered_Id_m xPa0c2 n1l1 n2l1) := ⟨_, rfl⟩
  refine TL.call [true] rfl rfl rfl (slices_choosePivotOrdered_Id_c _ _ xPa0c2 _ wPa0c2 (n1l1) (n2l1) (by first | omega | (simp; done) | (simp; omega) | (simp at *; omega)) (by first | omega | (simp; done) | (simp; omega) | (simp at *; omega)) (by first | omega | (simp; done) | (simp; omega) | (simp at *; omega)) (by first | omega | (simp; done) | (simp; omega) | (simp at *; omega))) ?_
  intro v46 H46 L46 s46 q46
  rw [← er46] at q46
  obtain ⟨D46_a0, rfl, rfl, w46_a0⟩ := q46
  have n46_a0_ := OwnS.len w46_a0
  have tf46 := choose_f _ _ _ _ er46 (by first | omega | (simp; done) | (simp; omega) | (simp at *; omega))
  refine R.mvE rfl (by conv => lhs; whnf) ?_
  refine R.ext rfl rfl rfl ?_
  refine R.ext rfl rfl rfl ?_
  refine R.asE rfl (by conv => lhs; whnf) ?_
  refine R.asE rfl (by conv => lhs; whnf) ?_
  refine TL.nil (Post.thnN ?_)
  refine T.seq ?_
  refine T.seq ?_
  refine T.region ?_
  refine R.mvE rfl (by conv => lhs; whnf) ?_
  refine R.eql rfl rfl rfl ?_
  refine TL.nil (Post.thnN ?_)
  refine T.cutK (ι := Int × Int × (List Int) × Chunk) (fun ⟨n11c3, n12c3, xPa0c3, cPa0c3⟩ H' L' ds' => Has L' [cPa0c3] ∧ OwnS (intE .u64) 26 H' (.slice Aa0 a0.length pa0) xPa0c3 cPa0c3 ∧ n1l1 ≤ n11c3 ∧ n11c3 < n2l1 ∧ (if r46.2.1 = 2 then (LR.seq (slices_reverseRangeOrdered_Id_m r46.2.2 n1l1 n2l1) (fun r54 => (((n2l1 - 1) - (r46.1 - n1l1)), 1, r54))) else ((r46.1, r46.2.1, r46.2.2)) : Int × Int × (List Int)) = (n11c3, n12c3, xPa0c3)) (fun ⟨n11c3, n12c3, xPa0c3, cPa0c3⟩ => [(0, .slice Aa0 a0.length pa0), (1, .int .i64 n1l1), (2, .int .i64 n2l1), (3, .int .i64 n3c2), (8, .bool (b8l1)), (9, .bool (b9l1)), (10, .int .i64 (n2l1 - n1l1)), (11, .int .i64 n11c3), (12, .int .i64 n12c3)]) ?_ ?_
  · refine T.condD rfl (fun c50 => ?_) (fun c50 => ?_)
    · refine T.set 50 (.bool true) (congrArg Value.bool (decide_eq_true c50)) ?_
      refine T.seq ?_
      refine T.region ?_
      refine R.mvE rfl (by conv => lhs; whnf) ?_
      refine R.mvE rfl (by conv => lhs; whnf) ?_
      refine R.mvE rfl (by conv => lhs; whnf) ?_
      obtain ⟨r54, er54⟩ : ∃ r, r = (slices_reverseRangeOrdered_Id_m r46.2.2 n1l1 n2l1) := ⟨_, rfl⟩
      refine TL.call [true] rfl rfl rfl (slices_reverseRangeOrdered_Id_c _ _ r46.2.2 _ w46_a0 (n1l1) (n2l1) (by first | omega | (simp; done) | (simp; omega) | (simp at *; omega)) (by first | omega | (simp; done) | (simp; omega) | (simp at *; omega)) (by first | omega | (simp; done) | (simp; omega) | (simp at *; omega)) (by first | omega | (simp; done) | (simp; omega) | (simp at *; omega))) ?_
      intro v54 H54 L54 s54 q54
      rw [← er54] at q54
      obtain ⟨D54_a0, rfl, rfl, w54_a0⟩ := q54
      have n54_a0_ := OwnS.len w54_a0
      refine TL.nil (Post.thnN ?_)
      refine T.seq ?_
      refine T.region ?_
      refine R.mvE rfl (by conv => lhs; whnf) ?_
      refine R.subI rfl rfl rfl (by omega) ?_
      refine R.mvE rfl (by conv => lhs; whnf) ?_
      refine R.mvE rfl (by conv => lhs; whnf) ?_
      refine R.subI rfl rfl rfl (by omega) ?_
      refine R.subI rfl rfl rfl (by omega) ?_
      refine R.asE rfl (by conv => lhs; whnf) ?_
      refine TL.nil (Post.thnN ?_)
      refine T.region ?_
      refine R.asE rfl (by conv => lhs; whnf) ?_
      refine TL.nil (Post.thnN ?_)
      exact ⟨(((n2l1 - 1) - (r46.1 - n1l1)), 1, r54, D54_a0), s54, ⟨(Has.cons .hd Has.nil), w54_a0, (by first | omega | (simp; done) | (simp; omega) | (simp at *; omega)), (by first | omega | (simp; done) | (simp; omega) | (simp at *; omega)), (by subst er54; rw [if_pos c50, LR.seq_go])⟩, rfl, rfl, rfl, rfl, rfl, rfl, rfl, rfl, rfl, trivial⟩
    refine T.set 50 (.bool false) (congrArg Value.bool (decide_eq_false c50)) ?_
    refine T.skip (Post.thnN ?_)
    exact ⟨(r46.1, r46.2.1, r46.2.2, D46_a0), HLe.refl _, ⟨(Has.cons .hd Has.nil), w46_a0, (by first | omega | (simp; done) | (simp; omega) | (simp at *; omega)), (by first | omega | (simp; done) | (simp; omega) | (simp at *; omega)), (by rw [if_neg c50])⟩, rfl, rfl, rfl, rfl, rfl, rfl, rfl, rfl, rfl, trivial⟩
  intro ⟨n11c3, n12c3, xPa0c3, cPa0c3⟩ σ_c3 H_c3 L_c3 ds_c3 s_c3 hI_c3
  obtain ⟨hLc3, wPa0c3, hBc3_0, hBc3_1, hTc3⟩ := hI_c3
  have nPa0c3_ := OwnS.len wPa0c3
  refine T.has hLc3 ?_
  refine T.seq ?_
  refine T.seq ?_
  refine T.cutK (ι := Bool) (fun b68c4 H' L' ds' => Has L' [cPa0c3] ∧ (if b8l1 = true then (if b9l1 = true then ((decide (n12c3 = 1))) else false) else false : Bool) = b68c4) (fun b68c4 => [(0, .slice Aa0 a0.length pa0), (1, .int .i64 n1l1), (2, .int .i64 n2l1), (3, .int .i64 n3c2), (8, .bool (b8l1)), (9, .bool (b9l1)), (10, .int .i64 (n2l1 - n1l1)), (11, .int .i64 n11c3), (68, .bool (b68c4))]) ?_ ?_
  · refine T.region ?_
    refine R.mvE rfl (by conv => lhs; whnf) ?_
    refine R.mvE rfl (by conv => lhs; whnf) ?_
    refine TL.gsplit 62 rfl (fun g62 => ?_) (fun g62 => ?_)
    · refine R.mvE rfl (by conv => lhs; whnf) ?_
      refine R.pkTE rfl rfl (by conv => lhs; whnf) ?_
      refine R.mvE rfl (by conv => lhs; whnf) ?_
      refine TL.gsplit 65 rfl (fun g65 => ?_) (fun g65 => ?_)
      · refine R.mvE rfl (by conv => lhs; whnf) ?_
        refine R.eql rfl rfl rfl ?_
        refine R.pkTE rfl rfl (by conv => lhs; whnf) ?_
        refine TL.nil (Post.thnN ?_)
        exact ⟨(decide (n12c3 = 1)), HLe.refl _, ⟨(Has.cons .hd Has.nil), (by rw [if_t g62, if_t g65])⟩, rfl, rfl, rfl, rfl, rfl, rfl, rfl, rfl, rfl, trivial⟩
      refine TL.off rfl rfl rfl ?_
      refine TL.off rfl rfl rfl ?_
      refine R.pkFE rfl rfl (by conv => lhs; whnf) ?_
      refine TL.nil (Post.thnN ?_)
      exact ⟨false, HLe.refl _, ⟨(Has.cons .hd Has.nil), (by rw [if_t g62, if_f g65])⟩, rfl, rfl, rfl, rfl, rfl, rfl, rfl, rfl, rfl, trivial⟩
    refine TL.off rfl rfl rfl ?_
    refine R.pkFE rfl rfl (by conv => lhs; whnf) ?_
    refine R.mvE rfl (by conv => lhs; whnf) ?_
    refine TL.off rfl rfl rfl ?_
    refine TL.off rfl rfl rfl ?_
    refine R.pkFE rfl rfl (by conv => lhs; whnf) ?_
    refine TL.nil (Post.thnN ?_)
    exact ⟨false, HLe.refl _, ⟨(Has.cons .hd Has.nil), (by rw [if_f g62])⟩, rfl, rfl, rfl, rfl, rfl, rfl, rfl, rfl, rfl, trivial⟩
  intro b68c4 σ_c4 H_c4 L_c4 ds_c4 s_c4 hI_c4
  obtain ⟨hLc4, hTc4⟩ := hI_c4
  refine T.has hLc4 ?_
  refine T.cutK (ι := (List Int) × Chunk) (fun ⟨xPa0c5, cPa0c5⟩ H' L' ds' => Has L' [cPa0c5] ∧ OwnS (intE .u64) 26 H' (.slice Aa0 a0.length pa0) xPa0c5 cPa0c5 ∧ (if b68c4 = true then (LR.seq (slices_partialInsertionSortOrdered_Id_m xPa0c3 n1l1 n2l1) (fun r72 => if r72.1 = true then (.ret (.ret r72.2)) else (.go r72.2))) else (.go xPa0c3) : LR (LR ((List Int)) (Unit)) ((List Int))) = .go xPa0c5) (fun ⟨xPa0c5, cPa0c5⟩ => [(0, .slice Aa0 a0.length pa0), (1, .int .i64 n1l1), (2, .int .i64 n2l1), (3, .int .i64 n3c2), (8, .bool (b8l1)), (9, .bool (b9l1)), (10, .int .i64 (n2l1 - n1l1)), (11, .int .i64 n11c3)]) ?_ ?_
  · refine T.cond rfl (fun c68 => ?_) (fun c68 => ?_)
    · refine T.set 68 (.bool true) (congrArg Value.bool c68) ?_
      have hZ68 := hTc4.trans c68
      try simp only [or_f, or_t, and_f, and_t, decide_eq_true_eq, decide_eq_false_iff_not, Bool.not_eq_true'] at hZ68
      refine T.seq ?_
      refine T.region ?_
      refine R.mvE rfl (by conv => lhs; whnf) ?_
      refine R.mvE rfl (by conv => lhs; whnf) ?_
      refine R.mvE rfl (by conv => lhs; whnf) ?_
      obtain ⟨r72, er72⟩ : ∃ r, r = (slices_partialInsertionSortOrdered_Id_m xPa0c3 n1l1 n2l1) := ⟨_, rfl⟩
      refine TL.call [true] rfl rfl rfl (slices_partialInsertionSortOrdered_Id_c _ _ xPa0c3 _ (OwnS.mono wPa0c3 s_c4) (n1l1) (n2l1) (by first | omega | (simp; done) | (simp; omega) | (simp at *; omega)) (by first | omega | (simp; done) | (simp; omega) | (simp at *; omega)) (by first | omega | (simp; done) | (simp; omega) | (simp at *; omega)) (by first | omega | (simp; done) | (simp; omega) | (simp at *; omega))) ?_
      intro v72 H72 L72 s72 q72
      rw [← er72] at q72
      obtain ⟨D72_a0, rfl, rfl, w72_a0⟩ := q72
      have n72_a0_ := OwnS.len w72_a0
      refine TL.nil (Post.thnN ?_)
      refine T.cond rfl (fun c72 => ?_) (fun c72 => ?_)
      · refine T.set 72 (.bool true) (congrArg Value.bool c72) ?_
        refine T.has (Has.cons .hd Has.nil) ?_
        refine T.ret (Post.thnR (Post.blkR (Post.thnR (Post.blkR ?_))))
        have hXl1 : pdqStep_l1 srt ((a2 - a1).toNat + 1) ((a1, a2, a3, true, true, a0)) = .ret r72.2 := by subst er72; subst er46; rw [← hQl1, pdqStep_l1]; rw [if_neg c23, if_neg c29, hTc2, LR.seq_go, LR.seq_go, hTc3, LR.seq_go, hTc4, LR.seq_go, if_t c68, LR.seq_go, if_t c72, LR.on_ret]
        have hM : pdqStep_m srt a0 a1 a2 a3 = r72.2 := by rw [pdqStep_m, hXl1, LR.on_ret]
        exact fin0L [D72_a0] rfl (List.Sublist.refl _) ⟨D72_a0, by first | rw [hM] | rfl, by first | rw [hM] | rfl, by rw [hM]; exact w72_a0⟩
      refine T.set 72 (.bool false) (congrArg Value.bool c72) ?_
      refine T.skip (Post.thnN ?_)
      exact ⟨(r72.2, D72_a0), s72, ⟨(Has.cons .hd Has.nil), w72_a0, (by subst er72; rw [if_t c68, LR.seq_go, if_f c72])⟩, rfl, rfl, rfl, rfl, rfl, rfl, rfl, rfl, trivial⟩
    refine T.set 68 (.bool false) (congrArg Value.bool c68) ?_
    have hZ68 := hTc4.trans c68
    try simp only [or_f, or_t, and_f, and_t, decide_eq_true_eq, decide_eq_false_iff_not, Bool.not_eq_true'] at hZ68
    refine T.skip (Post.thnN ?_)
    exact ⟨(xPa0c3, cPa0c3), HLe.refl _, ⟨(Has.cons .hd Has.nil), (OwnS.mono wPa0c3 s_c4), (by rw [if_f c68])⟩, rfl, rfl, rfl, rfl, rfl, rfl, rfl, rfl, trivial⟩
  intro ⟨xPa0c5, cPa0c5⟩ σ_c5 H_c5 L_c5 ds_c5 s_c5 hI_c5
  obtain ⟨hLc5, wPa0c5, hTc5⟩ := hI_c5
  have nPa0c5_ := OwnS.len wPa0c5
  refine T.has hLc5 ?_
  refine T.seq ?_
  refine T.seq ?_
  refine T.cutK (ι := Bool) (fun b87c6 H' L' ds' => Has L' [cPa0c5] ∧ (if (0 : Int) < n1l1 then ((!(cmp_Less_Id_m (xPa0c5.getD (((n1l1 - 1)).toNat) (0 : Int)) (xPa0c5.getD n11c3.toNat (0 : Int))))) else false : Bool) = b87c6) (fun b87c6 => [(0, .slice Aa0 a0.length pa0), (1, .int .i64 n1l1), (2, .int .i64 n2l1), (3, .int .i64 n3c2), (8, .bool (b8l1)), (9, .bool (b9l1)), (10, .int .i64 (n2l1 - n1l1)), (11, .int .i64 n11c3), (87, .bool (b87c6))]) ?_ ?_
  · refine T.draw Try_mixed (by kernel_rfl) ?_
    refine Plan.v 0 [1, 2, 3, 4, 5, 6, 7, 8, 9, 10, 11, 12, 13, 14] (by kernel_rfl) (by kernel_rfl) (by kernel_rfl) (by kernel_rfl) rfl (fun _ _ h_ => R.mvE rfl (by conv => lhs; whnf) (TL.nil h_)) ?_
    refine Plan.v 1 [2, 3, 4, 5, 6, 7, 8, 9, 10, 11, 12, 13, 14] (by kernel_rfl) (by kernel_rfl) (by kernel_rfl) (by kernel_rfl) rfl (fun _ _ h_ => R.gtr rfl rfl rfl (TL.nil h_)) ?_
    refine Plan.v 2 [3, 4, 5, 6, 7, 8, 9, 10, 11, 12, 13, 14] (by kernel_rfl) (by kernel_rfl) (by kernel_rfl) (by kernel_rfl) rfl (fun _ _ h_ => R.mvE rfl (by conv => lhs; whnf) (TL.nil h_)) ?_
    refine Plan.gsplitD 75 rfl (fun g75 => ?_) (fun g75 => ?_)
    · refine Plan.v 3 [4, 5, 6, 7, 8, 9, 10, 11, 12, 13, 14] (by kernel_rfl) (by kernel_rfl) (by kernel_rfl) (by kernel_rfl) rfl (fun _ _ h_ => R.mvE rfl (by conv => lhs; whnf) (TL.nil h_)) ?_
      refine Plan.v 4 [5, 6, 7, 8, 9, 10, 11, 12, 13, 14] (by kernel_rfl) (by kernel_rfl) (by kernel_rfl) (by kernel_rfl) rfl (fun _ _ h_ => R.mvE rfl (by conv => lhs; whnf) (TL.nil h_)) ?_
      refine Plan.v 5 [6, 7, 8, 9, 10, 11, 12, 13, 14] (by kernel_rfl) (by kernel_rfl) (by kernel_rfl) (by kernel_rfl) rfl (fun _ _ h_ => R.subI rfl rfl rfl (by omega) (TL.nil h_)) ?_
      have hl79 : ((n1l1 - 1)).toNat < a0.length := by first | omega | (simp; done) | (simp; omega) | (simp at *; omega)
      obtain ⟨y79, e79, h79⟩ : ∃ y, y = (xPa0c5.getD (((n1l1 - 1)).toNat) (0 : Int)) ∧ xPa0c5[((n1l1 - 1)).toNat]? = some y := ⟨_, rfl, getD_get (by first | exact hl79 | simpa using hl79 | (simp only [List.length_set]; omega) | omega | (rw [(sortI_perm _).length_eq]; exact hl79))⟩
      obtain ⟨b79, u79, cs79, l79, f79, j79, i79, g79, k79⟩ := OwnS.elem wPa0c5 h79
      obtain rfl : l79 = [.int .u64 y79] := g79
      refine Plan.v 6 [7, 8, 9, 10, 11, 12, 13, 14] (by kernel_rfl) (by kernel_rfl) (by kernel_rfl) (by kernel_rfl) rfl (fun _ _ h_ => R.ixp (sz := ((intE .u64)).size) Try.underlying22 Try.sizeOf26 rfl rfl rfl (by first | omega | (simp; done) | (simp; omega) | (simp at *; omega)) i79 (TL.nil h_)) ?_
      refine Plan.v 8 [7, 9, 10, 11, 12, 13, 14] (by kernel_rfl) (by kernel_rfl) (by kernel_rfl) (by kernel_rfl) rfl (fun _ _ h_ => R.mvE rfl (by conv => lhs; whnf) (TL.nil h_)) ?_
      refine Plan.v 9 [7, 10, 11, 12, 13, 14] (by kernel_rfl) (by kernel_rfl) (by kernel_rfl) (by kernel_rfl) rfl (fun _ _ h_ => R.mvE rfl (by conv => lhs; whnf) (TL.nil h_)) ?_
      have hl83 : n11c3.toNat < a0.length := by first | omega | (simp; done) | (simp; omega) | (simp at *; omega)
      obtain ⟨y83, e83, h83⟩ : ∃ y, y = (xPa0c5.getD n11c3.toNat (0 : Int)) ∧ xPa0c5[n11c3.toNat]? = some y := ⟨_, rfl, getD_get (by first | exact hl83 | simpa using hl83 | (simp only [List.length_set]; omega) | omega | (rw [(sortI_perm _).length_eq]; exact hl83))⟩
      obtain ⟨b83, u83, cs83, l83, f83, j83, i83, g83, k83⟩ := OwnS.elem wPa0c5 h83
      obtain rfl : l83 = [.int .u64 y83] := g83
      refine Plan.v 10 [7, 11, 12, 13, 14] (by kernel_rfl) (by kernel_rfl) (by kernel_rfl) (by kernel_rfl) rfl (fun _ _ h_ => R.ixp (sz := ((intE .u64)).size) Try.underlying22 Try.sizeOf26 rfl rfl rfl (by first | omega | (simp; done) | (simp; omega) | (simp at *; omega)) i83 (TL.nil h_)) ?_
      refine Plan.s2 7 11 [11, 12, 13, 14] [7, 12, 13, 14] (by kernel_rfl) (by kernel_rfl) (by kernel_rfl) rfl rfl ?_ ?_
      · refine R.ld Try.isAgg26 rfl rfl (by rw [← f79]; exact .hd) (k79 0 _ rfl) ?_
        refine TL.nil (Plan.e1 (HLe.refl _) ?_)
        refine Plan.s1 11 [12, 13, 14] (by kernel_rfl) (by kernel_rfl) rfl ?_
        refine R.ld Try.isAgg26 rfl rfl (by rw [← f83]; exact .hd) (k83 0 _ rfl) ?_
        refine TL.nil (Plan.e1 (HLe.refl _) ?_)
        refine Plan.v 12 [13, 14] (by kernel_rfl) (by kernel_rfl) (by kernel_rfl) (by kernel_rfl) rfl (fun _ _ h_ => R.callv rfl rfl rfl (cmp_Less_Id_c _ (y79) (y83)) (TL.nil h_)) ?_
        refine Plan.v 13 [14] (by kernel_rfl) (by kernel_rfl) (by kernel_rfl) (by kernel_rfl) rfl (fun _ _ h_ => R.not rfl rfl (TL.nil h_)) ?_
        refine Plan.v 14 [] (by kernel_rfl) (by kernel_rfl) (by kernel_rfl) (by kernel_rfl) rfl (fun _ _ h_ => R.pkTE rfl rfl (by conv => lhs; whnf) (TL.nil h_)) ?_
        refine Plan.done (Post.thnN ?_)
        exact ⟨(!(cmp_Less_Id_m y79 y83)), HLe.refl _, ⟨(Has.cons .hd Has.nil), (by subst e83; subst e79; rw [if_pos g75])⟩, rfl, rfl, rfl, rfl, rfl, rfl, rfl, rfl, rfl, trivial⟩
      refine R.ld Try.isAgg26 rfl rfl (by rw [← f83]; exact .hd) (k83 0 _ rfl) ?_
      refine TL.nil (Plan.e1 (HLe.refl _) ?_)
      refine Plan.s1 7 [12, 13, 14] (by kernel_rfl) (by kernel_rfl) rfl ?_
      refine R.ld Try.isAgg26 rfl rfl (by rw [← f79]; exact .hd) (k79 0 _ rfl) ?_
      refine TL.nil (Plan.e1 (HLe.refl _) ?_)
      refine Plan.v 12 [13, 14] (by kernel_rfl) (by kernel_rfl) (by kernel_rfl) (by kernel_rfl) rfl (fun _ _ h_ => R.callv rfl rfl rfl (cmp_Less_Id_c _ (y79) (y83)) (TL.nil h_)) ?_
      refine Plan.v 13 [14] (by kernel_rfl) (by kernel_rfl) (by kernel_rfl) (by kernel_rfl) rfl (fun _ _ h_ => R.not rfl rfl (TL.nil h_)) ?_
      refine Plan.v 14 [] (by kernel_rfl) (by kernel_rfl) (by kernel_rfl) (by kernel_rfl) rfl (fun _ _ h_ => R.pkTE rfl rfl (by conv => lhs; whnf) (TL.nil h_)) ?_
      refine Plan.done (Post.thnN ?_)
      exact ⟨(!(cmp_Less_Id_m y79 y83)), HLe.refl _, ⟨(Has.cons .hd Has.nil), (by subst e83; subst e79; rw [if_pos g75])⟩, rfl, rfl, rfl, rfl, rfl, rfl, rfl, rfl, rfl, trivial⟩
    refine Plan.v 3 [4, 5, 6, 7, 8, 9, 10, 11, 12, 13, 14] (by kernel_rfl) (by kernel_rfl) (by kernel_rfl) (by kernel_rfl) rfl (fun _ _ h_ => TL.off rfl rfl rfl (TL.nil h_)) ?_
    refine Plan.v 4 [5, 6, 7, 8, 9, 10, 11, 12, 13, 14] (by kernel_rfl) (by kernel_rfl) (by kernel_rfl) (by kernel_rfl) rfl (fun _ _ h_ => TL.off rfl rfl rfl (TL.nil h_)) ?_
    refine Plan.v 5 [6, 7, 8, 9, 10, 11, 12, 13, 14] (by kernel_rfl) (by kernel_rfl) (by kernel_rfl) (by kernel_rfl) rfl (fun _ _ h_ => TL.off rfl rfl rfl (TL.nil h_)) ?_
    refine Plan.v 6 [7, 8, 9, 10, 11, 12, 13, 14] (by kernel_rfl) (by kernel_rfl) (by kernel_rfl) (by kernel_rfl) rfl (fun _ _ h_ => TL.off rfl rfl rfl (TL.nil h_)) ?_
    refine Plan.v 7 [8, 9, 10, 11, 12, 13, 14] (by kernel_rfl) (by kernel_rfl) (by kernel_rfl) (by kernel_rfl) rfl (fun _ _ h_ => TL.off rfl rfl rfl (TL.nil h_)) ?_
    refine Plan.v 8 [9, 10, 11, 12, 13, 14] (by kernel_rfl) (by kernel_rfl) (by kernel_rfl) (by kernel_rfl) rfl (fun _ _ h_ => TL.off rfl rfl rfl (TL.nil h_)) ?_
    refine Plan.v 9 [10, 11, 12, 13, 14] (by kernel_rfl) (by kernel_rfl) (by kernel_rfl) (by kernel_rfl) rfl (fun _ _ h_ => TL.off rfl rfl rfl (TL.nil h_)) ?_
    refine Plan.v 10 [11, 12, 13, 14] (by kernel_rfl) (by kernel_rfl) (by kernel_rfl) (by kernel_rfl) rfl (fun _ _ h_ => TL.off rfl rfl rfl (TL.nil h_)) ?_
    refine Plan.v 11 [12, 13, 14] (by kernel_rfl) (by kernel_rfl) (by kernel_rfl) (by kernel_rfl) rfl (fun _ _ h_ => TL.off rfl rfl rfl (TL.nil h_)) ?_
    refine Plan.v 12 [13, 14] (by kernel_rfl) (by kernel_rfl) (by kernel_rfl) (by kernel_rfl) rfl (fun _ _ h_ => TL.off rfl rfl rfl (TL.nil h_)) ?_
    refine Plan.v 13 [14] (by kernel_rfl) (by kernel_rfl) (by kernel_rfl) (by kernel_rfl) rfl (fun _ _ h_ => TL.off rfl rfl rfl (TL.nil h_)) ?_
    refine Plan.v 14 [] (by kernel_rfl) (by kernel_rfl) (by kernel_rfl) (by kernel_rfl) rfl (fun _ _ h_ => R.pkFE rfl rfl (by conv => lhs; whnf) (TL.nil h_)) ?_
    refine Plan.done (Post.thnN ?_)
    exact ⟨false, HLe.refl _, ⟨(Has.cons .hd Has.nil), (by rw [if_neg g75])⟩, rfl, rfl, rfl, rfl, rfl, rfl, rfl, rfl, rfl, trivial⟩
  intro b87c6 σ_c6 H_c6 L_c6 ds_c6 s_c6 hI_c6
  obtain ⟨hLc6, hTc6⟩ := hI_c6
  refine T.has hLc6 ?_
  refine T.cond rfl (fun c87 => ?_) (fun c87 => ?_)
  · refine T.set 87 (.bool true) (congrArg Value.bool c87) ?_
    have hZ87 := hTc6.trans c87
    try simp only [or_f, or_t, and_f, and_t, decide_eq_true_eq, decide_eq_false_iff_not, Bool.not_eq_true'] at hZ87
    refine T.seq ?_
    refine T.region ?_
    refine R.mvE rfl (by conv => lhs; whnf) ?_
    refine R.mvE rfl (by conv => lhs; whnf) ?_
    refine R.mvE rfl (by conv => lhs; whnf) ?_
    refine R.mvE rfl (by conv => lhs; whnf) ?_
    obtain ⟨r92, er92⟩ : ∃ r, r = (slices_partitionEqualOrdered_Id_m xPa0c5 n1l1 n2l1 n11c3) := ⟨_, rfl⟩
    refine TL.call [true] rfl rfl rfl (slices_partitionEqualOrdered_Id_c _ _ xPa0c5 _ (OwnS.mono wPa0c5 s_c6) (n1l1) (n2l1) (n11c3) (by first | omega | (simp; done) | (simp; omega) | (simp at *; omega)) (by first | omega | (simp; done) | (simp; omega) | (simp at *; omega)) (by first | omega | (simp; done) | (simp; omega) | (simp at *; omega)) (by first | omega | (simp; done) | (simp; omega) | (simp at *; omega)) (by first | omega | (simp; done) | (simp; omega) | (simp at *; omega))) ?_
    intro v92 H92 L92 s92 q92
    rw [← er92] at q92
    obtain ⟨D92_a0, rfl, rfl, w92_a0⟩ := q92
    have n92_a0_ := OwnS.len w92_a0
    have tf92 := peq_f _ _ _ _ _ er92 (by first | omega | (simp; done) | (simp; omega) | (simp at *; omega))
    refine R.asE rfl (by conv => lhs; whnf) ?_
    refine TL.nil (Post.thnN ?_)
    refine T.seq ?_
    refine T.region ?_
    refine R.mvE rfl (by conv => lhs; whnf) ?_
    refine R.asE rfl (by conv => lhs; whnf) ?_
    refine TL.nil (Post.thnN ?_)
    refine T.exit (Post.thnE (Post.blkX ?_))
    refine id (Post.thnN ?_)
    exact ⟨(ml1, r92.1, n2l1, n3c2, b8l1, b9l1, r92.2, D92_a0), (s_l1.trans (s_c2.trans (s46.trans (s_c3.trans (s_c4.trans (s_c5.trans (s_c6.trans s92))))))), ⟨(by first | omega | (simp; omega) | (simp at *; omega)), (Has.cons .hd Has.nil), w92_a0, (by first | omega | (simp; done) | (simp; omega) | (simp at *; omega)), (by first | omega | (simp; done) | (simp; omega) | (simp at *; omega)), (by first | omega | (simp; done) | (simp; omega) | (simp at *; omega)), (by first | omega | (simp; done) | (simp; omega) | (simp at *; omega)), (by first | omega | (simp; done) | (simp; omega) | (simp at *; omega)), (by first | omega | (simp; done) | (simp; omega) | (simp at *; omega)), (by subst er92; subst er46; rw [← hQl1, pdqStep_l1]; rw [if_neg c23, if_neg c29, hTc2, LR.seq_go, LR.seq_go, hTc3, LR.seq_go, hTc4, LR.seq_go, hTc5, LR.on_go, hTc6, LR.seq_go, if_t c87, LR.seq_go])⟩, by show ml1 < ml1 + 1; omega, rfl, rfl, rfl, rfl, rfl, rfl, trivial⟩
  refine T.set 87 (.bool false) (congrArg Value.bool c87) ?_
  have hZ87 := hTc6.trans c87
  try simp only [or_f, or_t, and_f, and_t, decide_eq_true_eq, decide_eq_false_iff_not, Bool.not_eq_true'] at hZ87
  refine T.skip (Post.thnN ?_)
  refine T.seq ?_
  refine T.region ?_
  refine R.mvE rfl (by conv => lhs; whnf) ?_
  refine R.mvE rfl (by conv => lhs; whnf) ?_
  refine R.mvE rfl (by conv => lhs; whnf) ?_
  refine R.mvE rfl (by conv => lhs; whnf) ?_
  obtain ⟨r99, er99⟩ : ∃ r, r = (slices_partitionOrdered_Id_m xPa0c5 n1l1 n2l1 n11c3) := ⟨_, rfl⟩
  refine TL.call [true] rfl rfl rfl (slices_partitionOrdered_Id_c _ _ xPa0c5 _ (OwnS.mono wPa0c5 s_c6) (n1l1) (n2l1) (n11c3) (by first | omega | (simp; done) | (simp; omega) | (simp at *; omega)) (by first | omega | (simp; done) | (simp; omega) | (simp at *; omega)) (by first | omega | (simp; done) | (simp; omega) | (simp at *; omega)) (by first | omega | (simp; done) | (simp; omega) | (simp at *; omega)) (by first | omega | (simp; done) | (simp; omega) | (simp at *; omega))) ?_
  intro v99 H99 L99 s99 q99
  rw [← er99] at q99
  obtain ⟨D99_a0, rfl, rfl, w99_a0⟩ := q99
  have n99_a0_ := OwnS.len w99_a0
  have tf99 := pp_f _ _ _ _ _ er99 (by first | omega | (simp; done) | (simp; omega) | (simp at *; omega))
  refine R.mvE rfl (by conv => lhs; whnf) ?_
  refine R.ext rfl rfl rfl ?_
  refine R.ext rfl rfl rfl ?_
  refine R.asE rfl (by conv => lhs; whnf) ?_
  refine R.asE rfl (by conv => lhs; whnf) ?_
  refine TL.nil (Post.thnN ?_)
  refine T.seq ?_
  refine T.region ?_
  refine R.mvE rfl (by conv => lhs; whnf) ?_
  refine R.asE rfl (by conv => lhs; whnf) ?_
  refine TL.nil (Post.thnN ?_)
  refine T.seq ?_
  refine T.region ?_
  refine R.mvE rfl (by conv => lhs; whnf) ?_
  refine R.mvE rfl (by conv => lhs; whnf) ?_
  refine R.subI rfl rfl rfl (by omega) ?_
  refine R.mvE rfl (by conv => lhs; whnf) ?_
  refine R.mvE rfl (by conv => lhs; whnf) ?_
  refine R.subI rfl rfl rfl (by omega) ?_
  refine R.asE rfl (by conv => lhs; whnf) ?_
  refine R.asE rfl (by conv => lhs; whnf) ?_
  refine TL.nil (Post.thnN ?_)
  refine T.seq ?_
  refine T.region ?_
  refine R.mvE rfl (by conv => lhs; whnf) ?_
  refine R.quoI rfl rfl rfl (by omega) ?_
  refine R.asE rfl (by conv => lhs; whnf) ?_
  refine TL.nil (Post.thnN ?_)
  refine T.seq ?_
  refine T.region ?_
  refine R.mvE rfl (by conv => lhs; whnf) ?_
  refine R.mvE rfl (by conv => lhs; whnf) ?_
  refine R.lss rfl rfl rfl ?_
  refine TL.nil (Post.thnN ?_)
  refine T.condD rfl (fun c113 => ?_) (fun c113 => ?_)
  · refine T.set 113 (.bool true) (congrArg Value.bool (decide_eq_true c113)) ?_
    refine T.seq ?_
    refine T.region ?_
    refine R.mvE rfl (by conv => lhs; whnf) ?_
    refine R.mvE rfl (by conv => lhs; whnf) ?_
    refine R.geq rfl rfl rfl ?_
    refine R.asE rfl (by conv => lhs; whnf) ?_
    refine TL.nil (Post.thnN ?_)
    refine T.seq ?_
    refine T.region ?_
    refine R.mvE rfl (by conv => lhs; whnf) ?_
    refine R.mvE rfl (by conv => lhs; whnf) ?_
    refine R.mvE rfl (by conv => lhs; whnf) ?_
    refine R.mvE rfl (by conv => lhs; whnf) ?_
    obtain ⟨r121, er121⟩ : ∃ r, r = (srt r99.2.2 n1l1 r99.1 n3c2) := ⟨_, rfl⟩
    refine TL.call [true] rfl rfl rfl (ih _ _ r99.2.2 _ w99_a0 (n1l1) (r99.1) (n3c2) (by first | omega | (simp; done) | (simp; omega) | (simp at *; omega)) (by first | omega | (simp; done) | (simp; omega) | (simp at *; omega)) (by first | omega | (simp; done) | (simp; omega) | (simp at *; omega)) (by first | omega | (simp; done) | (simp; omega) | (simp at *; omega)) (by first | omega | (simp; done) | (simp; omega) | (simp at *; omega)) (by first | omega | (simp; done) | (simp; omega) | (simp at *; omega)) (by first | omega | (simp; done) | (simp; omega) | (simp at *; omega))) ?_
    intro v121 H121 L121 s121 q121
    rw [← er121] at q121
    obtain ⟨D121_a0, rfl, rfl, w121_a0⟩ := q121
    have n121_a0_ := OwnS.len w121_a0
    refine TL.nil (Post.thnN ?_)
    refine T.region ?_
    refine R.mvE rfl (by conv => lhs; whnf) ?_
    refine R.addI rfl rfl rfl (by omega) ?_
    refine R.asE rfl (by conv => lhs; whnf) ?_
    refine TL.nil (Post.blkN ?_)
    refine id (Post.thnN ?_)
    exact ⟨(ml1, (r99.1 + 1), n2l1, n3c2, (decide ((((n2l1 - n1l1) / 8) : Int) ≤ (r99.1 - n1l1))), r99.2.1, r121, D121_a0), (s_l1.trans (s_c2.trans (s46.trans (s_c3.trans (s_c4.trans (s_c5.trans (s_c6.trans (s99.trans s121)))))))), ⟨(by first | omega | (simp; omega) | (simp at *; omega)), (Has.cons .hd Has.nil), w121_a0, (by first | omega | (simp; done) | (simp; omega) | (simp at *; omega)), (by first | omega | (simp; done) | (simp; omega) | (simp at *; omega)), (by first | omega | (simp; done) | (simp; omega) | (simp at *; omega)), (by first | omega | (simp; done) | (simp; omega) | (simp at *; omega)), (by first | omega | (simp; done) | (simp; omega) | (simp at *; omega)), (by first | omega | (simp; done) | (simp; omega) | (simp at *; omega)), (by subst er121; subst er99; subst er46; rw [← hQl1, pdqStep_l1]; rw [if_neg c23, if_neg c29, hTc2, LR.seq_go, LR.seq_go, hTc3, LR.seq_go, hTc4, LR.seq_go, hTc5, LR.on_go, hTc6, LR.seq_go, if_f c87, LR.seq_go, if_pos c113, LR.seq_go])⟩, by show ml1 < ml1 + 1; omega, rfl, rfl, rfl, rfl, rfl, rfl, trivial⟩
  refine T.set 113 (.bool false) (congrArg Value.bool (decide_eq_false c113)) ?_
  refine T.seq ?_
  refine T.region ?_
  refine R.mvE rfl (by conv => lhs; whnf) ?_
  refine R.mvE rfl (by conv => lhs; whnf) ?_
  refine R.geq rfl rfl rfl ?_
  refine R.asE rfl (by conv => lhs; whnf) ?_
  refine TL.nil (Post.thnN ?_)
  refine T.seq ?_
  refine T.region ?_
  refine R.mvE rfl (by conv => lhs; whnf) ?_
  refine R.mvE rfl (by conv => lhs; whnf) ?_
  refine R.addI rfl rfl rfl (by omega) ?_
  refine R.mvE rfl (by conv => lhs; whnf) ?_
  refine R.mvE rfl (by conv => lhs; whnf) ?_
  obtain ⟨r132, er132⟩ : ∃ r, r = (srt r99.2.2 ((r99.1 + 1)) n2l1 n3c2) := ⟨_, rfl⟩
  refine TL.call [true] rfl rfl rfl (ih _ _ r99.2.2 _ w99_a0 ((r99.1 + 1)) (n2l1) (n3c2) (by first | omega | (simp; done) | (simp; omega) | (simp at *; omega)) (by first | omega | (simp; done) | (simp; omega) | (simp at *; omega)) (by first | omega | (simp; done) | (simp; omega) | (simp at *; omega)) (by first | omega | (simp; done) | (simp; omega) | (simp at *; omega)) (by first | omega | (simp; done) | (simp; omega) | (simp at *; omega)) (by first | omega | (simp; done) | (simp; omega) | (simp at *; omega)) (by first | omega | (simp; done) | (simp; omega) | (simp at *; omega))) ?_
  intro v132 H132 L132 s132 q132
  rw [← er132] at q132
  obtain ⟨D132_a0, rfl, rfl, w132_a0⟩ := q132
  have n132_a0_ := OwnS.len w132_a0
  refine TL.nil (Post.thnN ?_)
  refine T.region ?_
  refine R.mvE rfl (by conv => lhs; whnf) ?_
  refine R.asE rfl (by conv => lhs; whnf) ?_
  refine TL.nil (Post.blkN ?_)
  refine id (Post.thnN ?_)
  exact ⟨(ml1, n1l1, r99.1, n3c2, (decide ((((n2l1 - n1l1) / 8) : Int) ≤ (n2l1 - r99.1))), r99.2.1, r132, D132_a0), (s_l1.trans (s_c2.trans (s46.trans (s_c3.trans (s_c4.trans (s_c5.trans (s_c6.trans (s99.trans s132)))))))), ⟨(by first | omega | (simp; omega) | (simp at *; omega)), (Has.cons .hd Has.nil), w132_a0, (by first | omega | (simp; done) | (simp; omega) | (simp at *; omega)), (by first | omega | (simp; done) | (simp; omega) | (simp at *; omega)), (by first | omega | (simp; done) | (simp; omega) | (simp at *; omega)), (by first | omega | (simp; done) | (simp; omega) | (simp at *; omega)), (by first | omega | (simp; done) | (simp; omega) | (simp at *; omega)), (by first | omega | (simp; done) | (simp; omega) | (simp at *; omega)), (by subst er132; subst er99; subst er46; rw [← hQl1, pdqStep_l1]; rw [if_neg c23, if_neg c29, hTc2, LR.seq_go, LR.seq_go, hTc3, LR.seq_go, hTc4, LR.seq_go, hTc5, LR.on_go, hTc6, LR.seq_go, if_f c87, LR.seq_go, if_neg c113, LR.seq_go])⟩, by show ml1 < ml1 + 1; omega, rfl, rfl, rfl, rfl, rfl, rfl, trivial⟩
end Go.SX

set_option linter.unusedVariables false
set_option linter.unusedSimpArgs false
namespace Go.SX
open Go
theorem part_rng (lt : Int → Int → Bool) (a : Nat) : ∀ (k i j : Nat) (d : Array Int), j + 1 - i ≤ k → a + 1 ≤ i → a ≤ j → a ≤ (Sort.partLoop lt a i j d).1 ∧ (Sort.partLoop lt a i j d).1 ≤ j
  | k, i, j, d, h, h1, h2 => by
    rw [Sort.partLoop]
    have hu := scanUp_le (fun x => lt x d[a]!) d j (j + 1 - i) i (Nat.le_refl _)
    generalize Sort.scanUp (fun x => lt x d[a]!) d j i = i2 at *
    have hd := scanDown_le (fun x => !lt x d[a]!) d i2 (by omega) j
    have hz : i2 > j → Sort.scanDown (fun x => !lt x d[a]!) d i2 j = j := fun hij => by
      cases j with
      | zero => rw [Sort.scanDown]
      | succ j => rw [Sort.scanDown, decide_eq_false (show ¬ i2 ≤ j + 1 by omega), Bool.false_and, if_neg Bool.false_ne_true]
    generalize Sort.scanDown (fun x => !lt x d[a]!) d i2 j = j2 at *
    have ha : a ≤ j2 := by
      by_cases hij : i2 > j
      · have := hz hij; omega
      · omega
    by_cases hc : i2 > j2
    · rw [if_pos hc]; exact ⟨ha, hd.1⟩
    · rw [if_neg hc]
      split
      · cases k with
        | zero => omega
        | succ k => have := part_rng lt a k (i2 + 1) (j2 - 1) (Sort.swp d i2 j2) (by omega) (by omega) (by omega); omega
      · exact ⟨ha, hd.1⟩
theorem partition_rng (lt : Int → Int → Bool) (d : Array Int) (a b p : Nat) (hab : a < b) : a ≤ (Sort.partition lt d a b p).1 ∧ (Sort.partition lt d a b p).1 < b := by
  unfold Sort.partition
  simp only
  generalize Sort.swp d a p = d
  have hu := scanUp_le (fun x => lt x d[a]!) d (b - 1) (b - 1 + 1 - (a + 1)) (a + 1) (Nat.le_refl _)
  generalize Sort.scanUp (fun x => lt x d[a]!) d (b - 1) (a + 1) = i at *
  have hd := scanDown_le (fun x => !lt x d[a]!) d i (by omega) (b - 1)
  generalize Sort.scanDown (fun x => !lt x d[a]!) d i (b - 1) = j at *
  by_cases hc : i > j
  · rw [if_pos hc]; simp only; omega
  · rw [if_neg hc]
    have := part_rng lt a (j - 1 + 1 - (i + 1)) (i + 1) (j - 1) (Sort.swp d i j) (Nat.le_refl _) (by omega) (by omega)
    simp only; omega
theorem hint2 (h : Sort.Hint) : (hintN h = 2) ↔ h = .decreasing := by cases h <;> simp [hintN]
theorem hint1 (h : Sort.Hint) : decide (hintN h = 1) = decide (h = .increasing) := by cases h <;> simp [hintN]
theorem so_body (srt : List Int → Int → Int → Int → List Int) (hs : ∀ (xs : List Int) (a b lim : Nat), srt xs (a : Int) (b : Int) (lim : Int) = (Sort.pdq Sort.ltInt xs.toArray a b lim true true).toList) :
    ∀ (k a b lim m : Nat) (wb wp : Bool) (xs : List Int), b - a ≤ k → k < m → a ≤ b → b ≤ 4000000 →
      LR.on (pdqStep_l1 srt m ((a : Int), (b : Int), (lim : Int), wb, wp, xs)) (fun r => r) (fun _ => default) = (Sort.pdq Sort.ltInt xs.toArray a b lim wb wp).toList
  | k, a, b, lim, 0, wb, wp, xs, _, h, _, _ => by omega
  | k, a, b, lim, m + 1, wb, wp, xs, h1, h2, h3, h4 => by
    rw [pdqStep_l1, Sort.pdq]
    by_cases h12 : b - a ≤ 12
    · rw [if_pos (show (b : Int) - (a : Int) ≤ 12 by omega), if_pos h12, LR.seq_go, LR.on_ret, so_ins]
    rw [if_neg (show ¬ (b : Int) - (a : Int) ≤ 12 by omega), if_neg h12]
    by_cases h0 : lim = 0
    · rw [if_pos (show (lim : Int) = 0 by omega), if_pos h0, LR.seq_go, LR.on_ret, so_heap _ _ _ (by omega)]
    rw [if_neg (show ¬ (lim : Int) = 0 by omega), if_neg h0]
    simp only [LR.seq_go]
    have e2 : (if (!wb) = true then ((lim : Int) - 1, slices_breakPatternsOrdered_Id_m xs (a : Int) (b : Int)) else ((lim : Int), xs)) = (((if (!wb) = true then lim - 1 else lim : Nat) : Int), (if (!wb) = true then Sort.breakPatterns xs.toArray a b else xs.toArray).toList) := by
      cases wb with
      | true => rfl
      | false =>
        show ((lim : Int) - 1, slices_breakPatternsOrdered_Id_m xs (a : Int) (b : Int)) = (((lim - 1 : Nat) : Int), (Sort.breakPatterns xs.toArray a b).toList)
        rw [so_break xs a b (by omega) h4]; exact Prod.ext (by simp only; omega) rfl
    rw [e2]
    generalize (if (!wb) = true then lim - 1 else lim) = lim'
    obtain ⟨ys, hys⟩ : ∃ ys : List Int, (if (!wb) = true then Sort.breakPatterns xs.toArray a b else xs.toArray) = ys.toArray := ⟨_, (Array.toArray_toList).symm⟩
    rw [hys]
    simp only
    rw [so_choose ys a b (by omega)]
    have hc := Sort.choosePivot_holds Sort.ltInt ys.toArray a b (by omega)
    generalize Sort.choosePivot Sort.ltInt ys.toArray a b = c at *
    simp only
    have e3 : (if hintN c.2 = 2 then (((b : Int) - 1 - ((c.1 : Int) - (a : Int))), (1 : Int), slices_reverseRangeOrdered_Id_m ys (a : Int) (b : Int)) else ((c.1 : Int), hintN c.2, ys)) = (((if c.2 = .decreasing then b - 1 - (c.1 - a) else c.1 : Nat) : Int), hintN (if c.2 = .decreasing then .increasing else c.2), (if c.2 = .decreasing then Sort.reverseRange ys.toArray a b else ys.toArray).toList) := by
      by_cases hd : c.2 = .decreasing
      · rw [if_pos ((hint2 _).2 hd), if_pos hd, if_pos hd, if_pos hd, so_rev ys a b (by omega)]
        exact Prod.ext (by simp only; omega) rfl
      · rw [if_neg (fun q => hd ((hint2 _).1 q)), if_neg hd, if_neg hd, if_neg hd]
    rw [e3]
    have hpv : a ≤ (if c.2 = .decreasing then b - 1 - (c.1 - a) else c.1) ∧ (if c.2 = .decreasing then b - 1 - (c.1 - a) else c.1) < b := by split <;> omega
    generalize (if c.2 = .decreasing then b - 1 - (c.1 - a) else c.1) = p at *
    generalize (if c.2 = .decreasing then Sort.Hint.increasing else c.2) = hh
    obtain ⟨zs, hzs⟩ : ∃ zs : List Int, (if c.2 = .decreasing then Sort.reverseRange ys.toArray a b else ys.toArray) = zs.toArray := ⟨_, (Array.toArray_toList).symm⟩
    rw [hzs]
    simp only
    have e4 : (if wb = true then (if wp = true then decide (hintN hh = 1) else false) else false) = (wb && wp && decide (hh = .increasing)) := by rw [hint1]; cases wb <;> cases wp <;> rfl
    rw [e4]
    have tail : ∀ ws : List Int, LR.on (if (if (0 : Int) < (a : Int) then (!(cmp_Less_Id_m (ws.getD ((a : Int) - 1).toNat 0) (ws.getD (p : Int).toNat 0))) else false) = true then
          pdqStep_l1 srt m ((slices_partitionEqualOrdered_Id_m ws (a : Int) (b : Int) (p : Int)).1, (b : Int), (lim' : Int), wb, wp, (slices_partitionEqualOrdered_Id_m ws (a : Int) (b : Int) (p : Int)).2)
        else if (slices_partitionOrdered_Id_m ws (a : Int) (b : Int) (p : Int)).1 - (a : Int) < (b : Int) - (slices_partitionOrdered_Id_m ws (a : Int) (b : Int) (p : Int)).1 then
          pdqStep_l1 srt m ((slices_partitionOrdered_Id_m ws (a : Int) (b : Int) (p : Int)).1 + 1, (b : Int), (lim' : Int), decide (((b : Int) - (a : Int)) / 8 ≤ (slices_partitionOrdered_Id_m ws (a : Int) (b : Int) (p : Int)).1 - (a : Int)), (slices_partitionOrdered_Id_m ws (a : Int) (b : Int) (p : Int)).2.1, srt (slices_partitionOrdered_Id_m ws (a : Int) (b : Int) (p : Int)).2.2 (a : Int) (slices_partitionOrdered_Id_m ws (a : Int) (b : Int) (p : Int)).1 (lim' : Int))
        else
          pdqStep_l1 srt m ((a : Int), (slices_partitionOrdered_Id_m ws (a : Int) (b : Int) (p : Int)).1, (lim' : Int), decide (((b : Int) - (a : Int)) / 8 ≤ (b : Int) - (slices_partitionOrdered_Id_m ws (a : Int) (b : Int) (p : Int)).1), (slices_partitionOrdered_Id_m ws (a : Int) (b : Int) (p : Int)).2.1, srt (slices_partitionOrdered_Id_m ws (a : Int) (b : Int) (p : Int)).2.2 ((slices_partitionOrdered_Id_m ws (a : Int) (b : Int) (p : Int)).1 + 1) (b : Int) (lim' : Int))) (fun r => r) (fun _ => default)
        = (if (decide (a > 0) && !Sort.ltInt ws.toArray[a - 1]! ws.toArray[p]!) = true then
            match Sort.partitionEqual Sort.ltInt ws.toArray a b p with
            | (mid, d4) => if _h : a < mid ∧ mid ≤ b then Sort.pdq Sort.ltInt d4 mid b lim' wb wp else d4
          else
            match Sort.partition Sort.ltInt ws.toArray a b p with
            | (mid, alreadyPartitioned, d4) =>
              if _h : a ≤ mid ∧ mid < b then
                if mid - a < b - mid then
                  Sort.pdq Sort.ltInt (Sort.pdq Sort.ltInt d4 a mid lim' true true) (mid + 1) b lim' (decide (mid - a ≥ (b - a) / 8)) alreadyPartitioned
                else
                  Sort.pdq Sort.ltInt (Sort.pdq Sort.ltInt d4 (mid + 1) b lim' true true) a mid lim' (decide (b - mid ≥ (b - a) / 8)) alreadyPartitioned
              else d4).toList := fun ws => by
      rw [so_ifd, so_less, show decide ((0 : Int) < (a : Int)) = decide (a > 0) by rw [decide_eq_decide]; omega, show ((a : Int) - 1).toNat = a - 1 by omega, Int.toNat_natCast, so_get, so_get]
      cases hq : (decide (a > 0) && !Sort.ltInt (ws.getD (a - 1) 0) (ws.getD p 0)) with
      | true =>
        rw [if_pos rfl, if_pos rfl, so_pe ws a b p (by omega)]
        have hr := partEq_rng Sort.ltInt a (b - 1 + 1 - (a + 1)) (a + 1) (b - 1) (Sort.swp ws.toArray a p) (Nat.le_refl _) (by omega)
        change a + 1 ≤ (Sort.partitionEqual Sort.ltInt ws.toArray a b p).1 ∧ (Sort.partitionEqual Sort.ltInt ws.toArray a b p).1 ≤ max (a + 1) (b - 1 + 1) at hr
        generalize Sort.partitionEqual Sort.ltInt ws.toArray a b p = q at *
        obtain ⟨mid, d4⟩ := q
        dsimp only [pairI2] at *
        rw [dif_pos (by omega)]
        cases k with
        | zero => omega
        | succ k =>
          have := so_body srt hs k mid b lim' m wb wp d4.toList (by omega) (by omega) (by omega) h4
          rw [Array.toArray_toList] at this
          exact this
      | false =>
        rw [if_neg Bool.false_ne_true, if_neg Bool.false_ne_true, so_pp ws a b p (by omega)]
        have hr := partition_rng Sort.ltInt ws.toArray a b p (by omega)
        generalize Sort.partition Sort.ltInt ws.toArray a b p = q at *
        obtain ⟨mid, al, d4⟩ := q
        dsimp only [trip] at *
        rw [dif_pos hr]
        cases k with
        | zero => omega
        | succ k =>
          change LR.on (if (mid : Int) - (a : Int) < (b : Int) - (mid : Int) then pdqStep_l1 srt m ((mid : Int) + 1, (b : Int), (lim' : Int), decide (((b : Int) - (a : Int)) / 8 ≤ (mid : Int) - (a : Int)), al, srt d4.toList (a : Int) (mid : Int) (lim' : Int)) else pdqStep_l1 srt m ((a : Int), (mid : Int), (lim' : Int), decide (((b : Int) - (a : Int)) / 8 ≤ (b : Int) - (mid : Int)), al, srt d4.toList ((mid : Int) + 1) (b : Int) (lim' : Int))) (fun r => r) (fun _ => default) = _
          by_cases hm : mid - a < b - mid
          · refine (congrArg (fun z => LR.on z (fun r => r) (fun _ => default)) (if_pos (show (mid : Int) - (a : Int) < (b : Int) - (mid : Int) by omega))).trans ?_
            rw [if_pos hm, hs, Array.toArray_toList, show (mid : Int) + 1 = ((mid + 1 : Nat) : Int) by omega, show decide (((b : Int) - (a : Int)) / 8 ≤ (mid : Int) - (a : Int)) = decide (mid - a ≥ (b - a) / 8) by rw [decide_eq_decide]; omega]
            have := so_body srt hs k (mid + 1) b lim' m (decide (mid - a ≥ (b - a) / 8)) al (Sort.pdq Sort.ltInt d4 a mid lim' true true).toList (by omega) (by omega) (by omega) h4
            rw [Array.toArray_toList] at this
            exact this
          · refine (congrArg (fun z => LR.on z (fun r => r) (fun _ => default)) (if_neg (show ¬ (mid : Int) - (a : Int) < (b : Int) - (mid : Int) by omega))).trans ?_
            rw [if_neg hm, show (mid : Int) + 1 = ((mid + 1 : Nat) : Int) by omega, hs, Array.toArray_toList, show decide (((b : Int) - (a : Int)) / 8 ≤ (b : Int) - (mid : Int)) = decide (b - mid ≥ (b - a) / 8) by rw [decide_eq_decide]; omega]
            have := so_body srt hs k a mid lim' m (decide (b - mid ≥ (b - a) / 8)) al (Sort.pdq Sort.ltInt d4 (mid + 1) b lim' true true).toList (by omega) (by omega) (by omega) (by omega)
            rw [Array.toArray_toList] at this
            exact this
    cases hq : (wb && wp && decide (hh = .increasing)) with
    | false =>
      rw [if_neg Bool.false_ne_true, if_neg Bool.false_ne_true, LR.on_go, if_neg Bool.false_ne_true]
      exact tail zs
    | true =>
      rw [if_pos rfl, if_pos rfl, so_part zs a b (by omega)]
      generalize Sort.partialInsertionSort Sort.ltInt zs.toArray a b = q
      obtain ⟨d3, fin⟩ := q
      simp only [pairL]
      cases fin with
      | true => rfl
      | false =>
        have := tail d3.toList
        rw [Array.toArray_toList] at this
        exact this
/-- slices.Sort's answer, by the library's plain functions -/
def pdqM (xs : List Int) (a b lim : Int) : List Int := (Sort.pdq Sort.ltInt xs.toArray a.toNat b.toNat lim.toNat true true).toList
theorem pdqM_step (xs : List Int) (a b lim : Int) (h0 : 0 ≤ a) (h1 : a ≤ b) (h2 : b ≤ 4000000) (h3 : 0 ≤ lim) : pdqStep_m pdqM xs a b lim = pdqM xs a b lim := by
  obtain ⟨a, rfl⟩ : ∃ n : Nat, a = n := ⟨a.toNat, by omega⟩
  obtain ⟨b, rfl⟩ : ∃ n : Nat, b = n := ⟨b.toNat, by omega⟩
  obtain ⟨lim, rfl⟩ : ∃ n : Nat, lim = n := ⟨lim.toNat, by omega⟩
  unfold pdqStep_m
  rw [so_body pdqM (fun xs a b lim => by unfold pdqM; simp only [Int.toNat_natCast]) (b - a) a b lim _ true true xs (Nat.le_refl _) (by omega) (by omega) (by omega)]
  unfold pdqM; simp only [Int.toNat_natCast]
theorem pdqM_sort (xs : List Int) (lim : Int) : pdqM xs 0 (xs.length : Int) lim = sortI xs := by
  unfold pdqM
  simp only [Int.toNat_natCast]
  have h := Sort.pdq_sorts Sort.ltInt Sort.swo_ltInt xs.toArray 0 xs.length lim.toNat true true (Nat.zero_le _) (by simp) (.inl rfl)
  have := Sort.sorted_unique_holds Sort.swo_ltInt (fun x y h1 h2 => by unfold Sort.ltInt at h1 h2; rw [decide_eq_false_iff_not] at h1 h2; omega) xs.toArray (Sort.pdq Sort.ltInt xs.toArray 0 xs.length lim.toNat true true) (by simpa using h.1) (by simpa using h.2)
  rw [show (0 : Int).toNat = 0 from rfl, this]
  unfold sortI
  simp only [List.toList_toArray]
  congr 1
  funext x y
  unfold Sort.ltInt
  rw [← decide_not]
  rw [decide_eq_decide]; omega
end Go.SX

set_option linter.unusedVariables false
set_option linter.unusedSimpArgs false
namespace Go.SX
open Go Go.Proofs

theorem pdqAll : ∀ (N : Nat) (H : Heap) (v0 : Value) (xs : List Int) (C : Chunk), OwnS (intE .u64) 26 H v0 xs C → ∀ (a b lim : Int), 0 ≤ a → a ≤ b → b ≤ (xs.length : Int) → xs.length ≤ 4000000 → 0 ≤ lim → lim ≤ 100 → b - a < (N : Int) →
    Fc Try.prog (fnv 66) [v0, .int .i64 a, .int .i64 b, .int .i64 lim] H [C] (fun v1 H1 L1 => ∃ D, v1 = .tuple #[] ∧ L1 = [D] ∧ OwnS (intE .u64) 26 H1 v0 (pdqM xs a b lim) D)
  | 0, H, v0, xs, C, ho, a, b, lim, h1, h2, h3, h4, h5, h6, h7 => by omega
  | N + 1, H, v0, xs, C, ho, a, b, lim, h1, h2, h3, h4, h5, h6, h7 => by
    rw [← pdqM_step xs a b lim h1 h2 (by omega) h5]
    exact pdqStep_c H v0 xs C ho a b lim N pdqM (pdqAll N) h1 h2 h3 h4 h5 h6 (by omega)
theorem pdqF_c (H : Heap) (v0 : Value) (xs : List Int) (C : Chunk) (ho : OwnS (intE .u64) 26 H v0 xs C) (a b lim : Int) (h1 : 0 ≤ a) (h2 : a ≤ b) (h3 : b ≤ (xs.length : Int)) (h4 : xs.length ≤ 4000000) (h5 : 0 ≤ lim) (h6 : lim ≤ 100) :
    Fc Try.prog (fnv 66) [v0, .int .i64 a, .int .i64 b, .int .i64 lim] H [C] (fun v1 H1 L1 => ∃ D, v1 = .tuple #[] ∧ L1 = [D] ∧ OwnS (intE .u64) 26 H1 v0 (pdqM xs a b lim) D) :=
  pdqAll ((b - a).toNat + 1) H v0 xs C ho a b lim h1 h2 h3 h4 h5 h6 (by omega)
theorem blen_le (n : Nat) (h : n ≤ 4000000) : 0 ≤ blen (n : Int) ∧ blen (n : Int) ≤ 100 := by
  have hl : Sort.bitsLen n ≤ 22 := (Sort.bitsLen_le_iff n 22).2 (by omega)
  unfold blen
  rw [Int.toNat_natCast, Go.Proofs.bitLen_eq n (by omega)]
  omega
def slices_Sort_Id_m (a0 : List Int) : (List Int) :=
  LR.seq (pdqM a0 0 ((a0.length : Int)) ((blen ((a0.length : Int))))) (fun r10 => r10)
set_option maxHeartbeats 3200000 in
theorem slices_Sort_Id_c (H : Heap) (va0 : Value) (a0 : List Int) (Ca0 : Chunk) (ha0 : OwnS (intE .u64) 26 H va0 a0 Ca0) (hl : a0.length ≤ 4000000) : Fc Try.prog (fnv 17) [va0] H [Ca0] (fun v' H' L' => ∃ Da0, v' = .tuple #[] ∧ L' = [Da0] ∧ OwnS (intE .u64) 26 H' va0 (slices_Sort_Id_m a0) Da0) := by
  refine Fc.of_body (N := 11) Try.func17 rfl (by kernel_rfl) rfl rfl ?_
  intro w0
  obtain ⟨Aa0, pa0, rfl, ma0, na0⟩ := OwnS.shape ha0
  refine T.seq ?_
  refine T.region ?_
  refine R.mvE rfl (by conv => lhs; whnf) ?_
  refine R.len Try.underlying22 rfl rfl ?_
  refine R.asE rfl (by conv => lhs; whnf) ?_
  refine TL.nil (Post.thnN ?_)
  have hb := blen_le a0.length hl
  refine T.region ?_
  refine R.mvE rfl (by conv => lhs; whnf) ?_
  refine R.mvE rfl (by conv => lhs; whnf) ?_
  refine R.mvE rfl (by conv => lhs; whnf) ?_
  refine R.convU Try.underlying3 Try.underlying88 rfl rfl (by omega) ?_
  refine R.callv rfl rfl rfl (blen_c _ ((a0.length : Int)) (by first | omega | (simp; done) | (simp; omega) | (simp at *; omega)) (by first | omega | (simp; done) | (simp; omega) | (simp at *; omega))) ?_
  obtain ⟨r10, er10⟩ : ∃ r, r = (pdqM a0 0 ((a0.length : Int)) ((blen ((a0.length : Int))))) := ⟨_, rfl⟩
  refine TL.call [true] rfl rfl rfl (pdqF_c _ _ a0 _ ha0 (0) ((a0.length : Int)) ((blen ((a0.length : Int)))) (by first | omega | (simp; done) | (simp; omega) | (simp at *; omega)) (by first | omega | (simp; done) | (simp; omega) | (simp at *; omega)) (by first | omega | (simp; done) | (simp; omega) | (simp at *; omega)) (by first | omega | (simp; done) | (simp; omega) | (simp at *; omega)) (by first | omega | (simp; done) | (simp; omega) | (simp at *; omega)) (by first | omega | (simp; done) | (simp; omega) | (simp at *; omega))) ?_
  intro v10 H10 L10 s10 q10
  rw [← er10] at q10
  obtain ⟨D10_a0, rfl, rfl, w10_a0⟩ := q10
  have n10_a0_ := OwnS.len w10_a0
  refine TL.nil ?_
  have hM : slices_Sort_Id_m a0 = r10 := by subst er10; rw [slices_Sort_Id_m, LR.seq_go]
  exact fin0N [D10_a0] rfl (List.Sublist.cons_cons _ (List.nil_sublist _)) ⟨D10_a0, by first | rw [hM] | rfl, by first | rw [hM] | rfl, by rw [hM]; exact w10_a0⟩
theorem slices_Sort_Id_sort (a0 : List Int) : slices_Sort_Id_m a0 = sortI a0 := by
  unfold slices_Sort_Id_m
  simp only [LR.seq_go]
  exact pdqM_sort a0 _
end Go.SX

set_option linter.unusedVariables false
set_option linter.unusedSimpArgs false
namespace Go.SX
open Go Go.Proofs

def index_keys_1_l2 (yl1 : Int) : Nat → Nat → Unit → List Int
  | 0, kl2, sl2 => []
  | ml2 + 1, kl2, sl2 => if ((ident_Pair_m (([(((ident_Parts_m yl1).1, 0) : Int × Int), ((0, (ident_Parts_m yl1).2) : Int × Int), ((0, 0) : Int × Int)] : List (Int × Int)).getD ((kl2 : Int)).toNat (((0, 0) : Int × Int) : Int × Int)).1 (([(((ident_Parts_m yl1).1, 0) : Int × Int), ((0, (ident_Parts_m yl1).2) : Int × Int), ((0, 0) : Int × Int)] : List (Int × Int)).getD ((kl2 : Int)).toNat (((0, 0) : Int × Int) : Int × Int)).2).2 : Int) = 0 then (((ident_Pair_m (([(((ident_Parts_m yl1).1, 0) : Int × Int), ((0, (ident_Parts_m yl1).2) : Int × Int), ((0, 0) : Int × Int)] : List (Int × Int)).getD ((kl2 : Int)).toNat (((0, 0) : Int × Int) : Int × Int)).1 (([(((ident_Parts_m yl1).1, 0) : Int × Int), ((0, (ident_Parts_m yl1).2) : Int × Int), ((0, 0) : Int × Int)] : List (Int × Int)).getD ((kl2 : Int)).toNat (((0, 0) : Int × Int) : Int × Int)).2).1) :: (index_keys_1_l2 yl1 ml2 (kl2 + 1) ())) else (index_keys_1_l2 yl1 ml2 (kl2 + 1) ())
def index_keys_1_l1  : List Int → Unit → List Int
  | [], sl1 => []
  | yl1 :: ysl1, sl1 => yl1 :: (if ((kindG yl1) : Int) ≠ 3 then (index_keys_1_l1 ysl1 ()) else ((index_keys_1_l2 yl1 (3 - 0) 0 ()) ++ (index_keys_1_l1 ysl1 ())))
def index_keys_1_m (q0 : List Int) : List Int :=
  (index_keys_1_l1 q0 ()) ++ []
set_option maxHeartbeats 3200000 in
theorem index_keys_1_c (H : Heap) (b1000 : Nat) (vq0 : Value) (q0 : List Int) (hq0 : RdS (intE .u64) H vq0 q0) (hb0 : H b1000 = some (.cells #[vq0] 22)) : Iter Try.prog (.func (.func 143) #[] ([.pointer (some ⟨b1000, 0, none⟩)] : List Value).toArray) Y61 H (index_keys_1_m q0) := by
  intro l J Jx H1 Lc s1 hJ hJx hY h0
  obtain ⟨Aq0, cq0, rfl, hcq0, hdq0, hq0⟩ := hq0.shape
  refine Fc.of_body (N := 56) Try.func143 rfl (by kernel_rfl) rfl rfl ?_
  intro w0
  refine T.seq ?_
  refine T.region ?_
  refine R.ldH Try.isAgg22 rfl rfl (s1 _ _ hb0) rfl ?_
  refine R.len Try.underlying22 rfl rfl ?_
  refine R.mvE rfl (by conv => lhs; whnf) ?_
  refine TL.nil (Post.thnN ?_)
  refine T.block ?_
  refine T.loop (ι := Nat × (List Int) × Own) (fun ⟨kl1, accl1, Ml1⟩ H' L' ds' => kl1 ≤ q0.length ∧ Has L' (Ml1) ∧ J accl1 H' Ml1 ∧ accl1 ++ index_keys_1_l1 (q0.drop kl1) () = index_keys_1_l1 q0 ()) (fun ⟨kl1, accl1, Ml1⟩ => [(13, .int .i64 (kl1 : Int)), (0, yieldv l), (11, .slice Aq0 q0.length cq0), (12, .int .i64 (q0.length : Int))]) (fun ⟨kl1, accl1, Ml1⟩ => q0.length - kl1) (0, [], Lc) ?_ ?_ ?_
  · exact ⟨(by omega), (Has.refl _), (by simpa using h0), (by rfl)⟩
  · exact ⟨rfl, rfl, rfl, rfl, trivial⟩
  intro ⟨kl1, accl1, Ml1⟩ σ_l1 H_l1 L_l1 ds_l1 s_l1 hI_l1
  obtain ⟨hkl1, hI_l1⟩ := hI_l1
  obtain ⟨hLl1, hJl1, hQl1⟩ := hI_l1
  refine T.has hLl1 ?_
  refine T.seq ?_
  refine T.region ?_
  refine R.lss rfl rfl rfl ?_
  refine TL.nil (Post.thnN ?_)
  refine T.seq ?_
  refine T.condD rfl (fun c14 => ?_) (fun c14 => ?_)
  · have hltl1 : kl1 < q0.length := by omega
    obtain ⟨yl1, hyl1⟩ := getk (xs := q0) (k := kl1) (by omega)
    refine T.skip (Post.thnN ?_)
    refine T.seq ?_
    refine T.block ?_
    refine T.seq ?_
    refine T.region ?_
    obtain ⟨b15, o15, i15, k15⟩ := RdS.elem (hq0.mono (s1.trans s_l1)) hyl1
    obtain ⟨l15, g15, k15⟩ := k15
    obtain rfl : l15 = [.int .u64 yl1] := g15
    refine R.ixp Try.underlying22 Try.sizeOf26 rfl rfl rfl (by omega) i15 ?_
    refine R.ldC Try.isAgg26 rfl rfl (k15 0 _ rfl) ?_
    refine R.asE rfl (by conv => lhs; whnf) ?_
    refine TL.nil (Post.thnN ?_)
    refine T.seq ?_
    refine T.seq ?_
    refine T.region ?_
    refine R.mvE rfl (by conv => lhs; whnf) ?_
    refine R.mvE rfl (by conv => lhs; whnf) ?_
    have hP19_l1 : (accl1 ++ [yl1]) <+: index_keys_1_l1 q0 () := by rw [← hQl1, drop_cons hyl1, index_keys_1_l1]; exact (pf_app pf_one)
    have hP19_f : (accl1 ++ [yl1]) <+: index_keys_1_m q0 := by rw [index_keys_1_m]; exact (pf_l hP19_l1)
    have hp19 : (accl1 ++ [yl1]) <+: index_keys_1_m q0 := by simpa [List.append_assoc] using hP19_f
    refine TL.callT 0 rfl rfl rfl (hY accl1 yl1 _ H_l1 Ml1 s_l1 hp19 hJl1 rfl) ?_
    intro v19 H19 L19 s19 q19
    rcases q19 with ⟨rfl, j19⟩ | ⟨rfl, j19⟩
    · refine R.not rfl rfl ?_
      refine TL.nil (Post.thnN ?_)
      refine T.condN rfl ?_
      refine T.skip (Post.thnN ?_)
      refine T.seq ?_
      refine T.seq ?_
      refine T.region ?_
      refine R.mvE rfl (by conv => lhs; whnf) ?_
      refine R.callv rfl rfl rfl (kindG_c _ yl1) ?_
      refine R.neq rfl rfl rfl ?_
      refine TL.nil (Post.thnN ?_)
      refine T.condD rfl (fun c23 => ?_) (fun c23 => ?_)
      · refine T.set 23 (.bool true) (congrArg Value.bool (decide_eq_true c23)) ?_
        refine T.exit (Post.thnE (Post.blkX ?_))
        refine id (Post.thnN ?_)
        refine T.region ?_
        refine R.addI rfl rfl rfl (by omega) ?_
        refine R.mvE rfl (by conv => lhs; whnf) ?_
        refine TL.nil (Post.thnN ?_)
        exact ⟨(kl1 + 1, (accl1 ++ [yl1]), L19), (s_l1.trans s19), ⟨(by omega), (Has.refl _), (by simpa [List.append_assoc] using j19), (by (rw [← hQl1, drop_cons hyl1, index_keys_1_l1]; rw [if_pos c23]) <;> simp)⟩, by show q0.length - (kl1 + 1) < q0.length - kl1; omega, rfl, rfl, rfl, rfl, trivial⟩
      refine T.set 23 (.bool false) (congrArg Value.bool (decide_eq_false c23)) ?_
      refine T.skip (Post.thnN ?_)
      refine T.seq ?_
      refine T.region ?_
      refine R.mvE rfl (by conv => lhs; whnf) ?_
      refine R.callv rfl rfl rfl (ident_Parts_c _ (yl1)) ?_
      refine R.mvE rfl (by conv => lhs; whnf) ?_
      refine R.ext rfl rfl rfl ?_
      refine R.ext rfl rfl rfl ?_
      refine R.asE rfl (by conv => lhs; whnf) ?_
      refine R.asE rfl (by conv => lhs; whnf) ?_
      refine TL.nil (Post.thnN ?_)
      refine T.seq ?_
      refine T.region ?_
      refine R.mvE rfl (by conv => lhs; whnf) ?_
      refine R.bld (cs := [.int .i64 ((ident_Parts_m yl1).1), .int .i64 0]) rfl (fun _ => by kernel_rfl) ?_
      refine R.mvE rfl (by conv => lhs; whnf) ?_
      refine R.bld (cs := [.int .i64 0, .int .i64 ((ident_Parts_m yl1).2)]) rfl (fun _ => by kernel_rfl) ?_
      refine R.bld (cs := [.int .i64 0, .int .i64 0]) rfl (fun _ => by kernel_rfl) ?_
      refine R.bld (cs := [.int .i64 ((ident_Parts_m yl1).1), .int .i64 0, .int .i64 0, .int .i64 ((ident_Parts_m yl1).2), .int .i64 0, .int .i64 0]) rfl (fun _ => by kernel_rfl) ?_
      refine R.mvE rfl (by conv => lhs; whnf) ?_
      refine TL.nil (Post.thnN ?_)
      refine T.block ?_
      refine T.loop (ι := Nat × (List Int) × Own) (fun ⟨kl2, accl2, Ml2⟩ H' L' ds' => kl2 ≤ 3 ∧ Has L' (Ml2) ∧ J ((accl1 ++ [yl1]) ++ accl2) H' Ml2 ∧ accl2 ++ index_keys_1_l2 yl1 (3 - kl2) kl2 () = index_keys_1_l2 yl1 (3 - 0) 0 ()) (fun ⟨kl2, accl2, Ml2⟩ => [(35, .int .i64 (kl2 : Int)), (0, yieldv l), (11, .slice Aq0 q0.length cq0), (12, .int .i64 (q0.length : Int)), (13, .int .i64 (kl1 : Int)), (34, .agg #[.int .i64 ((ident_Parts_m yl1).1), .int .i64 0, .int .i64 0, .int .i64 ((ident_Parts_m yl1).2), .int .i64 0, .int .i64 0])]) (fun ⟨kl2, accl2, Ml2⟩ => 3 - kl2) (0, [], L19) ?_ ?_ ?_
      · exact ⟨(by omega), (Has.refl _), (by simpa using j19), (by rfl)⟩
      · exact ⟨rfl, rfl, rfl, rfl, rfl, rfl, trivial⟩
      intro ⟨kl2, accl2, Ml2⟩ σ_l2 H_l2 L_l2 ds_l2 s_l2 hI_l2
      obtain ⟨hkl2, hI_l2⟩ := hI_l2
      obtain ⟨hLl2, hJl2, hQl2⟩ := hI_l2
      refine T.has hLl2 ?_
      refine T.seq ?_
      refine T.region ?_
      refine R.lss rfl rfl rfl ?_
      refine TL.nil (Post.thnN ?_)
      refine T.seq ?_
      refine T.condD rfl (fun c36 => ?_) (fun c36 => ?_)
      · have hltl2 : kl2 < 3 := by omega
        refine T.skip (Post.thnN ?_)
        refine T.seq ?_
        refine T.block ?_
        refine T.seq ?_
        refine T.region ?_
        obtain ⟨y37, e37⟩ : ∃ y, y = (([(((ident_Parts_m yl1).1, 0) : Int × Int), ((0, (ident_Parts_m yl1).2) : Int × Int), ((0, 0) : Int × Int)] : List (Int × Int)).getD ((kl2 : Int)).toNat (((0, 0) : Int × Int) : Int × Int)) := ⟨_, rfl⟩
        refine R.idxG (l := [.int .i64 (y37.1), .int .i64 (y37.2)]) Try.underlying134 Try.isAgg62 Try.sizeOf62 rfl rfl rfl (by omega) (by omega) (by rw [e37]; rcases (show (kl2 : Int) = 0 ∨ (kl2 : Int) = 1 ∨ (kl2 : Int) = 2 by omega) with h | h | h <;> rw [h] <;> rfl) ?_
        refine R.alloc Try.zeroValue62 rfl ?_
        intro b8
        refine R.stX (old := [.int .i64 0, .int .i64 0]) (l := [.int .i64 (y37.1), .int .i64 (y37.2)]) (new := [.int .i64 (y37.1), .int .i64 (y37.2)]) (et := 62) Try.sizeOf62 rfl rfl rfl rfl rfl (by show 0 + 2 ≤ 2; decide) rfl (all_one rfl) .hd ?_
        refine TL.shut .hd ?_
        intro Hb8_1 sb8_1 qb8_1
        have hb8_1 : Hb8_1 b8 = some (.cells #[.int .i64 (y37.1), .int .i64 (y37.2)] 62) := shut1 qb8_1
        refine TL.nil (Post.thnN ?_)
        refine T.seq ?_
        refine T.region ?_
        refine R.ixA Try.underlying62 Try.sizeOf3 rfl rfl rfl (by decide) (by decide) ?_
        refine R.ldH Try.isAgg3 rfl rfl hb8_1 rfl ?_
        refine R.ixA Try.underlying62 Try.sizeOf3 rfl rfl rfl (by decide) (by decide) ?_
        refine R.ldH Try.isAgg3 rfl rfl hb8_1 rfl ?_
        refine R.callv rfl rfl rfl (ident_Pair_c _ (y37.1) (y37.2)) ?_
        refine R.mvE rfl (by conv => lhs; whnf) ?_
        refine R.ext rfl rfl rfl ?_
        refine R.ext rfl rfl rfl ?_
        refine R.asE rfl (by conv => lhs; whnf) ?_
        refine R.asE rfl (by conv => lhs; whnf) ?_
        refine TL.nil (Post.thnN ?_)
        refine T.seq ?_
        refine T.region ?_
        refine R.mvE rfl (by conv => lhs; whnf) ?_
        refine R.eql rfl rfl rfl ?_
        refine R.mvE rfl (by conv => lhs; whnf) ?_
        refine TL.gsplitD 48 rfl (fun g48 => ?_) (fun g48 => ?_)
        · refine R.mvE rfl (by conv => lhs; whnf) ?_
          refine R.mvE rfl (by conv => lhs; whnf) ?_
          have hP51_l2 : (accl2 ++ [(ident_Pair_m y37.1 y37.2).1]) <+: index_keys_1_l2 yl1 (3 - 0) 0 () := by subst e37; rw [← hQl2, show 3 - kl2 = (3 - (kl2 + 1)) + 1 by omega, index_keys_1_l2]; rw [if_pos g48]; exact (pf_app pf_one)
          have hP51_l1 : (accl1 ++ (yl1 :: (accl2 ++ [(ident_Pair_m y37.1 y37.2).1]))) <+: index_keys_1_l1 q0 () := by rw [← hQl1, drop_cons hyl1, index_keys_1_l1]; rw [if_neg c23]; exact (pf_app (pf_cons (pf_l hP51_l2)))
          have hP51_f : (accl1 ++ (yl1 :: (accl2 ++ [(ident_Pair_m y37.1 y37.2).1]))) <+: index_keys_1_m q0 := by rw [index_keys_1_m]; exact (pf_l hP51_l1)
          have hp51 : (((accl1 ++ [yl1]) ++ accl2) ++ [(ident_Pair_m y37.1 y37.2).1]) <+: index_keys_1_m q0 := by simpa [List.append_assoc] using hP51_f
          refine TL.callT 0 rfl rfl rfl (hY (((accl1 ++ [yl1]) ++ accl2)) ((ident_Pair_m y37.1 y37.2).1) _ Hb8_1 Ml2 (s_l1.trans (s19.trans (s_l2.trans sb8_1))) hp51 (hJ _ _ _ _ sb8_1 hJl2) rfl) ?_
          intro v51 H51 L51 s51 q51
          rcases q51 with ⟨rfl, j51⟩ | ⟨rfl, j51⟩
          · refine R.not rfl rfl ?_
            refine R.pkTE rfl rfl (by conv => lhs; whnf) ?_
            refine TL.nil (Post.thnN ?_)
            refine T.condN rfl ?_
            refine T.skip (Post.blkN ?_)
            refine id (Post.thnN ?_)
            refine T.region ?_
            refine R.addI rfl rfl rfl (by omega) ?_
            refine R.mvE rfl (by conv => lhs; whnf) ?_
            refine TL.nil (Post.thnN ?_)
            exact ⟨(kl2 + 1, (accl2 ++ [(ident_Pair_m y37.1 y37.2).1]), L51), (s_l2.trans (sb8_1.trans s51)), ⟨(by omega), (Has.refl _), (by simpa [List.append_assoc] using j51), (by subst e37; (rw [← hQl2, show 3 - kl2 = (3 - (kl2 + 1)) + 1 by omega, index_keys_1_l2]; rw [if_pos g48]) <;> simp)⟩, by show 3 - (kl2 + 1) < 3 - kl2; omega, rfl, rfl, rfl, rfl, rfl, rfl, trivial⟩
          refine R.not rfl rfl ?_
          refine R.pkTE rfl rfl (by conv => lhs; whnf) ?_
          refine TL.nil (Post.thnN ?_)
          refine T.condY rfl ?_
          refine T.ret (Post.blkR (Post.thnR (Post.thnR (Post.blkR (Post.blkR (Post.thnR (Post.thnR (Post.blkR ?_))))))))
          exact fin0L L51 rfl (List.Sublist.refl _) (.inr ⟨((accl1 ++ [yl1]) ++ accl2), (ident_Pair_m y37.1 y37.2).1, hp51, j51⟩)
        refine TL.off rfl rfl rfl ?_
        refine TL.off rfl rfl rfl ?_
        refine TL.off rfl rfl rfl ?_
        refine TL.off rfl rfl rfl ?_
        refine R.pkFE rfl rfl (by conv => lhs; whnf) ?_
        refine TL.nil (Post.thnN ?_)
        refine T.condN rfl ?_
        refine T.skip (Post.blkN ?_)
        refine id (Post.thnN ?_)
        refine T.region ?_
        refine R.addI rfl rfl rfl (by omega) ?_
        refine R.mvE rfl (by conv => lhs; whnf) ?_
        refine TL.nil (Post.thnN ?_)
        exact ⟨(kl2 + 1, accl2, Ml2), (s_l2.trans sb8_1), ⟨(by omega), (Has.refl _), (by simpa [List.append_assoc] using (hJ _ _ _ _ sb8_1 hJl2)), (by subst e37; (rw [← hQl2, show 3 - kl2 = (3 - (kl2 + 1)) + 1 by omega, index_keys_1_l2]; rw [if_neg g48]) <;> simp)⟩, by show 3 - (kl2 + 1) < 3 - kl2; omega, rfl, rfl, rfl, rfl, rfl, rfl, trivial⟩
      refine T.exit (Post.thnE (Post.thnE (Post.blkX ?_)))
      have hEl2 : index_keys_1_l2 yl1 (3 - 0) 0 () = accl2 := (by rw [← hQl2, show kl2 = 3 by omega, Nat.sub_self, index_keys_1_l2] <;> simp)
      refine id (Post.blkN ?_)
      refine id (Post.thnN ?_)
      refine T.region ?_
      refine R.addI rfl rfl rfl (by omega) ?_
      refine R.mvE rfl (by conv => lhs; whnf) ?_
      refine TL.nil (Post.thnN ?_)
      exact ⟨(kl1 + 1, ((accl1 ++ [yl1]) ++ accl2), Ml2), (s_l1.trans (s19.trans s_l2)), ⟨(by omega), (Has.refl _), (by simpa [List.append_assoc] using hJl2), (by (rw [← hQl1, drop_cons hyl1, index_keys_1_l1]; rw [if_neg c23, hEl2]) <;> simp)⟩, by show q0.length - (kl1 + 1) < q0.length - kl1; omega, rfl, rfl, rfl, rfl, trivial⟩
    refine R.not rfl rfl ?_
    refine TL.nil (Post.thnN ?_)
    refine T.condY rfl ?_
    refine T.ret (Post.thnR (Post.blkR (Post.thnR (Post.thnR (Post.blkR ?_)))))
    exact fin0L L19 rfl (List.Sublist.refl _) (.inr ⟨accl1, yl1, hp19, j19⟩)
  refine T.exit (Post.thnE (Post.thnE (Post.blkX ?_)))
  have hEl1 : index_keys_1_l1 q0 () = accl1 := (by rw [← hQl1, show kl1 = q0.length by omega, List.drop_length, index_keys_1_l1] <;> simp)
  refine id ?_
  have hM : index_keys_1_m q0 = accl1 := by rw [index_keys_1_m, hEl1] <;> simp
  exact fin0N Ml1 rfl (List.Sublist.refl _) (.inl (by rw [hM]; exact hJl1))
def index_keys_m (a0 : List Int) : (List Int) :=
  (index_keys_1_m a0)
set_option maxHeartbeats 3200000 in
theorem index_keys_c (H : Heap) (va0 : Value) (a0 : List Int) (ha0 : RdS (intE .u64) H va0 a0) : Fp Try.prog (fnv 88) [va0] H (fun v' H' => ∃ u0_0, v' = .func (.func 143) #[] u0_0 ∧ Iter Try.prog (.func (.func 143) #[] u0_0) Y61 H' (index_keys_m a0)) := by
  refine Fc.of_body (N := 4) Try.func88 rfl (by kernel_rfl) rfl rfl ?_
  intro w0
  obtain ⟨Aa0, ca0, rfl, hca0, hda0, ha0⟩ := ha0.shape
  refine T.seq ?_
  refine T.region ?_
  refine R.box rfl (by conv => lhs; whnf) ?_
  intro b1
  refine R.asE rfl (by conv => lhs; whnf) ?_
  refine TL.shut .hd ?_
  intro Hb1_1 sb1_1 qb1_1
  have hb1_1 : Hb1_1 b1 = some (.cells #[.slice Aa0 a0.length ca0] 22) := shut1 qb1_1
  refine TL.nil (Post.thnN ?_)
  refine T.seq ?_
  refine T.region ?_
  refine R.mkf (cs := [_]) rfl rfl ?_
  refine R.asE rfl (by conv => lhs; whnf) ?_
  refine TL.nil (Post.thnN ?_)
  refine T.has Has.nil ?_
  refine T.ret ?_
  have hM : index_keys_m a0 = (index_keys_1_m a0) := by rw [index_keys_m]
  exact fin1L (v := .func (.func 143) #[] ([.pointer (some ⟨b1, 0, none⟩)] : List Value).toArray) [] rfl rfl (List.Sublist.refl _) ⟨rfl, ([.pointer (some ⟨b1, 0, none⟩)] : List Value).toArray, by first | rw [hM] | rfl, by rw [hM]; exact (index_keys_1_c _ b1 _ a0 (ha0.mono sb1_1) hb1_1)⟩
theorem keys_l2 (y : Int) : ∀ (m k : Nat), (index_keys_1_l2 y m k ()).length ≤ m
  | 0, k => Nat.le_refl _
  | m + 1, k => by
    rw [index_keys_1_l2]
    have := keys_l2 y m (k + 1)
    split
    · rw [List.length_cons]; omega
    · omega
theorem keys_l1 : ∀ (l : List Int), (index_keys_1_l1 l ()).length ≤ 4 * l.length
  | [] => Nat.le_refl _
  | y :: ys => by
    rw [index_keys_1_l1, List.length_cons, List.length_cons]
    have := keys_l1 ys
    split
    · omega
    · have := keys_l2 y 3 0; rw [List.length_append]; simp only [Nat.sub_zero] at *; omega
theorem keys_len (l r : List Int) (e : r = index_keys_m l) : r.length ≤ 4 * l.length := by
  rw [e]; unfold index_keys_m index_keys_1_m; rw [List.append_nil]; exact keys_l1 l
def index_once_m (a0 : List Int) : (List Int) :=
  LR.seq (slices_Sort_Id_m a0) (fun r4 => LR.seq (slices_Compact_Id_m r4) (fun r6 => r6))
set_option maxHeartbeats 3200000 in
theorem index_once_c (H : Heap) (va0 : Value) (a0 : List Int) (Ca0 : Chunk) (ha0 : OwnS (intE .u64) 26 H va0 a0 Ca0) (hl : a0.length ≤ 4000000) : Fc Try.prog (fnv 89) [va0] H [Ca0] (fun v' H' L' => ∃ u0_0 c0_0, v' = u0_0 ∧ L' = [c0_0] ∧ OwnS (intE .u64) 26 H' u0_0 (index_once_m a0) c0_0) := by
  refine Fc.of_body (N := 7) Try.func89 rfl (by kernel_rfl) rfl rfl ?_
  intro w0
  obtain ⟨Aa0, pa0, rfl, ma0, na0⟩ := OwnS.shape ha0
  refine T.seq ?_
  refine T.region ?_
  refine R.asE rfl (by conv => lhs; whnf) ?_
  refine TL.nil (Post.thnN ?_)
  refine T.seq ?_
  refine T.region ?_
  refine R.mvE rfl (by conv => lhs; whnf) ?_
  obtain ⟨r4, er4⟩ : ∃ r, r = (slices_Sort_Id_m a0) := ⟨_, rfl⟩
  refine TL.call [true] rfl rfl rfl (slices_Sort_Id_c _ _ a0 _ ha0 (by first | omega | (simp; done) | (simp; omega) | (simp at *; omega))) ?_
  intro v4 H4 L4 s4 q4
  rw [← er4] at q4
  obtain ⟨D4_a0, rfl, rfl, w4_a0⟩ := q4
  have n4_a0_ := OwnS.len w4_a0
  have ts4 : r4 = sortI _ := er4.trans (slices_Sort_Id_sort _)
  refine TL.nil (Post.thnN ?_)
  refine T.seq ?_
  refine T.region ?_
  refine R.mvE rfl (by conv => lhs; whnf) ?_
  refine TL.has (Has.cons .hd Has.nil) ?_
  obtain ⟨r6, er6⟩ : ∃ r, r = (slices_Compact_Id_m r4) := ⟨_, rfl⟩
  refine TL.call [true] rfl rfl rfl (slices_Compact_Id_c _ _ r4 _ w4_a0 (by first | omega | (simp; done) | (simp; omega) | (simp at *; omega))) ?_
  intro v6 H6 L6 s6 q6
  rw [← er6] at q6
  obtain ⟨u6_0_0, c6_0_0, rfl, rfl, w6_0_0⟩ := q6
  obtain ⟨A6_0_0, p6_0_0, rfl, m6_0_0, n6_0_0⟩ := OwnS.shape w6_0_0
  refine R.asE rfl (by conv => lhs; whnf) ?_
  refine TL.nil (Post.thnN ?_)
  refine T.has (Has.cons .hd Has.nil) ?_
  refine T.ret ?_
  have hM : index_once_m a0 = r6 := by subst er6; subst er4; rw [index_once_m, LR.seq_go, LR.seq_go]
  exact fin1L (v := .slice A6_0_0 r6.length p6_0_0) [c6_0_0] rfl rfl (List.Sublist.refl _) ⟨.slice A6_0_0 r6.length p6_0_0, c6_0_0, by first | rw [hM] | rfl, rfl, by rw [hM]; exact w6_0_0⟩
theorem once_eq (l : List Int) : index_once_m l = dd (sortI l) := by
  unfold index_once_m
  rw [LR.seq_go, LR.seq_go, slices_Sort_Id_sort, comp_eq]
theorem ddF_len : ∀ (l : List Int) (p : Int), (ddF p l).length ≤ l.length
  | [], p => Nat.le_refl _
  | y :: ys, p => by
    rw [ddF]
    split
    · have := ddF_len ys p; rw [List.length_cons]; omega
    · have := ddF_len ys y; rw [List.length_cons, List.length_cons]; omega
theorem dd_len (l : List Int) : (dd l).length ≤ l.length := by
  cases l with
  | nil => exact Nat.le_refl _
  | cons x l => have := ddF_len l x; rw [dd, List.length_cons, List.length_cons]; omega
theorem once_len (l r : List Int) (e : r = index_once_m l) : r.length ≤ l.length := by
  rw [e, once_eq]; have := dd_len (sortI l); rw [(sortI_perm l).length_eq] at this; exact this
def index_Keys_r1  : List Int → ((List Int)) → (List Int)
  | [], sr1 => sr1
  | yr1 :: ysr1, sr1 => index_Keys_r1 ysr1 ((sr1 ++ [yr1]))
def index_Keys_m (a0 : List Int) : (List Int) :=
  if ((types_Check_m a0) : Int) ≠ 0 then [] else (LR.seq (index_keys_m a0) (fun r9 => LR.seq (index_Keys_r1 r9 []) (fun or1 => LR.seq (index_once_m or1) (fun r16 => r16))))
set_option maxHeartbeats 3200000 in
theorem index_Keys_c (H : Heap) (va0 : Value) (a0 : List Int) (ha0 : RdS (intE .u64) H va0 a0) : Fc Try.prog (fnv 36) [va0] H [] (fun v' H' L' => ∃ u0_0 c0_0, v' = u0_0 ∧ L' = [c0_0] ∧ OwnS (intE .u64) 26 H' u0_0 (index_Keys_m a0) c0_0) := by
  refine Fc.of_body (N := 17) Try.func36 rfl (by kernel_rfl) rfl rfl ?_
  intro w0
  obtain ⟨Aa0, ca0, rfl, hca0, hda0, ha0⟩ := ha0.shape
  refine T.seq ?_
  refine T.region ?_
  refine R.asE rfl (by conv => lhs; whnf) ?_
  refine TL.nil (Post.thnN ?_)
  refine T.seq ?_
  refine T.seq ?_
  refine T.region ?_
  refine R.mvE rfl (by conv => lhs; whnf) ?_
  refine R.callv rfl rfl rfl (types_Check_c _ _ a0 ha0) ?_
  refine R.neq rfl rfl rfl ?_
  refine TL.nil (Post.thnN ?_)
  refine T.condD rfl (fun c7 => ?_) (fun c7 => ?_)
  · refine T.set 7 (.bool true) (congrArg Value.bool (decide_eq_true c7)) ?_
    refine T.seq ?_
    refine T.region ?_
    refine R.asE rfl (by conv => lhs; whnf) ?_
    refine TL.nil (Post.thnN ?_)
    refine T.has (Has.none Has.nil) ?_
    refine T.ret (Post.thnR ?_)
    have hM : index_Keys_m a0 = [] := by rw [index_Keys_m, if_pos c7]
    exact fin1L (v := .slice none 0 0) [[]] rfl rfl (List.Sublist.refl _) ⟨.slice none 0 0, [], by first | rw [hM] | rfl, rfl, by rw [hM]; exact OwnS.nil⟩
  refine T.set 7 (.bool false) (congrArg Value.bool (decide_eq_false c7)) ?_
  refine T.skip (Post.thnN ?_)
  refine T.seq ?_
  have tc := (tcheck_ok (by simpa using c7)).1
  refine T.region ?_
  refine R.alloc Try.zeroValue22 rfl ?_
  intro b3
  refine TL.nil (Post.thnN ?_)
  refine T.seq ?_
  refine T.seq ?_
  refine T.region ?_
  refine R.mvE rfl (by conv => lhs; whnf) ?_
  obtain ⟨r9, er9⟩ : ∃ r, r = (index_keys_m a0) := ⟨_, rfl⟩
  refine R.callp rfl rfl rfl (index_keys_c _ _ a0 ha0) ?_
  intro v9 H9 s9 q9
  rw [← er9] at q9
  obtain ⟨u9_0_0, rfl, w9_0_0⟩ := q9
  have tk9 := keys_len _ _ er9
  refine TL.nil (Post.thnN ?_)
  refine T.block ?_
  refine T.rangeFunc (xs := r9) rfl rfl (enters_of Try.func143 (by kernel_rfl) rfl) w9_0_0 (fun _ _ _ h => by subst h; rfl) rfl (fun pre H' L' => ∃ (vb3r1_0 : Value) (xb3r1_0 : List Int) (cb3r1_0 : Chunk), Has L' [[(b3, .cells #[vb3r1_0] 22)], cb3r1_0] ∧ OwnS (intE .u64) 26 H' vb3r1_0 xb3r1_0 cb3r1_0 ∧ xb3r1_0.length = pre.length ∧ index_Keys_r1 (r9.drop pre.length) xb3r1_0 = index_Keys_r1 r9 []) (fun _ _ _ _ => False) (fun pre H H' L hle ⟨vb3r1_0, xb3r1_0, cb3r1_0, hL, wb3r1_0, hB0, hQ⟩ => ⟨vb3r1_0, xb3r1_0, cb3r1_0, hL, (wb3r1_0.mono hle), hB0, hQ⟩) (fun _ _ _ _ _ _ h => h) ?_ ?_ ?_ ?_
  · exact ⟨.slice none 0 0, [], [], (Has.cons .hd (Has.none Has.nil)), OwnS.nil, (by first | omega | (simp; done) | (simp; omega) | (simp at *; omega)), (by rfl)⟩
  · intro lr1 rr1 wr1 prer1 yr1 vsr1 Hr1 Lr1 sr1 hpr1 hIr1 hYr1
    obtain ⟨vb3r1_0, xb3r1_0, cb3r1_0, hLr1, wb3r1_0, hBr1_0, hQr1⟩ := hIr1
    obtain ⟨Ab3r1_0, pb3r1_0, rfl, mb3r1_0, nb3r1_0_⟩ := OwnS.shape wb3r1_0
    obtain rfl := hYr1
    refine T.has hLr1 ?_
    have hlpr1 : prer1.length + 1 ≤ r9.length := by have h0 := hpr1.length_le; simpa using h0
    refine T.region ?_
    refine R.asE rfl (by conv => lhs; whnf) ?_
    refine TL.nil ?_
    refine onlyN.mk ?_
    refine T.block ?_
    refine T.region ?_
    refine R.ld Try.isAgg22 rfl rfl .hd rfl ?_
    refine R.mvE rfl (by conv => lhs; whnf) ?_
    refine R.bs rfl (run_buildSlice1 Try.underlying22 Try.sizeOf26 Try.zeroValue26 rfl rfl) ?_
    intro b13
    have w13 : OwnS (intE .u64) 26 Hr1 (.slice (some ⟨b13, 0, none⟩) 1 1) [yr1] [(b13, .cells #[.int .u64 yr1] 26)] := OwnS.lit (xs := [yr1]) (cellsOf_cons (a := [.int .u64 yr1]) rfl cellsOf_nil) (by show 1 ≤ maxLen; decide)
    obtain ⟨k14, y14, r14⟩ := Src.ownA w13
    refine R.app (E := (intE .u64)) (e := 26) (xs := xb3r1_0) (ys := [yr1]) Try_ty22 rfl rfl rfl wb3r1_0 (.tl (.tl .hd)) (r14 _ .hd) y14 (by (try simp only [List.length_append, List.length_cons, List.length_nil, List.length_replicate, List.length_take, List.length_drop]); omega) (by (try simp only [List.length_append, List.length_cons, List.length_nil, List.length_replicate, List.length_take, List.length_drop]); omega) ?_
    intro v14 c14 w14
    obtain ⟨A14, p14, rfl, m14, n14⟩ := OwnS.shape w14
    refine TL.del (.tl .hd) ?_
    refine R.stX (old := [.slice Ab3r1_0 xb3r1_0.length pb3r1_0]) (l := [.slice A14 (xb3r1_0 ++ [yr1]).length p14]) (new := [.slice A14 (xb3r1_0 ++ [yr1]).length p14]) (et := 22) Try.sizeOf22 rfl rfl rfl (cells1 rfl) rfl (by show 0 + 1 ≤ 1; decide) rfl (all_one rfl) (.tl .hd) ?_
    refine TL.nil (Post.blkN ?_)
    refine id ?_
    exact ⟨.slice A14 (xb3r1_0 ++ [yr1]).length p14, (xb3r1_0 ++ [yr1]), c14, (Has.cons (.tl .hd) (Has.cons .hd Has.nil)), w14, (by first | omega | (simp; done) | (simp; omega) | (simp at *; omega)), (by rw [← hQr1, drop_pre hpr1, index_Keys_r1])⟩
  · intro Dr1 Hr1 Lr1 sr1 hIr1
    obtain ⟨vb3r1_0, xb3r1_0, cb3r1_0, hLr1, wb3r1_0, hBr1_0, hQr1⟩ := hIr1
    obtain ⟨Ab3r1_0, pb3r1_0, rfl, mb3r1_0, nb3r1_0_⟩ := OwnS.shape wb3r1_0
    have hEr1 : index_Keys_r1 r9 [] = xb3r1_0 := by rw [← hQr1, List.drop_length, index_Keys_r1]
    refine id (Post.blkN ?_)
    refine id (Post.thnN ?_)
    refine T.has hLr1 ?_
    refine T.seq ?_
    refine T.region ?_
    refine R.ld Try.isAgg22 rfl rfl .hd rfl ?_
    refine TL.has (Has.cons (.tl .hd) (Has.cons .hd Has.nil)) ?_
    obtain ⟨r16, er16⟩ : ∃ r, r = (index_once_m xb3r1_0) := ⟨_, rfl⟩
    refine TL.call [true] rfl rfl rfl (index_once_c _ _ xb3r1_0 _ wb3r1_0 (by first | omega | (simp; done) | (simp; omega) | (simp at *; omega))) ?_
    intro v16 H16 L16 s16 q16
    rw [← er16] at q16
    obtain ⟨u16_0_0, c16_0_0, rfl, rfl, w16_0_0⟩ := q16
    obtain ⟨A16_0_0, p16_0_0, rfl, m16_0_0, n16_0_0⟩ := OwnS.shape w16_0_0
    have to16 := once_len _ _ er16
    refine R.asE rfl (by conv => lhs; whnf) ?_
    refine TL.nil (Post.thnN ?_)
    refine T.has (Has.cons .hd Has.nil) ?_
    refine T.ret ?_
    have hM : index_Keys_m a0 = r16 := by subst er16; subst er9; rw [index_Keys_m, if_neg c7, LR.seq_go, hEr1, LR.seq_go, LR.seq_go]
    exact fin1L (v := .slice A16_0_0 r16.length p16_0_0) [c16_0_0] rfl rfl (List.Sublist.refl _) ⟨.slice A16_0_0 r16.length p16_0_0, c16_0_0, by first | rw [hM] | rfl, rfl, by rw [hM]; exact w16_0_0⟩
  intro Dr1 cr1 prer1 yr1 Hr1 Lr1 sr1 hpr1 hIr1
  exact hIr1.elim
theorem Keys_r1 : ∀ (l a : List Int), index_Keys_r1 l a = a ++ l
  | [], a => by simp [index_Keys_r1]
  | y :: ys, a => by rw [index_Keys_r1, Keys_r1 ys]; simp
theorem Keys_m (l : List Int) : index_Keys_m l = if types_Check_m l = 0 then dd (sortI (index_keys_m l)) else [] := by
  unfold index_Keys_m
  simp only [LR.seq_go]
  by_cases h : types_Check_m l = 0
  · rw [if_neg (fun q => q h), if_pos h, Keys_r1, List.nil_append, once_eq]
  · rw [if_pos h, if_neg h]
theorem Keys_len (l r : List Int) (e : r = index_Keys_m l) : r.length ≤ 48 := by
  rw [e, Keys_m]
  split
  · rename_i h
    have h1 := (tcheck_ok h).1
    have h2 := keys_len l _ rfl
    have h3 := dd_len (sortI (index_keys_m l))
    rw [(sortI_perm _).length_eq] at h3; omega
  · exact Nat.zero_le _
end Go.SX

set_option linter.unusedVariables false
set_option linter.unusedSimpArgs false
namespace Go.SX
open Go
/-- the patterns that take a pair -/
def pats (y : Int) : List Int := [made 9223372036854775808 (hA y) 0, made 9223372036854775808 0 (hB y), made 9223372036854775808 0 0]
theorem keys_l2_pair {y : Int} (hu : U y) (h : kindI y = 3) : index_keys_1_l2 y (3 - 0) 0 () = pats y := by
  obtain ⟨h1, h2, h3⟩ := (kind_pair hu).1 h
  have e0 : ident_Parts_m y = (hA y, hB y) := parts_pair hu h
  have p1 : ident_Pair_m (hA y) 0 = (made 9223372036854775808 (hA y) 0, 0) := pair_ok (by omega) (by omega)
  have p2 : ident_Pair_m 0 (hB y) = (made 9223372036854775808 0 (hB y), 0) := pair_ok (by omega) (by omega)
  have p3 : ident_Pair_m 0 0 = (made 9223372036854775808 0 0, 0) := pair_ok (by omega) (by omega)
  show index_keys_1_l2 y 3 0 () = _
  simp [index_keys_1_l2, e0, p1, p2, p3, pats]
theorem keys_l1_mem (x : Int) : ∀ (l : List Int), (∀ y ∈ l, U y) → (x ∈ index_keys_1_l1 l () ↔ ∃ y ∈ l, x = y ∨ (kindI y = 3 ∧ x ∈ pats y))
  | [], _ => by simp [index_keys_1_l1]
  | y :: ys, h => by
    have hy := h y (List.mem_cons_self ..)
    rw [index_keys_1_l1, kind_i hy, List.mem_cons]
    have ih := keys_l1_mem x ys (fun z hz => h z (List.mem_cons_of_mem _ hz))
    by_cases e : kindI y = 3
    · rw [if_neg (fun q => q e), keys_l2_pair hy e, List.mem_append, ih]
      constructor
      · rintro (q | q | ⟨z, hz, q⟩)
        · exact ⟨y, List.mem_cons_self .., .inl q⟩
        · exact ⟨y, List.mem_cons_self .., .inr ⟨e, q⟩⟩
        · exact ⟨z, List.mem_cons_of_mem _ hz, q⟩
      · rintro ⟨z, hz, q⟩
        rcases List.mem_cons.1 hz with rfl | hz
        · rcases q with q | q
          · exact .inl q
          · exact .inr (.inl q.2)
        · exact .inr (.inr ⟨z, hz, q⟩)
    · rw [if_pos e, ih]
      constructor
      · rintro (q | ⟨z, hz, q⟩)
        · exact ⟨y, List.mem_cons_self .., .inl q⟩
        · exact ⟨z, List.mem_cons_of_mem _ hz, q⟩
      · rintro ⟨z, hz, q⟩
        rcases List.mem_cons.1 hz with rfl | hz
        · rcases q with q | q
          · exact .inl q
          · exact absurd q.1 e
        · exact .inr ⟨z, hz, q⟩
theorem keys_m_mem (x : Int) (l : List Int) (h : ∀ y ∈ l, U y) : x ∈ index_keys_m l ↔ ∃ y ∈ l, x = y ∨ (kindI y = 3 ∧ x ∈ pats y) := by
  unfold index_keys_m index_keys_1_m
  rw [List.append_nil]; exact keys_l1_mem x l h
theorem Keys_mem {l : List Int} (hc : types_Check_m l = 0) (h : ∀ y ∈ l, U y) (x : Int) : x ∈ index_Keys_m l ↔ ∃ y ∈ l, x = y ∨ (kindI y = 3 ∧ x ∈ pats y) := by
  rw [Keys_m, if_pos hc, dd_mem, (sortI_perm _).mem_iff, keys_m_mem x l h]
/-- A pattern's form. -/
theorem pat_form {x : Int} (hu : U x) (h : kindI x = 4) : x = made 9223372036854775808 (hA x) (hB x) ∧ (0 ≤ hA x ∧ hA x ≤ 1048578) ∧ (0 ≤ hB x ∧ hB x ≤ 1048578) ∧ (hA x = 0 ∨ hB x = 0) := by
  unfold kindI kb withinB at h
  simp only [List.all_cons, List.all_nil, Bool.and_true, Bool.and_eq_true, decide_eq_true_eq] at h
  split at h
  · cases h
  · split at h
    · cases h
    · split at h
      · cases h
      · rename_i h3
        split at h
        · rename_i h4
          refine ⟨h4.1, h4.2.1, h4.2.2, ?_⟩
          by_cases q : hA x = 0
          · exact .inl q
          · by_cases q2 : hB x = 0
            · exact .inr q2
            · exact absurd ⟨h4.1, ⟨by omega, h4.2.1.2⟩, ⟨by omega, h4.2.2.2⟩⟩ h3
        · cases h
/-- A pattern that takes a pair is one of three. -/
theorem takes_pats {x y : Int} (hx : U x) (hk : kindI x = 4) (hy : U y) : ident_Takes_m x y = true ↔ kindI y = 3 ∧ x ∈ pats y := by
  obtain ⟨h1, h2, h3, h4⟩ := pat_form hx hk
  rw [h1, takes_pat h2 h3 h4 hy, ← h1]
  simp only [pairB, Bool.and_eq_true, Bool.or_eq_true, decide_eq_true_eq]
  refine and_congr_right (fun hp => ?_)
  obtain ⟨g1, g2, g3⟩ := (kind_pair hy).1 hp
  simp only [pats, List.mem_cons, List.not_mem_nil, or_false]
  constructor
  · rintro ⟨a, b⟩
    rcases h4 with q | q
    · rcases b with b | b
      · exact .inr (.inr (by rw [h1, q, b]))
      · exact .inr (.inl (by rw [h1, q, b]))
    · rcases a with a | a
      · exact .inr (.inr (by rw [h1, q, a]))
      · exact .inl (by rw [h1, q, a])
  · have m1 : ∀ {a b : Int}, (0 ≤ a ∧ a ≤ 1048578) → (0 ≤ b ∧ b ≤ 1048578) → x = made 9223372036854775808 a b → hA x = a ∧ hB x = b := fun {a b} ha hb e => by
      have := made_halves (a := a) (b := b) ⟨ha.1, by omega⟩ ⟨hb.1, by omega⟩
      rw [e]; exact ⟨this.2.1, this.2.2⟩
    rintro (e | e | e)
    · obtain ⟨e1, e2⟩ := m1 (by omega) (by omega) e
      exact ⟨.inr e1, .inl e2⟩
    · obtain ⟨e1, e2⟩ := m1 (by omega) (by omega) e
      exact ⟨.inl e1, .inr e2⟩
    · obtain ⟨e1, e2⟩ := m1 (by omega) (by omega) e
      exact ⟨.inl e1, .inl e2⟩
end Go.SX

set_option linter.unusedVariables false
set_option linter.unusedSimpArgs false
namespace Go.SX
open Go Go.Proofs

def slices_IndexFunc_Id_l1 (a1 : Int → Bool) : List Int → Nat → Unit → LR (Int) (Unit)
  | [], kl1, sl1 => .go ()
  | yl1 :: ysl1, kl1, sl1 => if (a1 yl1) = true then (.ret ((kl1 : Int))) else (slices_IndexFunc_Id_l1 a1 ysl1 (kl1 + 1) ())
def slices_IndexFunc_Id_m (a0 : List Int) (a1 : Int → Bool) : Int :=
  LR.on (slices_IndexFunc_Id_l1 a1 a0 0 ()) (fun r => r) (fun ol1 => (-1))
set_option maxHeartbeats 3200000 in
theorem slices_IndexFunc_Id_c (H : Heap) (va0 : Value) (a0 : List Int) (ha0 : RdS (intE .u64) H va0 a0) (fa1 : Value) (a1 : Int → Bool) (ha1 : ∀ H', HLe H H' → ∀ (z0 : Int), Fv Try.prog fa1 [.int .u64 z0] H' (.bool (a1 z0))) (na1 : fa1.oneCell' = true) : Fv Try.prog (fnv 91) [va0, fa1] H (.int .i64 (slices_IndexFunc_Id_m a0 a1)) := by
  refine Fc.of_body (N := 19) Try.func91 rfl (by kernel_rfl) rfl rfl ?_
  intro w0
  obtain ⟨Aa0, ca0, rfl, hca0, hda0, ha0⟩ := ha0.shape
  refine T.seq ?_
  refine T.region ?_
  refine R.asE rfl (by conv => lhs; whnf) ?_
  refine TL.nil (Post.thnN ?_)
  refine T.seq ?_
  refine T.seq ?_
  refine T.region ?_
  refine R.mvE rfl (by conv => lhs; whnf) ?_
  refine R.len Try.underlying22 rfl rfl ?_
  refine R.mvE rfl (by conv => lhs; whnf) ?_
  refine TL.nil (Post.thnN ?_)
  refine T.block ?_
  refine T.loop (ι := Nat) (fun kl1 H' L' ds' => kl1 ≤ a0.length ∧ Has L' [] ∧ slices_IndexFunc_Id_l1 a1 (a0.drop kl1) kl1 () = slices_IndexFunc_Id_l1 a1 a0 0 ()) (fun kl1 => [(8, .int .i64 (kl1 : Int)), (0, .slice Aa0 a0.length ca0), (1, fa1), (7, .int .i64 (a0.length : Int))]) (fun kl1 => a0.length - kl1) 0 ?_ ?_ ?_
  · exact ⟨(by omega), Has.nil, (by rfl)⟩
  · exact ⟨rfl, rfl, rfl, rfl, trivial⟩
  intro kl1 σ_l1 H_l1 L_l1 ds_l1 s_l1 hI_l1
  obtain ⟨hkl1, hI_l1⟩ := hI_l1
  obtain ⟨hLl1, hQl1⟩ := hI_l1
  refine T.has hLl1 ?_
  refine T.seq ?_
  refine T.region ?_
  refine R.lss rfl rfl rfl ?_
  refine TL.nil (Post.thnN ?_)
  refine T.seq ?_
  refine T.condD rfl (fun c9 => ?_) (fun c9 => ?_)
  · have hltl1 : kl1 < a0.length := by omega
    obtain ⟨yl1, hyl1⟩ := getk (xs := a0) (k := kl1) (by omega)
    refine T.skip (Post.thnN ?_)
    refine T.seq ?_
    refine T.block ?_
    refine T.seq ?_
    refine T.region ?_
    refine R.mvE rfl (by conv => lhs; whnf) ?_
    refine R.asE rfl (by conv => lhs; whnf) ?_
    refine TL.nil (Post.thnN ?_)
    refine T.seq ?_
    refine T.region ?_
    refine R.mvE rfl (by conv => lhs; whnf) ?_
    refine R.mvE rfl (by conv => lhs; whnf) ?_
    refine R.mvE rfl (by conv => lhs; whnf) ?_
    obtain ⟨b14, o14, i14, k14⟩ := RdS.elem (ha0.mono s_l1) hyl1
    obtain ⟨l14, g14, k14⟩ := k14
    obtain rfl : l14 = [.int .u64 yl1] := g14
    refine R.ixp Try.underlying22 Try.sizeOf26 rfl rfl rfl (by omega) i14 ?_
    refine R.ldC Try.isAgg26 rfl rfl (k14 0 _ rfl) ?_
    refine R.callv rfl rfl rfl (ha1 _ s_l1 (yl1)) ?_
    refine TL.nil (Post.thnN ?_)
    refine T.cond rfl (fun c16 => ?_) (fun c16 => ?_)
    · refine T.set 16 (.bool true) (congrArg Value.bool c16) ?_
      refine T.seq ?_
      refine T.region ?_
      refine R.mvE rfl (by conv => lhs; whnf) ?_
      refine R.asE rfl (by conv => lhs; whnf) ?_
      refine TL.nil (Post.thnN ?_)
      refine T.has Has.nil ?_
      refine T.ret (Post.blkR (Post.thnR (Post.thnR (Post.blkR (Post.thnR ?_)))))
      have hXl1 : slices_IndexFunc_Id_l1 a1 a0 0 () = .ret ((kl1 : Int)) := by rw [← hQl1, drop_cons hyl1, slices_IndexFunc_Id_l1]; rw [if_t c16]
      have hM : slices_IndexFunc_Id_m a0 a1 = (kl1 : Int) := by rw [slices_IndexFunc_Id_m, hXl1, LR.on_ret]
      exact fin1L (v := .int .i64 (kl1 : Int)) [] rfl rfl (List.Sublist.refl _) ⟨rfl, by first | rw [hM] | rfl⟩
    refine T.set 16 (.bool false) (congrArg Value.bool c16) ?_
    refine T.skip (Post.blkN ?_)
    refine id (Post.thnN ?_)
    refine T.region ?_
    refine R.addI rfl rfl rfl (by omega) ?_
    refine R.mvE rfl (by conv => lhs; whnf) ?_
    refine TL.nil (Post.thnN ?_)
    exact ⟨kl1 + 1, s_l1, ⟨(by omega), Has.nil, (by rw [← hQl1, drop_cons hyl1, slices_IndexFunc_Id_l1]; rw [if_f c16])⟩, by show a0.length - (kl1 + 1) < a0.length - kl1; omega, rfl, rfl, rfl, rfl, trivial⟩
  refine T.exit (Post.thnE (Post.thnE (Post.blkX ?_)))
  have hEl1 : slices_IndexFunc_Id_l1 a1 a0 0 () = .go () := (hQl1.symm.trans (by rw [show kl1 = a0.length by omega, List.drop_length, slices_IndexFunc_Id_l1]))
  refine id (Post.thnN ?_)
  refine T.seq ?_
  refine T.region ?_
  refine R.asE rfl (by conv => lhs; whnf) ?_
  refine TL.nil (Post.thnN ?_)
  refine T.has Has.nil ?_
  refine T.ret ?_
  have hM : slices_IndexFunc_Id_m a0 a1 = (-1) := by rw [slices_IndexFunc_Id_m, hEl1, LR.on_go]
  exact fin1L (v := .int .i64 (-1)) [] rfl rfl (List.Sublist.refl _) ⟨rfl, by first | rw [hM] | rfl⟩
theorem idxf_Id_l1 (p : Int → Bool) : ∀ (l : List Int) (k : Nat), (∃ j : Nat, slices_IndexFunc_Id_l1 p l k () = .ret (j : Int) ∧ k ≤ j ∧ (∃ y, l[j - k]? = some y ∧ p y = true) ∧ ∀ i, i < j - k → p (l.getD i 0) = false) ∨ (slices_IndexFunc_Id_l1 p l k () = .go () ∧ ∀ y ∈ l, p y = false)
  | [], k => .inr ⟨rfl, fun y h => by cases h⟩
  | x :: xs, k => by
    rw [slices_IndexFunc_Id_l1]
    cases hx : p x with
    | true => rw [if_pos rfl]; exact .inl ⟨k, rfl, Nat.le_refl _, ⟨x, by rw [Nat.sub_self]; rfl, hx⟩, fun i hi => by omega⟩
    | false =>
      rw [if_neg Bool.false_ne_true]
      rcases idxf_Id_l1 p xs (k + 1) with ⟨j, h1, h2, ⟨y, h3, h4⟩, h5⟩ | ⟨h1, h2⟩
      · refine .inl ⟨j, h1, by omega, ⟨y, by rw [show j - k = (j - (k + 1)) + 1 by omega]; exact h3, h4⟩, fun i hi => ?_⟩
        cases i with
        | zero => exact hx
        | succ i => exact h5 i (by omega)
      · refine .inr ⟨h1, fun y hy => ?_⟩
        rcases List.mem_cons.1 hy with rfl | hy
        · exact hx
        · exact h2 y hy
theorem idxf_Id (l : List Int) (p : Int → Bool) : (∃ j : Nat, slices_IndexFunc_Id_m l p = (j : Int) ∧ j < l.length ∧ p (l.getD j 0) = true ∧ ∀ i, i < j → p (l.getD i 0) = false) ∨ (slices_IndexFunc_Id_m l p = -1 ∧ ∀ y ∈ l, p y = false) := by
  unfold slices_IndexFunc_Id_m
  rcases idxf_Id_l1 p l 0 with ⟨j, h1, h2, ⟨y, h3, h4⟩, h5⟩ | ⟨h1, h2⟩
  · rw [h1, LR.on_ret, Nat.sub_zero] at *
    exact .inl ⟨j, rfl, (List.getElem?_eq_some_iff.1 h3).1, by rw [List.getD_eq_getElem?_getD, h3]; exact h4, h5⟩
  · rw [h1, LR.on_go]; exact .inr ⟨rfl, h2⟩
theorem idxf_Id_rng (l : List Int) (p : Int → Bool) : -1 ≤ slices_IndexFunc_Id_m l p ∧ slices_IndexFunc_Id_m l p < (l.length : Int) := by
  rcases idxf_Id l p with ⟨j, h1, h2, _⟩ | ⟨h1, _⟩ <;> rw [h1] <;> omega
def slices_IndexFunc_int_l1 (a1 : Int → Bool) : List Int → Nat → Unit → LR (Int) (Unit)
  | [], kl1, sl1 => .go ()
  | yl1 :: ysl1, kl1, sl1 => if (a1 yl1) = true then (.ret ((kl1 : Int))) else (slices_IndexFunc_int_l1 a1 ysl1 (kl1 + 1) ())
def slices_IndexFunc_int_m (a0 : List Int) (a1 : Int → Bool) : Int :=
  LR.on (slices_IndexFunc_int_l1 a1 a0 0 ()) (fun r => r) (fun ol1 => (-1))
set_option maxHeartbeats 3200000 in
theorem slices_IndexFunc_int_c (H : Heap) (va0 : Value) (a0 : List Int) (ha0 : RdS (intE .i64) H va0 a0) (fa1 : Value) (a1 : Int → Bool) (ha1 : ∀ H', HLe H H' → ∀ (z0 : Int), Fv Try.prog fa1 [.int .i64 z0] H' (.bool (a1 z0))) (na1 : fa1.oneCell' = true) : Fv Try.prog (fnv 148) [va0, fa1] H (.int .i64 (slices_IndexFunc_int_m a0 a1)) := by
  refine Fc.of_body (N := 19) Try.func148 rfl (by kernel_rfl) rfl rfl ?_
  intro w0
  obtain ⟨Aa0, ca0, rfl, hca0, hda0, ha0⟩ := ha0.shape
  refine T.seq ?_
  refine T.region ?_
  refine R.asE rfl (by conv => lhs; whnf) ?_
  refine TL.nil (Post.thnN ?_)
  refine T.seq ?_
  refine T.seq ?_
  refine T.region ?_
  refine R.mvE rfl (by conv => lhs; whnf) ?_
  refine R.len Try.underlying37 rfl rfl ?_
  refine R.mvE rfl (by conv => lhs; whnf) ?_
  refine TL.nil (Post.thnN ?_)
  refine T.block ?_
  refine T.loop (ι := Nat) (fun kl1 H' L' ds' => kl1 ≤ a0.length ∧ Has L' [] ∧ slices_IndexFunc_int_l1 a1 (a0.drop kl1) kl1 () = slices_IndexFunc_int_l1 a1 a0 0 ()) (fun kl1 => [(8, .int .i64 (kl1 : Int)), (0, .slice Aa0 a0.length ca0), (1, fa1), (7, .int .i64 (a0.length : Int))]) (fun kl1 => a0.length - kl1) 0 ?_ ?_ ?_
  · exact ⟨(by omega), Has.nil, (by rfl)⟩
  · exact ⟨rfl, rfl, rfl, rfl, trivial⟩
  intro kl1 σ_l1 H_l1 L_l1 ds_l1 s_l1 hI_l1
  obtain ⟨hkl1, hI_l1⟩ := hI_l1
  obtain ⟨hLl1, hQl1⟩ := hI_l1
  refine T.has hLl1 ?_
  refine T.seq ?_
  refine T.region ?_
  refine R.lss rfl rfl rfl ?_
  refine TL.nil (Post.thnN ?_)
  refine T.seq ?_
  refine T.condD rfl (fun c9 => ?_) (fun c9 => ?_)
  · have hltl1 : kl1 < a0.length := by omega
    obtain ⟨yl1, hyl1⟩ := getk (xs := a0) (k := kl1) (by omega)
    refine T.skip (Post.thnN ?_)
    refine T.seq ?_
    refine T.block ?_
    refine T.seq ?_
    refine T.region ?_
    refine R.mvE rfl (by conv => lhs; whnf) ?_
    refine R.asE rfl (by conv => lhs; whnf) ?_
    refine TL.nil (Post.thnN ?_)
    refine T.seq ?_
    refine T.region ?_
    refine R.mvE rfl (by conv => lhs; whnf) ?_
    refine R.mvE rfl (by conv => lhs; whnf) ?_
    refine R.mvE rfl (by conv => lhs; whnf) ?_
    obtain ⟨b14, o14, i14, k14⟩ := RdS.elem (ha0.mono s_l1) hyl1
    obtain ⟨l14, g14, k14⟩ := k14
    obtain rfl : l14 = [.int .i64 yl1] := g14
    refine R.ixp Try.underlying37 Try.sizeOf3 rfl rfl rfl (by omega) i14 ?_
    refine R.ldC Try.isAgg3 rfl rfl (k14 0 _ rfl) ?_
    refine R.callv rfl rfl rfl (ha1 _ s_l1 (yl1)) ?_
    refine TL.nil (Post.thnN ?_)
    refine T.cond rfl (fun c16 => ?_) (fun c16 => ?_)
    · refine T.set 16 (.bool true) (congrArg Value.bool c16) ?_
      refine T.seq ?_
      refine T.region ?_
      refine R.mvE rfl (by conv => lhs; whnf) ?_
      refine R.asE rfl (by conv => lhs; whnf) ?_
      refine TL.nil (Post.thnN ?_)
      refine T.has Has.nil ?_
      refine T.ret (Post.blkR (Post.thnR (Post.thnR (Post.blkR (Post.thnR ?_)))))
      have hXl1 : slices_IndexFunc_int_l1 a1 a0 0 () = .ret ((kl1 : Int)) := by rw [← hQl1, drop_cons hyl1, slices_IndexFunc_int_l1]; rw [if_t c16]
      have hM : slices_IndexFunc_int_m a0 a1 = (kl1 : Int) := by rw [slices_IndexFunc_int_m, hXl1, LR.on_ret]
      exact fin1L (v := .int .i64 (kl1 : Int)) [] rfl rfl (List.Sublist.refl _) ⟨rfl, by first | rw [hM] | rfl⟩
    refine T.set 16 (.bool false) (congrArg Value.bool c16) ?_
    refine T.skip (Post.blkN ?_)
    refine id (Post.thnN ?_)
    refine T.region ?_
    refine R.addI rfl rfl rfl (by omega) ?_
    refine R.mvE rfl (by conv => lhs; whnf) ?_
    refine TL.nil (Post.thnN ?_)
    exact ⟨kl1 + 1, s_l1, ⟨(by omega), Has.nil, (by rw [← hQl1, drop_cons hyl1, slices_IndexFunc_int_l1]; rw [if_f c16])⟩, by show a0.length - (kl1 + 1) < a0.length - kl1; omega, rfl, rfl, rfl, rfl, trivial⟩
  refine T.exit (Post.thnE (Post.thnE (Post.blkX ?_)))
  have hEl1 : slices_IndexFunc_int_l1 a1 a0 0 () = .go () := (hQl1.symm.trans (by rw [show kl1 = a0.length by omega, List.drop_length, slices_IndexFunc_int_l1]))
  refine id (Post.thnN ?_)
  refine T.seq ?_
  refine T.region ?_
  refine R.asE rfl (by conv => lhs; whnf) ?_
  refine TL.nil (Post.thnN ?_)
  refine T.has Has.nil ?_
  refine T.ret ?_
  have hM : slices_IndexFunc_int_m a0 a1 = (-1) := by rw [slices_IndexFunc_int_m, hEl1, LR.on_go]
  exact fin1L (v := .int .i64 (-1)) [] rfl rfl (List.Sublist.refl _) ⟨rfl, by first | rw [hM] | rfl⟩
theorem idxf_int_l1 (p : Int → Bool) : ∀ (l : List Int) (k : Nat), (∃ j : Nat, slices_IndexFunc_int_l1 p l k () = .ret (j : Int) ∧ k ≤ j ∧ (∃ y, l[j - k]? = some y ∧ p y = true) ∧ ∀ i, i < j - k → p (l.getD i 0) = false) ∨ (slices_IndexFunc_int_l1 p l k () = .go () ∧ ∀ y ∈ l, p y = false)
  | [], k => .inr ⟨rfl, fun y h => by cases h⟩
  | x :: xs, k => by
    rw [slices_IndexFunc_int_l1]
    cases hx : p x with
    | true => rw [if_pos rfl]; exact .inl ⟨k, rfl, Nat.le_refl _, ⟨x, by rw [Nat.sub_self]; rfl, hx⟩, fun i hi => by omega⟩
    | false =>
      rw [if_neg Bool.false_ne_true]
      rcases idxf_int_l1 p xs (k + 1) with ⟨j, h1, h2, ⟨y, h3, h4⟩, h5⟩ | ⟨h1, h2⟩
      · refine .inl ⟨j, h1, by omega, ⟨y, by rw [show j - k = (j - (k + 1)) + 1 by omega]; exact h3, h4⟩, fun i hi => ?_⟩
        cases i with
        | zero => exact hx
        | succ i => exact h5 i (by omega)
      · refine .inr ⟨h1, fun y hy => ?_⟩
        rcases List.mem_cons.1 hy with rfl | hy
        · exact hx
        · exact h2 y hy
theorem idxf_int (l : List Int) (p : Int → Bool) : (∃ j : Nat, slices_IndexFunc_int_m l p = (j : Int) ∧ j < l.length ∧ p (l.getD j 0) = true ∧ ∀ i, i < j → p (l.getD i 0) = false) ∨ (slices_IndexFunc_int_m l p = -1 ∧ ∀ y ∈ l, p y = false) := by
  unfold slices_IndexFunc_int_m
  rcases idxf_int_l1 p l 0 with ⟨j, h1, h2, ⟨y, h3, h4⟩, h5⟩ | ⟨h1, h2⟩
  · rw [h1, LR.on_ret, Nat.sub_zero] at *
    exact .inl ⟨j, rfl, (List.getElem?_eq_some_iff.1 h3).1, by rw [List.getD_eq_getElem?_getD, h3]; exact h4, h5⟩
  · rw [h1, LR.on_go]; exact .inr ⟨rfl, h2⟩
def slices_DeleteFunc_Id_l1 (a0 : List Int) (a1 : Int → Bool) : Nat → (Int × Int × (List Int)) → Int × Int × (List Int)
  | 0, _ => default
  | ml1 + 1, sl1 => if sl1.2.1 < (a0.length : Int) then (if (!(a1 (sl1.2.2.getD sl1.2.1.toNat (0 : Int)))) = true then (slices_DeleteFunc_Id_l1 a0 a1 ml1 (((sl1.1 + 1), (sl1.2.1 + 1), (sl1.2.2.set sl1.1.toNat (sl1.2.2.getD sl1.2.1.toNat (0 : Int)))))) else (slices_DeleteFunc_Id_l1 a0 a1 ml1 ((sl1.1, (sl1.2.1 + 1), sl1.2.2)))) else ((sl1.1, sl1.2.1, sl1.2.2))
def slices_DeleteFunc_Id_m (a0 : List Int) (a1 : Int → Bool) : (List Int) :=
  if ((slices_IndexFunc_Id_m a0 a1) : Int) = (-1) then a0 else (LR.seq (slices_DeleteFunc_Id_l1 a0 a1 (((a0.length : Int) - (((slices_IndexFunc_Id_m a0 a1) + 1))).toNat + 1) (((slices_IndexFunc_Id_m a0 a1), ((slices_IndexFunc_Id_m a0 a1) + 1), a0))) (fun ol1 => ((ol1.2.2.take (ol1.1).toNat).take ol1.1.toNat)))
set_option maxHeartbeats 3200000 in
theorem slices_DeleteFunc_Id_c (H : Heap) (va0 : Value) (a0 : List Int) (Ca0 : Chunk) (ha0 : OwnS (intE .u64) 26 H va0 a0 Ca0) (fa1 : Value) (a1 : Int → Bool) (ha1 : ∀ H', HLe H H' → ∀ (z0 : Int), Fv Try.prog fa1 [.int .u64 z0] H' (.bool (a1 z0))) (na1 : fa1.oneCell' = true) (hl : a0.length ≤ 2000000) : Fc Try.prog (fnv 128) [va0, fa1] H [Ca0] (fun v' H' L' => ∃ u0_0 c0_0, v' = u0_0 ∧ L' = [c0_0] ∧ OwnS (intE .u64) 26 H' u0_0 (slices_DeleteFunc_Id_m a0 a1) c0_0) := by
  refine Fc.of_body (N := 42) Try.func128 rfl (by kernel_rfl) rfl rfl ?_
  intro w0
  obtain ⟨Aa0, pa0, rfl, ma0, na0⟩ := OwnS.shape ha0
  refine T.seq ?_
  refine T.region ?_
  refine R.asE rfl (by conv => lhs; whnf) ?_
  refine TL.nil (Post.thnN ?_)
  refine T.seq ?_
  refine T.region ?_
  refine R.mvE rfl (by conv => lhs; whnf) ?_
  refine R.mvE rfl (by conv => lhs; whnf) ?_
  refine R.callvB rfl rfl rfl (fun HB10 sB10 qB10 => by have fB10_0 := OwnS.read ha0 sB10 (In.all .hd qB10); exact (slices_IndexFunc_Id_c _ _ a0 fB10_0 _ a1 (fun H' h' => ha1 H' (sB10.trans h')) na1)) ?_
  refine R.asE rfl (by conv => lhs; whnf) ?_
  refine TL.nil (Post.thnN ?_)
  refine T.seq ?_
  refine T.seq ?_
  refine T.region ?_
  refine R.mvE rfl (by conv => lhs; whnf) ?_
  refine R.eql rfl rfl rfl ?_
  refine TL.nil (Post.thnN ?_)
  refine T.condD rfl (fun c12 => ?_) (fun c12 => ?_)
  · refine T.set 12 (.bool true) (congrArg Value.bool (decide_eq_true c12)) ?_
    refine T.seq ?_
    refine T.region ?_
    refine R.mvE rfl (by conv => lhs; whnf) ?_
    refine R.asE rfl (by conv => lhs; whnf) ?_
    refine TL.nil (Post.thnN ?_)
    refine T.has (Has.cons .hd Has.nil) ?_
    refine T.ret (Post.thnR ?_)
    have hM : slices_DeleteFunc_Id_m a0 a1 = a0 := by rw [slices_DeleteFunc_Id_m, if_pos c12]
    exact fin1L (v := .slice Aa0 a0.length pa0) [Ca0] rfl rfl (List.Sublist.refl _) ⟨.slice Aa0 a0.length pa0, Ca0, by first | rw [hM] | rfl, rfl, by rw [hM]; exact ha0⟩
  refine T.set 12 (.bool false) (congrArg Value.bool (decide_eq_false c12)) ?_
  refine T.skip (Post.thnN ?_)
  refine T.seq ?_
  refine T.seq ?_
  have hx := idxf_Id_rng a0 a1
  refine T.region ?_
  refine R.mvE rfl (by conv => lhs; whnf) ?_
  refine R.addI rfl rfl rfl (by omega) ?_
  refine R.asE rfl (by conv => lhs; whnf) ?_
  refine TL.nil (Post.thnN ?_)
  refine T.block ?_
  refine T.loop (ι := Nat × Int × Int × (List Int) × Chunk) (fun ⟨kl1, n5l1, n6l1, xPa0l1, cPa0l1⟩ H' L' ds' => ((a0.length : Int) - n6l1).toNat < kl1 ∧ Has L' [cPa0l1] ∧ OwnS (intE .u64) 26 H' (.slice Aa0 a0.length pa0) xPa0l1 cPa0l1 ∧ 0 ≤ n5l1 ∧ n5l1 + 1 ≤ n6l1 ∧ n6l1 ≤ (a0.length : Int) ∧ slices_DeleteFunc_Id_l1 a0 a1 kl1 ((n5l1, n6l1, xPa0l1)) = slices_DeleteFunc_Id_l1 a0 a1 (((a0.length : Int) - (((slices_IndexFunc_Id_m a0 a1) + 1))).toNat + 1) (((slices_IndexFunc_Id_m a0 a1), ((slices_IndexFunc_Id_m a0 a1) + 1), a0))) (fun ⟨kl1, n5l1, n6l1, xPa0l1, cPa0l1⟩ => [(0, .slice Aa0 a0.length pa0), (1, fa1), (5, .int .i64 n5l1), (6, .int .i64 n6l1)]) (fun ⟨kl1, n5l1, n6l1, xPa0l1, cPa0l1⟩ => kl1) ((((a0.length : Int) - (((slices_IndexFunc_Id_m a0 a1) + 1))).toNat + 1), (slices_IndexFunc_Id_m a0 a1), ((slices_IndexFunc_Id_m a0 a1) + 1), a0, Ca0) ?_ ?_ ?_
  · exact ⟨(by omega), (Has.cons .hd Has.nil), ha0, (by first | omega | (simp; done) | (simp; omega) | (simp at *; omega)), (by first | omega | (simp; done) | (simp; omega) | (simp at *; omega)), (by first | omega | (simp; done) | (simp; omega) | (simp at *; omega)), (by rfl)⟩
  · exact ⟨rfl, rfl, rfl, rfl, trivial⟩
  intro ⟨kl1, n5l1, n6l1, xPa0l1, cPa0l1⟩ σ_l1 H_l1 L_l1 ds_l1 s_l1 hI_l1
  obtain ⟨hkl1, hI_l1⟩ := hI_l1
  obtain ⟨ml1, rfl⟩ : ∃ m, kl1 = m + 1 := ⟨kl1 - 1, by omega⟩
  obtain ⟨hLl1, wPa0l1, hBl1_0, hBl1_1, hBl1_2, hQl1⟩ := hI_l1
  have nPa0l1_ := OwnS.len wPa0l1
  refine T.has hLl1 ?_
  refine T.seq ?_
  refine T.seq ?_
  refine T.region ?_
  refine R.mvE rfl (by conv => lhs; whnf) ?_
  refine R.mvE rfl (by conv => lhs; whnf) ?_
  refine R.len Try.underlying22 rfl rfl ?_
  refine R.lss rfl rfl rfl ?_
  refine TL.nil (Post.thnN ?_)
  refine T.condD rfl (fun c19 => ?_) (fun c19 => ?_)
  · refine T.set 19 (.bool true) (congrArg Value.bool (decide_eq_true c19)) ?_
    refine T.skip (Post.thnN ?_)
    refine T.seq ?_
    refine T.block ?_
    refine T.seq ?_
    refine T.region ?_
    refine R.mvE rfl (by conv => lhs; whnf) ?_
    refine R.mvE rfl (by conv => lhs; whnf) ?_
    have hl24 : n6l1.toNat < a0.length := by first | omega | (simp; done) | (simp; omega) | (simp at *; omega)
    obtain ⟨y24, e24, h24⟩ : ∃ y, y = (xPa0l1.getD n6l1.toNat (0 : Int)) ∧ xPa0l1[n6l1.toNat]? = some y := ⟨_, rfl, getD_get (by first | exact hl24 | simpa using hl24 | (simp only [List.length_set]; omega) | omega | (rw [(sortI_perm _).length_eq]; exact hl24))⟩
    obtain ⟨b24, u24, cs24, l24, f24, j24, i24, g24, k24⟩ := OwnS.elem wPa0l1 h24
    obtain rfl : l24 = [.int .u64 y24] := g24
    refine R.ixp (sz := ((intE .u64)).size) Try.underlying22 Try.sizeOf26 rfl rfl rfl (by first | omega | (simp; done) | (simp; omega) | (simp at *; omega)) i24 ?_
    refine R.ld Try.isAgg26 rfl rfl (by rw [← f24]; exact .hd) (k24 0 _ rfl) ?_
    refine R.asE rfl (by conv => lhs; whnf) ?_
    refine TL.nil (Post.thnN ?_)
    refine T.seq ?_
    refine T.region ?_
    refine R.mvE rfl (by conv => lhs; whnf) ?_
    refine R.mvE rfl (by conv => lhs; whnf) ?_
    refine R.callv rfl rfl rfl (ha1 _ s_l1 (y24)) ?_
    refine R.not rfl rfl ?_
    refine TL.nil (Post.thnN ?_)
    refine T.cond rfl (fun c29 => ?_) (fun c29 => ?_)
    · refine T.set 29 (.bool true) (congrArg Value.bool c29) ?_
      refine T.seq ?_
      refine T.region ?_
      refine R.mvE rfl (by conv => lhs; whnf) ?_
      refine R.mvE rfl (by conv => lhs; whnf) ?_
      refine R.mvE rfl (by conv => lhs; whnf) ?_
      have hl33 : n5l1.toNat < a0.length := by first | omega | (simp; done) | (simp; omega) | (simp at *; omega)
      obtain ⟨y33, e33, h33⟩ : ∃ y, y = (xPa0l1.getD n5l1.toNat (0 : Int)) ∧ xPa0l1[n5l1.toNat]? = some y := ⟨_, rfl, getD_get (by first | exact hl33 | simpa using hl33 | (simp only [List.length_set]; omega) | omega | (rw [(sortI_perm _).length_eq]; exact hl33))⟩
      obtain ⟨b33, u33, cs33, l33, f33, j33, i33, g33, k33⟩ := OwnS.elem wPa0l1 h33
      obtain rfl : l33 = [.int .u64 y33] := g33
      refine R.ixp (sz := ((intE .u64)).size) Try.underlying22 Try.sizeOf26 rfl rfl rfl (by first | omega | (simp; done) | (simp; omega) | (simp at *; omega)) i33 ?_
      refine R.stEF (E := (intE .u64)) (e := 26) (v := (.slice Aa0 a0.length pa0)) (m := [.int .u64 y24]) (o := 0) (y := y33) (y' := y24) (j := n5l1.toNat) Try.sizeOf26 rfl wPa0l1 .hd i33 rfl rfl (cells1 rfl) (all_one rfl) h33 (by show 0 + 1 ≤ 1; decide) (fun l hl => by have e0 : l = [.int .u64 y33] := hl; subst e0; exact rfl) ?_
      intro cst6 wst6
      refine TL.nil (Post.thnN ?_)
      refine T.region ?_
      refine R.mvE rfl (by conv => lhs; whnf) ?_
      refine R.addI rfl rfl rfl (by omega) ?_
      refine R.asE rfl (by conv => lhs; whnf) ?_
      refine TL.nil (Post.blkN ?_)
      refine id (Post.thnN ?_)
      refine T.region ?_
      refine R.mvE rfl (by conv => lhs; whnf) ?_
      refine R.addI rfl rfl rfl (by omega) ?_
      refine R.asE rfl (by conv => lhs; whnf) ?_
      refine TL.nil (Post.thnN ?_)
      exact ⟨(ml1, (n5l1 + 1), (n6l1 + 1), (xPa0l1.set n5l1.toNat y24), cst6), s_l1, ⟨(by first | omega | (simp; omega) | (simp at *; omega)), (Has.cons .hd Has.nil), wst6, (by first | omega | (simp; done) | (simp; omega) | (simp at *; omega)), (by first | omega | (simp; done) | (simp; omega) | (simp at *; omega)), (by first | omega | (simp; done) | (simp; omega) | (simp at *; omega)), (by subst e33; subst e24; rw [← hQl1, slices_DeleteFunc_Id_l1]; rw [if_pos c19, if_t c29])⟩, by show ml1 < ml1 + 1; omega, rfl, rfl, rfl, rfl, trivial⟩
    refine T.set 29 (.bool false) (congrArg Value.bool c29) ?_
    refine T.skip (Post.blkN ?_)
    refine id (Post.thnN ?_)
    refine T.region ?_
    refine R.mvE rfl (by conv => lhs; whnf) ?_
    refine R.addI rfl rfl rfl (by omega) ?_
    refine R.asE rfl (by conv => lhs; whnf) ?_
    refine TL.nil (Post.thnN ?_)
    exact ⟨(ml1, n5l1, (n6l1 + 1), xPa0l1, cPa0l1), s_l1, ⟨(by first | omega | (simp; omega) | (simp at *; omega)), (Has.cons .hd Has.nil), wPa0l1, (by first | omega | (simp; done) | (simp; omega) | (simp at *; omega)), (by first | omega | (simp; done) | (simp; omega) | (simp at *; omega)), (by first | omega | (simp; done) | (simp; omega) | (simp at *; omega)), (by subst e24; rw [← hQl1, slices_DeleteFunc_Id_l1]; rw [if_pos c19, if_f c29])⟩, by show ml1 < ml1 + 1; omega, rfl, rfl, rfl, rfl, trivial⟩
  refine T.set 19 (.bool false) (congrArg Value.bool (decide_eq_false c19)) ?_
  refine T.exit (Post.thnE (Post.thnE (Post.blkX ?_)))
  have hEl1 : slices_DeleteFunc_Id_l1 a0 a1 (((a0.length : Int) - (((slices_IndexFunc_Id_m a0 a1) + 1))).toNat + 1) (((slices_IndexFunc_Id_m a0 a1), ((slices_IndexFunc_Id_m a0 a1) + 1), a0)) = (n5l1, n6l1, xPa0l1) := (by rw [← hQl1, slices_DeleteFunc_Id_l1]; rw [if_neg c19])
  refine id (Post.thnN ?_)
  refine T.seq ?_
  refine T.region ?_
  refine R.mvE rfl (by conv => lhs; whnf) ?_
  refine R.mvE rfl (by conv => lhs; whnf) ?_
  refine R.sL Try.underlying22 Try.sizeOf26 rfl rfl rfl (by omega) (by omega) ?_
  obtain ⟨xz7, ez7⟩ : ∃ x, x = (xPa0l1.take (n5l1).toNat) := ⟨_, rfl⟩
  have tz7 : xz7.length = (n5l1).toNat := by rw [ez7, List.length_take]; (try simp only [List.length_set]); omega
  refine R.clr (dd := none) (xs := xz7) (A := Aa0) (cap := pa0) Try_ty22 (zone_of (z := .int .u64 0) (by kernel_rfl) (by intro v hv; have e0 : v = .int .u64 0 := (by simpa [Value.cells] using hv); subst e0; rfl)) rfl (fun q h => by cases h) (m := a0.length) (by rw [tz7]; rfl) (by rw [tz7, ez7]; exact own_take0 (by have hz_ := wPa0l1; have hq_ := (OwnS.len wPa0l1); rw [hq_] at hz_; exact hz_) (by (try simp only [List.length_set]); omega)) .hd (by omega) (by omega) ?_
  intro cz7 wz7
  refine TL.nil (Post.thnN ?_)
  refine T.seq ?_
  refine T.region ?_
  refine R.mvE rfl (by conv => lhs; whnf) ?_
  refine R.mvE rfl (by conv => lhs; whnf) ?_
  have z41 := OwnS.takeM wz7 (i := n5l1.toNat) (m := pa0) (by first | omega | (simp; omega)) (by first | omega | (simp; omega)) (by first | omega | (simp; omega))
  obtain ⟨x41, e41⟩ : ∃ x, x = (xz7.take n5l1.toNat) := ⟨_, rfl⟩
  rw [← e41] at z41
  obtain ⟨A41, p41, q41, m41, n41⟩ := OwnS.shape z41
  have t41 : x41.length = n5l1.toNat := by rw [e41, List.length_take]; omega
  refine R.sH Try.underlying22 Try.sizeOf26 rfl rfl rfl (by first | omega | (simp; omega)) (by first | omega | (simp; omega))  ?_
  refine TL.set 41 (.slice A41 x41.length p41) (by first | exact q41 | (rw [← q41]; simp; done) | (rw [← q41]; rfl)) ?_
  rw [q41] at z41
  refine R.asE rfl (by conv => lhs; whnf) ?_
  refine TL.nil (Post.thnN ?_)
  refine T.has (Has.cons .hd Has.nil) ?_
  refine T.ret ?_
  have hM : slices_DeleteFunc_Id_m a0 a1 = x41 := by subst e41; subst ez7; rw [slices_DeleteFunc_Id_m, if_neg c12, hEl1, LR.seq_go]
  exact fin1L (v := .slice A41 x41.length p41) [cz7] rfl rfl (List.Sublist.refl _) ⟨.slice A41 x41.length p41, cz7, by first | rw [hM] | rfl, rfl, by rw [hM]; exact z41⟩
theorem delf_Id_l1 (a : List Int) (p : Int → Bool) : ∀ (r i j m : Nat) (cur : List Int), a.length - j ≤ r → r < m → i + 1 ≤ j → j ≤ a.length → cur.length = a.length → cur.take i = (a.take j).filter (fun y => !p y) → (∀ q, j ≤ q → cur.getD q 0 = a.getD q 0) →
    ∃ (i' : Nat) (cur' : List Int) (o : Int), slices_DeleteFunc_Id_l1 a p m ((i : Int), (j : Int), cur) = ((i' : Int), o, cur') ∧ cur'.take i' = a.filter (fun y => !p y)
  | r, i, j, 0, cur, _, h, _, _, _, _, _ => by omega
  | r, i, j, m + 1, cur, h1, h2, h3, h4, h5, h6, h7 => by
    rw [slices_DeleteFunc_Id_l1]
    dsimp only
    by_cases hj : j < a.length
    · rw [if_pos (show (j : Int) < (a.length : Int) by omega), Int.toNat_natCast, h7 j (Nat.le_refl _)]
      have hs : a.take (j + 1) = a.take j ++ [a.getD j 0] := by rw [List.take_add_one, List.getD_eq_getElem?_getD, List.getElem?_eq_getElem hj]; rfl
      cases r with
      | zero => omega
      | succ r =>
        cases hp : p (a.getD j 0) with
        | true =>
          rw [if_neg (by decide)]
          exact delf_Id_l1 a p r i (j + 1) m cur (by omega) (by omega) (by omega) (by omega) h5 (by rw [hs, List.filter_append, h6, show [a.getD j 0].filter (fun y => !p y) = [] by rw [List.filter_cons, hp]; rfl, List.append_nil]) (fun q hq => h7 q (by omega))
        | false =>
          rw [if_pos (by decide), Int.toNat_natCast]
          refine delf_Id_l1 a p r (i + 1) (j + 1) m (cur.set i (a.getD j 0)) (by omega) (by omega) (by omega) (by omega) (by rw [List.length_set]; exact h5) ?_ (fun q hq => ?_)
          · rw [hs, List.filter_append, ← h6, List.take_add_one, List.take_set_of_le (Nat.le_refl _), List.getElem?_set_self (by omega), show [a.getD j 0].filter (fun y => !p y) = [a.getD j 0] by rw [List.filter_cons, hp]; rfl]; rfl
          · rw [List.getD_eq_getElem?_getD, List.getElem?_set_ne (by omega), ← List.getD_eq_getElem?_getD]; exact h7 q (by omega)
    · rw [if_neg (show ¬ (j : Int) < (a.length : Int) by omega)]
      exact ⟨i, cur, _, rfl, by rw [h6, List.take_of_length_le (by omega)]⟩
theorem delf_Id (a : List Int) (p : Int → Bool) : slices_DeleteFunc_Id_m a p = a.filter (fun y => !p y) := by
  unfold slices_DeleteFunc_Id_m
  rcases idxf_Id a p with ⟨j, h1, h2, h3, h4⟩ | ⟨h1, h2⟩
  · rw [h1, if_neg (by omega)]
    have e : a.take j = (a.take (j + 1)).filter (fun y => !p y) := by
      rw [List.take_add_one, List.getElem?_eq_getElem h2, List.filter_append]
      have h3' : p a[j] = true := by rw [List.getD_eq_getElem?_getD, List.getElem?_eq_getElem h2] at h3; exact h3
      have : (a.take j).filter (fun y => !p y) = a.take j := by
        rw [List.filter_eq_self]
        intro y hy
        obtain ⟨i, hi⟩ := List.mem_iff_getElem?.1 hy
        have hlt : i < j := by have := (List.getElem?_eq_some_iff.1 hi).1; rw [List.length_take] at this; omega
        rw [List.getElem?_take_of_lt hlt] at hi
        have := h4 i hlt
        rw [List.getD_eq_getElem?_getD, hi] at this
        simpa using this
      rw [this]; simp [h3']
    obtain ⟨i', cur', o, q1, q2⟩ := delf_Id_l1 a p (a.length - (j + 1)) j (j + 1) (((a.length : Int) - ((j : Int) + 1)).toNat + 1) a (Nat.le_refl _) (by omega) (Nat.le_refl _) (by omega) rfl e (fun q _ => rfl)
    rw [show ((j : Int) + 1) = ((j + 1 : Nat) : Int) by omega] at *
    simp only [LR.seq_go]
    rw [q1]
    simp only [Int.toNat_natCast, List.take_take, Nat.min_self]
    exact q2
  · rw [h1, if_pos rfl, List.filter_eq_self.2 (fun y hy => by rw [h2 y hy]; rfl)]
theorem delf_Id_len (a : List Int) (p : Int → Bool) (r : List Int) (e : r = slices_DeleteFunc_Id_m a p) : r.length ≤ a.length := by
  rw [e, delf_Id]; exact List.length_filter_le _ _
def slices_DeleteFunc_int_l1 (a0 : List Int) (a1 : Int → Bool) : Nat → (Int × Int × (List Int)) → Int × Int × (List Int)
  | 0, _ => default
  | ml1 + 1, sl1 => if sl1.2.1 < (a0.length : Int) then (if (!(a1 (sl1.2.2.getD sl1.2.1.toNat (0 : Int)))) = true then (slices_DeleteFunc_int_l1 a0 a1 ml1 (((sl1.1 + 1), (sl1.2.1 + 1), (sl1.2.2.set sl1.1.toNat (sl1.2.2.getD sl1.2.1.toNat (0 : Int)))))) else (slices_DeleteFunc_int_l1 a0 a1 ml1 ((sl1.1, (sl1.2.1 + 1), sl1.2.2)))) else ((sl1.1, sl1.2.1, sl1.2.2))
def slices_DeleteFunc_int_m (a0 : List Int) (a1 : Int → Bool) : (List Int) :=
  if ((slices_IndexFunc_int_m a0 a1) : Int) = (-1) then a0 else (LR.seq (slices_DeleteFunc_int_l1 a0 a1 (((a0.length : Int) - (((slices_IndexFunc_int_m a0 a1) + 1))).toNat + 1) (((slices_IndexFunc_int_m a0 a1), ((slices_IndexFunc_int_m a0 a1) + 1), a0))) (fun ol1 => ((ol1.2.2.take (ol1.1).toNat).take ol1.1.toNat)))
end Go.SX
