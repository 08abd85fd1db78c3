/- 'IndexKeys' answers true, whatever it is handed, and what it is handed reads behind it as it did. -/
import Derived.RangeFuncNested
import Derived.RangeFuncBound
import Derived.RangeFuncCalls
import Derived.RangeFuncLeaves
import Derived.Shelf.Abstract
import Derived.Laws.AppendOwn
import Derived.Laws.OwnMore
import Derived.KernelRfl
import Derived.IntWalk
import Derived.Laws.Append
import Derived.WideLaws
import Derived.Laws.Slices
import Derived.Laws.MakeOwn
import Derived.OrdersIn
import Derived.Laws.Cover3
import Derived.Test.YtmigaagkfglabaaProg
import Derived.Laws.StructEq
import Derived.Shelf.Sort.Plain
import Derived.Sort.OwnSortedInts
import Derived.Shelf.Slices.In.SortNone
import Derived.Maps.RangeRun
import Derived.Lib.AppendZeros
import Derived.Sort.AssemblyPlain
import Derived.Shelf.Small.Bits
import Derived.Sort.Walk7a
import Derived.Laws.Bits64
import Derived.Laws.Bits64b
import Derived.Shelf.Spec.SlicesInsert
import Derived.Shelf.Spec.SlicesInsertGrow
import Derived.ProofKit
import Derived.ChangeSlices
import Derived.Carry
import Derived.Test.YtmigaagkfglabaaRows
import Derived.Test.YtmigaagkfglabaaKK2
set_option linter.unusedVariables false
set_option linter.unusedSimpArgs false
namespace Go.SX
open Go Go.Proofs

def slices_siftDownOrdered_Id_l1 (a2 : Int) (a3 : Int) : Nat → (Int × (List Int)) → LR ((List Int)) (Int × (List Int))
  | 0, _ => .go default
  | ml1 + 1, sl1 => if a2 ≤ ((2 * sl1.1) + 1) then (.go ((sl1.1, sl1.2))) else (LR.seq (if ((((2 * sl1.1) + 1) + 1) : Int) < a2 then ((cmp_Less_Id_m (sl1.2.getD (((a3 + ((2 * sl1.1) + 1))).toNat) (0 : Int)) (sl1.2.getD ((((a3 + ((2 * sl1.1) + 1)) + 1)).toNat) (0 : Int)))) else false : Bool) (fun sc2 => LR.seq (if sc2 = true then ((((2 * sl1.1) + 1) + 1)) else (((2 * sl1.1) + 1)) : Int) (fun sc3 => LR.seq ((!(cmp_Less_Id_m (sl1.2.getD (((a3 + sl1.1)).toNat) (0 : Int)) (sl1.2.getD (((a3 + sc3)).toNat) (0 : Int)))) : Bool) (fun sc4 => if sc4 = true then (.ret sl1.2) else (slices_siftDownOrdered_Id_l1 a2 a3 ml1 ((sc3, (((sl1.2.set (((a3 + sl1.1)).toNat) (sl1.2.getD (((a3 + sc3)).toNat) (0 : Int)))).set (((a3 + sc3)).toNat) (sl1.2.getD (((a3 + sl1.1)).toNat) (0 : Int))))))))))
def slices_siftDownOrdered_Id_m (a0 : List Int) (a1 : Int) (a2 : Int) (a3 : Int) : (List Int) :=
  LR.on (slices_siftDownOrdered_Id_l1 a2 a3 ((a2 - a1).toNat + 1) ((a1, a0))) (fun r => r) (fun ol1 => ol1.2)
set_option maxHeartbeats 3200000 in
theorem slices_siftDownOrdered_Id_c (H : Heap) (va0 : Value) (a0 : List Int) (Ca0 : Chunk) (ha0 : OwnS (intE .u64) 26 H va0 a0 Ca0) (a1 : Int) (a2 : Int) (a3 : Int) (h1 : 0 ≤ a1) (h2 : a1 ≤ 4000000) (h3 : 0 ≤ a3) (h4 : a2 + a3 ≤ (a0.length : Int)) (hl : a0.length ≤ 4000000) : Fc Try.prog (fnv 150) [va0, .int .i64 a1, .int .i64 a2, .int .i64 a3] H [Ca0] (fun v' H' L' => ∃ Da0, v' = .tuple #[] ∧ L' = [Da0] ∧ OwnS (intE .u64) 26 H' va0 (slices_siftDownOrdered_Id_m a0 a1 a2 a3) Da0) := by
  refine Fc.of_body (N := 76) Try.func150 rfl (by kernel_rfl) rfl rfl ?_
  intro w0
  obtain ⟨Aa0, pa0, rfl, ma0, na0⟩ := OwnS.shape ha0
  refine T.seq ?_
  refine T.region ?_
  refine R.mvE rfl (by conv => lhs; whnf) ?_
  refine R.asE rfl (by conv => lhs; whnf) ?_
  refine TL.nil (Post.thnN ?_)
  refine T.block ?_
  refine T.loop (ι := Nat × Int × (List Int) × Chunk) (fun ⟨kl1, n8l1, xPa0l1, cPa0l1⟩ H' L' ds' => (a2 - n8l1).toNat < kl1 ∧ Has L' [cPa0l1] ∧ OwnS (intE .u64) 26 H' (.slice Aa0 a0.length pa0) xPa0l1 cPa0l1 ∧ 0 ≤ n8l1 ∧ n8l1 ≤ 4000000 ∧ slices_siftDownOrdered_Id_l1 a2 a3 kl1 ((n8l1, xPa0l1)) = slices_siftDownOrdered_Id_l1 a2 a3 ((a2 - a1).toNat + 1) ((a1, a0))) (fun ⟨kl1, n8l1, xPa0l1, cPa0l1⟩ => [(0, .slice Aa0 a0.length pa0), (2, .int .i64 a2), (3, .int .i64 a3), (8, .int .i64 n8l1)]) (fun ⟨kl1, n8l1, xPa0l1, cPa0l1⟩ => kl1) (((a2 - a1).toNat + 1), a1, a0, Ca0) ?_ ?_ ?_
  · exact ⟨(by omega), (Has.cons .hd Has.nil), ha0, (by first | omega | (simp; done) | (simp; omega) | (simp at *; omega)), (by first | omega | (simp; done) | (simp; omega) | (simp at *; omega)), (by rfl)⟩
  · exact ⟨rfl, rfl, rfl, rfl, trivial⟩
  · intro ⟨kl1, n8l1, xPa0l1, cPa0l1⟩ σ_l1 H_l1 L_l1 ds_l1 s_l1 hI_l1
    obtain ⟨hkl1, hI_l1⟩ := hI_l1
    obtain ⟨ml1, rfl⟩ : ∃ m, kl1 = m + 1 := ⟨kl1 - 1, by omega⟩
    obtain ⟨hLl1, wPa0l1, hBl1_0, hBl1_1, hQl1⟩ := hI_l1
    have nPa0l1_ := OwnS.len wPa0l1
    refine T.has hLl1 ?_
    refine T.block ?_
    refine T.seq ?_
    refine T.region ?_
    refine R.mvE rfl (by conv => lhs; whnf) ?_
    refine R.mulI rfl rfl rfl (by omega) ?_
    refine R.addI rfl rfl rfl (by omega) ?_
    refine R.asE rfl (by conv => lhs; whnf) ?_
    refine TL.nil (Post.thnN ?_)
    refine T.seq ?_
    refine T.seq ?_
    refine T.region ?_
    refine R.mvE rfl (by conv => lhs; whnf) ?_
    refine R.mvE rfl (by conv => lhs; whnf) ?_
    refine R.geq rfl rfl rfl ?_
    refine TL.nil (Post.thnN ?_)
    refine T.condD rfl (fun c16 => ?_) (fun c16 => ?_)
    · refine T.set 16 (.bool true) (congrArg Value.bool (decide_eq_true c16)) ?_
      refine T.exit (Post.thnE (Post.blkE rfl (Post.thnE (Post.blkX ?_))))
      have hEl1 : slices_siftDownOrdered_Id_l1 a2 a3 ((a2 - a1).toNat + 1) ((a1, a0)) = .go ((n8l1, xPa0l1)) := (by rw [← hQl1, slices_siftDownOrdered_Id_l1]; rw [if_pos c16])
      refine id ?_
      have hM : slices_siftDownOrdered_Id_m a0 a1 a2 a3 = xPa0l1 := by rw [slices_siftDownOrdered_Id_m, hEl1, LR.on_go]
      exact fin0N [cPa0l1] rfl (List.Sublist.cons_cons _ (List.nil_sublist _)) ⟨cPa0l1, by first | rw [hM] | rfl, by first | rw [hM] | rfl, by rw [hM]; exact wPa0l1⟩
    · refine T.set 16 (.bool false) (congrArg Value.bool (decide_eq_false c16)) ?_
      refine T.skip (Post.thnN ?_)
      refine T.seq ?_
      refine T.seq ?_
      refine T.cutK (ι := Bool) (fun b36c2 H' L' ds' => Has L' [cPa0l1] ∧ (if ((((2 * n8l1) + 1) + 1) : Int) < a2 then ((cmp_Less_Id_m (xPa0l1.getD (((a3 + ((2 * n8l1) + 1))).toNat) (0 : Int)) (xPa0l1.getD ((((a3 + ((2 * n8l1) + 1)) + 1)).toNat) (0 : Int)))) else false : Bool) = b36c2) (fun b36c2 => [(0, .slice Aa0 a0.length pa0), (2, .int .i64 a2), (3, .int .i64 a3), (8, .int .i64 n8l1), (9, .int .i64 ((2 * n8l1) + 1)), (36, .bool (b36c2))]) ?_ ?_
      · refine T.draw Try_mixed (by kernel_rfl) ?_
        refine Plan.v 0 [1, 2, 3, 4, 5, 6, 7, 8, 9, 10, 11, 12, 13, 14, 15, 16, 17, 18, 19] (by kernel_rfl) (by kernel_rfl) (by kernel_rfl) (by kernel_rfl) rfl (fun _ _ h_ => R.mvE rfl (by conv => lhs; whnf) (TL.nil h_)) ?_
        refine Plan.v 1 [2, 3, 4, 5, 6, 7, 8, 9, 10, 11, 12, 13, 14, 15, 16, 17, 18, 19] (by kernel_rfl) (by kernel_rfl) (by kernel_rfl) (by kernel_rfl) rfl (fun _ _ h_ => R.addI rfl rfl rfl (by omega) (TL.nil h_)) ?_
        refine Plan.v 2 [3, 4, 5, 6, 7, 8, 9, 10, 11, 12, 13, 14, 15, 16, 17, 18, 19] (by kernel_rfl) (by kernel_rfl) (by kernel_rfl) (by kernel_rfl) rfl (fun _ _ h_ => R.mvE rfl (by conv => lhs; whnf) (TL.nil h_)) ?_
        refine Plan.v 3 [4, 5, 6, 7, 8, 9, 10, 11, 12, 13, 14, 15, 16, 17, 18, 19] (by kernel_rfl) (by kernel_rfl) (by kernel_rfl) (by kernel_rfl) rfl (fun _ _ h_ => R.lss rfl rfl rfl (TL.nil h_)) ?_
        refine Plan.v 4 [5, 6, 7, 8, 9, 10, 11, 12, 13, 14, 15, 16, 17, 18, 19] (by kernel_rfl) (by kernel_rfl) (by kernel_rfl) (by kernel_rfl) rfl (fun _ _ h_ => R.mvE rfl (by conv => lhs; whnf) (TL.nil h_)) ?_
        refine Plan.gsplitD 21 rfl (fun g21 => ?_) (fun g21 => ?_)
        · refine Plan.v 5 [6, 7, 8, 9, 10, 11, 12, 13, 14, 15, 16, 17, 18, 19] (by kernel_rfl) (by kernel_rfl) (by kernel_rfl) (by kernel_rfl) rfl (fun _ _ h_ => R.mvE rfl (by conv => lhs; whnf) (TL.nil h_)) ?_
          refine Plan.v 6 [7, 8, 9, 10, 11, 12, 13, 14, 15, 16, 17, 18, 19] (by kernel_rfl) (by kernel_rfl) (by kernel_rfl) (by kernel_rfl) rfl (fun _ _ h_ => R.mvE rfl (by conv => lhs; whnf) (TL.nil h_)) ?_
          refine Plan.v 7 [8, 9, 10, 11, 12, 13, 14, 15, 16, 17, 18, 19] (by kernel_rfl) (by kernel_rfl) (by kernel_rfl) (by kernel_rfl) rfl (fun _ _ h_ => R.mvE rfl (by conv => lhs; whnf) (TL.nil h_)) ?_
          refine Plan.v 8 [9, 10, 11, 12, 13, 14, 15, 16, 17, 18, 19] (by kernel_rfl) (by kernel_rfl) (by kernel_rfl) (by kernel_rfl) rfl (fun _ _ h_ => R.addI rfl rfl rfl (by omega) (TL.nil h_)) ?_
          have hl26 : ((a3 + ((2 * n8l1) + 1))).toNat < a0.length := by first | omega | (simp; done) | (simp; omega) | (simp at *; omega)
          obtain ⟨y26, e26, h26⟩ : ∃ y, y = (xPa0l1.getD (((a3 + ((2 * n8l1) + 1))).toNat) (0 : Int)) ∧ xPa0l1[((a3 + ((2 * n8l1) + 1))).toNat]? = some y := ⟨_, rfl, getD_get (by first | exact hl26 | simpa using hl26 | (simp only [List.length_set]; omega) | omega | (rw [(sortI_perm _).length_eq]; exact hl26))⟩
          obtain ⟨b26, u26, cs26, l26, f26, j26, i26, g26, k26⟩ := OwnS.elem wPa0l1 h26
          obtain rfl : l26 = [.int .u64 y26] := g26
          refine Plan.v 9 [10, 11, 12, 13, 14, 15, 16, 17, 18, 19] (by kernel_rfl) (by kernel_rfl) (by kernel_rfl) (by kernel_rfl) rfl (fun _ _ h_ => R.ixp (sz := ((intE .u64)).size) Try.underlying22 Try.sizeOf26 rfl rfl rfl (by first | omega | (simp; done) | (simp; omega) | (simp at *; omega)) i26 (TL.nil h_)) ?_
          refine Plan.v 11 [10, 12, 13, 14, 15, 16, 17, 18, 19] (by kernel_rfl) (by kernel_rfl) (by kernel_rfl) (by kernel_rfl) rfl (fun _ _ h_ => R.mvE rfl (by conv => lhs; whnf) (TL.nil h_)) ?_
          refine Plan.v 12 [10, 13, 14, 15, 16, 17, 18, 19] (by kernel_rfl) (by kernel_rfl) (by kernel_rfl) (by kernel_rfl) rfl (fun _ _ h_ => R.mvE rfl (by conv => lhs; whnf) (TL.nil h_)) ?_
          refine Plan.v 13 [10, 14, 15, 16, 17, 18, 19] (by kernel_rfl) (by kernel_rfl) (by kernel_rfl) (by kernel_rfl) rfl (fun _ _ h_ => R.mvE rfl (by conv => lhs; whnf) (TL.nil h_)) ?_
          refine Plan.v 14 [10, 15, 16, 17, 18, 19] (by kernel_rfl) (by kernel_rfl) (by kernel_rfl) (by kernel_rfl) rfl (fun _ _ h_ => R.addI rfl rfl rfl (by omega) (TL.nil h_)) ?_
          refine Plan.v 15 [10, 16, 17, 18, 19] (by kernel_rfl) (by kernel_rfl) (by kernel_rfl) (by kernel_rfl) rfl (fun _ _ h_ => R.addI rfl rfl rfl (by omega) (TL.nil h_)) ?_
          have hl33 : (((a3 + ((2 * n8l1) + 1)) + 1)).toNat < a0.length := by first | omega | (simp; done) | (simp; omega) | (simp at *; omega)
          obtain ⟨y33, e33, h33⟩ : ∃ y, y = (xPa0l1.getD ((((a3 + ((2 * n8l1) + 1)) + 1)).toNat) (0 : Int)) ∧ xPa0l1[(((a3 + ((2 * n8l1) + 1)) + 1)).toNat]? = some y := ⟨_, rfl, getD_get (by first | exact hl33 | simpa using hl33 | (simp only [List.length_set]; omega) | omega | (rw [(sortI_perm _).length_eq]; exact hl33))⟩
          obtain ⟨b33, u33, cs33, l33, f33, j33, i33, g33, k33⟩ := OwnS.elem wPa0l1 h33
          obtain rfl : l33 = [.int .u64 y33] := g33
          refine Plan.v 16 [10, 17, 18, 19] (by kernel_rfl) (by kernel_rfl) (by kernel_rfl) (by kernel_rfl) rfl (fun _ _ h_ => R.ixp (sz := ((intE .u64)).size) Try.underlying22 Try.sizeOf26 rfl rfl rfl (by first | omega | (simp; done) | (simp; omega) | (simp at *; omega)) i33 (TL.nil h_)) ?_
          refine Plan.s2 10 17 [17, 18, 19] [10, 18, 19] (by kernel_rfl) (by kernel_rfl) (by kernel_rfl) rfl rfl ?_ ?_
          · refine R.ld Try.isAgg26 rfl rfl (by rw [← f26]; exact .hd) (k26 0 _ rfl) ?_
            refine TL.nil (Plan.e1 (HLe.refl _) ?_)
            refine Plan.s1 17 [18, 19] (by kernel_rfl) (by kernel_rfl) rfl ?_
            refine R.ld Try.isAgg26 rfl rfl (by rw [← f33]; exact .hd) (k33 0 _ rfl) ?_
            refine TL.nil (Plan.e1 (HLe.refl _) ?_)
            refine Plan.v 18 [19] (by kernel_rfl) (by kernel_rfl) (by kernel_rfl) (by kernel_rfl) rfl (fun _ _ h_ => R.callv rfl rfl rfl (cmp_Less_Id_c _ (y26) (y33)) (TL.nil h_)) ?_
            refine Plan.v 19 [] (by kernel_rfl) (by kernel_rfl) (by kernel_rfl) (by kernel_rfl) rfl (fun _ _ h_ => R.pkTE rfl rfl (by conv => lhs; whnf) (TL.nil h_)) ?_
            refine Plan.done (Post.thnN ?_)
            exact ⟨(cmp_Less_Id_m y26 y33), HLe.refl _, ⟨(Has.cons .hd Has.nil), (by subst e33; subst e26; rw [if_pos g21])⟩, rfl, rfl, rfl, rfl, rfl, rfl, trivial⟩
          · refine R.ld Try.isAgg26 rfl rfl (by rw [← f33]; exact .hd) (k33 0 _ rfl) ?_
            refine TL.nil (Plan.e1 (HLe.refl _) ?_)
            refine Plan.s1 10 [18, 19] (by kernel_rfl) (by kernel_rfl) rfl ?_
            refine R.ld Try.isAgg26 rfl rfl (by rw [← f26]; exact .hd) (k26 0 _ rfl) ?_
            refine TL.nil (Plan.e1 (HLe.refl _) ?_)
            refine Plan.v 18 [19] (by kernel_rfl) (by kernel_rfl) (by kernel_rfl) (by kernel_rfl) rfl (fun _ _ h_ => R.callv rfl rfl rfl (cmp_Less_Id_c _ (y26) (y33)) (TL.nil h_)) ?_
            refine Plan.v 19 [] (by kernel_rfl) (by kernel_rfl) (by kernel_rfl) (by kernel_rfl) rfl (fun _ _ h_ => R.pkTE rfl rfl (by conv => lhs; whnf) (TL.nil h_)) ?_
            refine Plan.done (Post.thnN ?_)
            exact ⟨(cmp_Less_Id_m y26 y33), HLe.refl _, ⟨(Has.cons .hd Has.nil), (by subst e33; subst e26; rw [if_pos g21])⟩, rfl, rfl, rfl, rfl, rfl, rfl, trivial⟩
        · refine Plan.v 5 [6, 7, 8, 9, 10, 11, 12, 13, 14, 15, 16, 17, 18, 19] (by kernel_rfl) (by kernel_rfl) (by kernel_rfl) (by kernel_rfl) rfl (fun _ _ h_ => TL.off rfl rfl rfl (TL.nil h_)) ?_
          refine Plan.v 6 [7, 8, 9, 10, 11, 12, 13, 14, 15, 16, 17, 18, 19] (by kernel_rfl) (by kernel_rfl) (by kernel_rfl) (by kernel_rfl) rfl (fun _ _ h_ => TL.off rfl rfl rfl (TL.nil h_)) ?_
          refine Plan.v 7 [8, 9, 10, 11, 12, 13, 14, 15, 16, 17, 18, 19] (by kernel_rfl) (by kernel_rfl) (by kernel_rfl) (by kernel_rfl) rfl (fun _ _ h_ => TL.off rfl rfl rfl (TL.nil h_)) ?_
          refine Plan.v 8 [9, 10, 11, 12, 13, 14, 15, 16, 17, 18, 19] (by kernel_rfl) (by kernel_rfl) (by kernel_rfl) (by kernel_rfl) rfl (fun _ _ h_ => TL.off rfl rfl rfl (TL.nil h_)) ?_
          refine Plan.v 9 [10, 11, 12, 13, 14, 15, 16, 17, 18, 19] (by kernel_rfl) (by kernel_rfl) (by kernel_rfl) (by kernel_rfl) rfl (fun _ _ h_ => TL.off rfl rfl rfl (TL.nil h_)) ?_
          refine Plan.v 10 [11, 12, 13, 14, 15, 16, 17, 18, 19] (by kernel_rfl) (by kernel_rfl) (by kernel_rfl) (by kernel_rfl) rfl (fun _ _ h_ => TL.off rfl rfl rfl (TL.nil h_)) ?_
          refine Plan.v 11 [12, 13, 14, 15, 16, 17, 18, 19] (by kernel_rfl) (by kernel_rfl) (by kernel_rfl) (by kernel_rfl) rfl (fun _ _ h_ => TL.off rfl rfl rfl (TL.nil h_)) ?_
          refine Plan.v 12 [13, 14, 15, 16, 17, 18, 19] (by kernel_rfl) (by kernel_rfl) (by kernel_rfl) (by kernel_rfl) rfl (fun _ _ h_ => TL.off rfl rfl rfl (TL.nil h_)) ?_
          refine Plan.v 13 [14, 15, 16, 17, 18, 19] (by kernel_rfl) (by kernel_rfl) (by kernel_rfl) (by kernel_rfl) rfl (fun _ _ h_ => TL.off rfl rfl rfl (TL.nil h_)) ?_
          refine Plan.v 14 [15, 16, 17, 18, 19] (by kernel_rfl) (by kernel_rfl) (by kernel_rfl) (by kernel_rfl) rfl (fun _ _ h_ => TL.off rfl rfl rfl (TL.nil h_)) ?_
          refine Plan.v 15 [16, 17, 18, 19] (by kernel_rfl) (by kernel_rfl) (by kernel_rfl) (by kernel_rfl) rfl (fun _ _ h_ => TL.off rfl rfl rfl (TL.nil h_)) ?_
          refine Plan.v 16 [17, 18, 19] (by kernel_rfl) (by kernel_rfl) (by kernel_rfl) (by kernel_rfl) rfl (fun _ _ h_ => TL.off rfl rfl rfl (TL.nil h_)) ?_
          refine Plan.v 17 [18, 19] (by kernel_rfl) (by kernel_rfl) (by kernel_rfl) (by kernel_rfl) rfl (fun _ _ h_ => TL.off rfl rfl rfl (TL.nil h_)) ?_
          refine Plan.v 18 [19] (by kernel_rfl) (by kernel_rfl) (by kernel_rfl) (by kernel_rfl) rfl (fun _ _ h_ => TL.off rfl rfl rfl (TL.nil h_)) ?_
          refine Plan.v 19 [] (by kernel_rfl) (by kernel_rfl) (by kernel_rfl) (by kernel_rfl) rfl (fun _ _ h_ => R.pkFE rfl rfl (by conv => lhs; whnf) (TL.nil h_)) ?_
          refine Plan.done (Post.thnN ?_)
          exact ⟨false, HLe.refl _, ⟨(Has.cons .hd Has.nil), (by rw [if_neg g21])⟩, rfl, rfl, rfl, rfl, rfl, rfl, trivial⟩
      · intro b36c2 σ_c2 H_c2 L_c2 ds_c2 s_c2 hI_c2
        obtain ⟨hLc2, hTc2⟩ := hI_c2
        refine T.has hLc2 ?_
        refine T.cutK (ι := Int) (fun n9c3 H' L' ds' => Has L' [cPa0l1] ∧ n9c3 < a2 ∧ n8l1 < n9c3 ∧ (if b36c2 = true then ((((2 * n8l1) + 1) + 1)) else (((2 * n8l1) + 1)) : Int) = n9c3) (fun n9c3 => [(0, .slice Aa0 a0.length pa0), (2, .int .i64 a2), (3, .int .i64 a3), (8, .int .i64 n8l1), (9, .int .i64 n9c3)]) ?_ ?_
        · refine T.cond rfl (fun c36 => ?_) (fun c36 => ?_)
          · refine T.set 36 (.bool true) (congrArg Value.bool c36) ?_
            have hZ36 := hTc2.trans c36
            try simp only [or_f, or_t, and_f, and_t, decide_eq_true_eq, decide_eq_false_iff_not, Bool.not_eq_true'] at hZ36
            refine T.region ?_
            refine R.mvE rfl (by conv => lhs; whnf) ?_
            refine R.addI rfl rfl rfl (by omega) ?_
            refine R.asE rfl (by conv => lhs; whnf) ?_
            refine TL.nil (Post.thnN ?_)
            exact ⟨(((2 * n8l1) + 1) + 1), HLe.refl _, ⟨(Has.cons .hd Has.nil), (by first | omega | (simp; done) | (simp; omega) | (simp at *; omega)), (by first | omega | (simp; done) | (simp; omega) | (simp at *; omega)), (by rw [if_t c36])⟩, rfl, rfl, rfl, rfl, rfl, trivial⟩
          · refine T.set 36 (.bool false) (congrArg Value.bool c36) ?_
            have hZ36 := hTc2.trans c36
            try simp only [or_f, or_t, and_f, and_t, decide_eq_true_eq, decide_eq_false_iff_not, Bool.not_eq_true'] at hZ36
            refine T.skip (Post.thnN ?_)
            exact ⟨((2 * n8l1) + 1), HLe.refl _, ⟨(Has.cons .hd Has.nil), (by first | omega | (simp; done) | (simp; omega) | (simp at *; omega)), (by first | omega | (simp; done) | (simp; omega) | (simp at *; omega)), (by rw [if_f c36])⟩, rfl, rfl, rfl, rfl, rfl, trivial⟩
        · intro n9c3 σ_c3 H_c3 L_c3 ds_c3 s_c3 hI_c3
          obtain ⟨hLc3, hBc3_0, hBc3_1, hTc3⟩ := hI_c3
          refine T.has hLc3 ?_
          refine T.seq ?_
          refine T.seq ?_
          refine T.cutK (ι := Bool) (fun b52c4 H' L' ds' => Has L' [cPa0l1] ∧ ((!(cmp_Less_Id_m (xPa0l1.getD (((a3 + n8l1)).toNat) (0 : Int)) (xPa0l1.getD (((a3 + n9c3)).toNat) (0 : Int)))) : Bool) = b52c4) (fun b52c4 => [(0, .slice Aa0 a0.length pa0), (2, .int .i64 a2), (3, .int .i64 a3), (8, .int .i64 n8l1), (9, .int .i64 n9c3), (52, .bool (b52c4))]) ?_ ?_
          · refine T.draw Try_mixed (by kernel_rfl) ?_
            refine Plan.v 0 [1, 2, 3, 4, 5, 6, 7, 8, 9, 10, 11, 12, 13] (by kernel_rfl) (by kernel_rfl) (by kernel_rfl) (by kernel_rfl) rfl (fun _ _ h_ => R.mvE rfl (by conv => lhs; whnf) (TL.nil h_)) ?_
            refine Plan.v 1 [2, 3, 4, 5, 6, 7, 8, 9, 10, 11, 12, 13] (by kernel_rfl) (by kernel_rfl) (by kernel_rfl) (by kernel_rfl) rfl (fun _ _ h_ => R.mvE rfl (by conv => lhs; whnf) (TL.nil h_)) ?_
            refine Plan.v 2 [3, 4, 5, 6, 7, 8, 9, 10, 11, 12, 13] (by kernel_rfl) (by kernel_rfl) (by kernel_rfl) (by kernel_rfl) rfl (fun _ _ h_ => R.mvE rfl (by conv => lhs; whnf) (TL.nil h_)) ?_
            refine Plan.v 3 [4, 5, 6, 7, 8, 9, 10, 11, 12, 13] (by kernel_rfl) (by kernel_rfl) (by kernel_rfl) (by kernel_rfl) rfl (fun _ _ h_ => R.addI rfl rfl rfl (by omega) (TL.nil h_)) ?_
            have hl43 : ((a3 + n8l1)).toNat < a0.length := by first | omega | (simp; done) | (simp; omega) | (simp at *; omega)
            obtain ⟨y43, e43, h43⟩ : ∃ y, y = (xPa0l1.getD (((a3 + n8l1)).toNat) (0 : Int)) ∧ xPa0l1[((a3 + n8l1)).toNat]? = some y := ⟨_, rfl, getD_get (by first | exact hl43 | simpa using hl43 | (simp only [List.length_set]; omega) | omega | (rw [(sortI_perm _).length_eq]; exact hl43))⟩
            obtain ⟨b43, u43, cs43, l43, f43, j43, i43, g43, k43⟩ := OwnS.elem (OwnS.mono wPa0l1 (s_c2.trans s_c3)) h43
            obtain rfl : l43 = [.int .u64 y43] := g43
            refine Plan.v 4 [5, 6, 7, 8, 9, 10, 11, 12, 13] (by kernel_rfl) (by kernel_rfl) (by kernel_rfl) (by kernel_rfl) rfl (fun _ _ h_ => R.ixp (sz := ((intE .u64)).size) Try.underlying22 Try.sizeOf26 rfl rfl rfl (by first | omega | (simp; done) | (simp; omega) | (simp at *; omega)) i43 (TL.nil h_)) ?_
            refine Plan.v 6 [5, 7, 8, 9, 10, 11, 12, 13] (by kernel_rfl) (by kernel_rfl) (by kernel_rfl) (by kernel_rfl) rfl (fun _ _ h_ => R.mvE rfl (by conv => lhs; whnf) (TL.nil h_)) ?_
            refine Plan.v 7 [5, 8, 9, 10, 11, 12, 13] (by kernel_rfl) (by kernel_rfl) (by kernel_rfl) (by kernel_rfl) rfl (fun _ _ h_ => R.mvE rfl (by conv => lhs; whnf) (TL.nil h_)) ?_
            refine Plan.v 8 [5, 9, 10, 11, 12, 13] (by kernel_rfl) (by kernel_rfl) (by kernel_rfl) (by kernel_rfl) rfl (fun _ _ h_ => R.mvE rfl (by conv => lhs; whnf) (TL.nil h_)) ?_
            refine Plan.v 9 [5, 10, 11, 12, 13] (by kernel_rfl) (by kernel_rfl) (by kernel_rfl) (by kernel_rfl) rfl (fun _ _ h_ => R.addI rfl rfl rfl (by omega) (TL.nil h_)) ?_
            have hl49 : ((a3 + n9c3)).toNat < a0.length := by first | omega | (simp; done) | (simp; omega) | (simp at *; omega)
            obtain ⟨y49, e49, h49⟩ : ∃ y, y = (xPa0l1.getD (((a3 + n9c3)).toNat) (0 : Int)) ∧ xPa0l1[((a3 + n9c3)).toNat]? = some y := ⟨_, rfl, getD_get (by first | exact hl49 | simpa using hl49 | (simp only [List.length_set]; omega) | omega | (rw [(sortI_perm _).length_eq]; exact hl49))⟩
            obtain ⟨b49, u49, cs49, l49, f49, j49, i49, g49, k49⟩ := OwnS.elem (OwnS.mono wPa0l1 (s_c2.trans s_c3)) h49
            obtain rfl : l49 = [.int .u64 y49] := g49
            refine Plan.v 10 [5, 11, 12, 13] (by kernel_rfl) (by kernel_rfl) (by kernel_rfl) (by kernel_rfl) rfl (fun _ _ h_ => R.ixp (sz := ((intE .u64)).size) Try.underlying22 Try.sizeOf26 rfl rfl rfl (by first | omega | (simp; done) | (simp; omega) | (simp at *; omega)) i49 (TL.nil h_)) ?_
            refine Plan.s2 5 11 [11, 12, 13] [5, 12, 13] (by kernel_rfl) (by kernel_rfl) (by kernel_rfl) rfl rfl ?_ ?_
            · refine R.ld Try.isAgg26 rfl rfl (by rw [← f43]; exact .hd) (k43 0 _ rfl) ?_
              refine TL.nil (Plan.e1 (HLe.refl _) ?_)
              refine Plan.s1 11 [12, 13] (by kernel_rfl) (by kernel_rfl) rfl ?_
              refine R.ld Try.isAgg26 rfl rfl (by rw [← f49]; exact .hd) (k49 0 _ rfl) ?_
              refine TL.nil (Plan.e1 (HLe.refl _) ?_)
              refine Plan.v 12 [13] (by kernel_rfl) (by kernel_rfl) (by kernel_rfl) (by kernel_rfl) rfl (fun _ _ h_ => R.callv rfl rfl rfl (cmp_Less_Id_c _ (y43) (y49)) (TL.nil h_)) ?_
              refine Plan.v 13 [] (by kernel_rfl) (by kernel_rfl) (by kernel_rfl) (by kernel_rfl) rfl (fun _ _ h_ => R.not rfl rfl (TL.nil h_)) ?_
              refine Plan.done (Post.thnN ?_)
              exact ⟨(!(cmp_Less_Id_m y43 y49)), HLe.refl _, ⟨(Has.cons .hd Has.nil), (by subst e49; subst e43; rfl)⟩, rfl, rfl, rfl, rfl, rfl, rfl, trivial⟩
            · refine R.ld Try.isAgg26 rfl rfl (by rw [← f49]; exact .hd) (k49 0 _ rfl) ?_
              refine TL.nil (Plan.e1 (HLe.refl _) ?_)
              refine Plan.s1 5 [12, 13] (by kernel_rfl) (by kernel_rfl) rfl ?_
              refine R.ld Try.isAgg26 rfl rfl (by rw [← f43]; exact .hd) (k43 0 _ rfl) ?_
              refine TL.nil (Plan.e1 (HLe.refl _) ?_)
              refine Plan.v 12 [13] (by kernel_rfl) (by kernel_rfl) (by kernel_rfl) (by kernel_rfl) rfl (fun _ _ h_ => R.callv rfl rfl rfl (cmp_Less_Id_c _ (y43) (y49)) (TL.nil h_)) ?_
              refine Plan.v 13 [] (by kernel_rfl) (by kernel_rfl) (by kernel_rfl) (by kernel_rfl) rfl (fun _ _ h_ => R.not rfl rfl (TL.nil h_)) ?_
              refine Plan.done (Post.thnN ?_)
              exact ⟨(!(cmp_Less_Id_m y43 y49)), HLe.refl _, ⟨(Has.cons .hd Has.nil), (by subst e49; subst e43; rfl)⟩, rfl, rfl, rfl, rfl, rfl, rfl, trivial⟩
          · intro b52c4 σ_c4 H_c4 L_c4 ds_c4 s_c4 hI_c4
            obtain ⟨hLc4, hTc4⟩ := hI_c4
            refine T.has hLc4 ?_
            refine T.cond rfl (fun c52 => ?_) (fun c52 => ?_)
            · refine T.set 52 (.bool true) (congrArg Value.bool c52) ?_
              have hZ52 := hTc4.trans c52
              try simp only [or_f, or_t, and_f, and_t, decide_eq_true_eq, decide_eq_false_iff_not, Bool.not_eq_true'] at hZ52
              refine T.has (Has.cons .hd Has.nil) ?_
              refine T.ret (Post.thnR (Post.blkR (Post.thnR (Post.blkR ?_))))
              have hXl1 : slices_siftDownOrdered_Id_l1 a2 a3 ((a2 - a1).toNat + 1) ((a1, a0)) = .ret xPa0l1 := by rw [← hQl1, slices_siftDownOrdered_Id_l1]; rw [if_neg c16, hTc2, LR.seq_go, hTc3, LR.seq_go, hTc4, LR.seq_go, if_t c52]
              have hM : slices_siftDownOrdered_Id_m a0 a1 a2 a3 = xPa0l1 := by rw [slices_siftDownOrdered_Id_m, hXl1, LR.on_ret]
              exact fin0L [cPa0l1] rfl (List.Sublist.refl _) ⟨cPa0l1, by first | rw [hM] | rfl, by first | rw [hM] | rfl, by rw [hM]; exact (OwnS.mono wPa0l1 (s_c2.trans (s_c3.trans s_c4)))⟩
            · refine T.set 52 (.bool false) (congrArg Value.bool c52) ?_
              have hZ52 := hTc4.trans c52
              try simp only [or_f, or_t, and_f, and_t, decide_eq_true_eq, decide_eq_false_iff_not, Bool.not_eq_true'] at hZ52
              refine T.skip (Post.thnN ?_)
              refine T.seq ?_
              refine T.draw Try_mixed (by kernel_rfl) ?_
              refine Plan.v 0 [1, 2, 3, 4, 5, 6, 7, 8, 9, 10, 11, 12, 13, 14, 15, 16, 17, 18, 19, 20, 21, 22, 23] (by kernel_rfl) (by kernel_rfl) (by kernel_rfl) (by kernel_rfl) rfl (fun _ _ h_ => R.mvE rfl (by conv => lhs; whnf) (TL.nil h_)) ?_
              refine Plan.v 1 [2, 3, 4, 5, 6, 7, 8, 9, 10, 11, 12, 13, 14, 15, 16, 17, 18, 19, 20, 21, 22, 23] (by kernel_rfl) (by kernel_rfl) (by kernel_rfl) (by kernel_rfl) rfl (fun _ _ h_ => R.mvE rfl (by conv => lhs; whnf) (TL.nil h_)) ?_
              refine Plan.v 2 [3, 4, 5, 6, 7, 8, 9, 10, 11, 12, 13, 14, 15, 16, 17, 18, 19, 20, 21, 22, 23] (by kernel_rfl) (by kernel_rfl) (by kernel_rfl) (by kernel_rfl) rfl (fun _ _ h_ => R.mvE rfl (by conv => lhs; whnf) (TL.nil h_)) ?_
              refine Plan.v 3 [4, 5, 6, 7, 8, 9, 10, 11, 12, 13, 14, 15, 16, 17, 18, 19, 20, 21, 22, 23] (by kernel_rfl) (by kernel_rfl) (by kernel_rfl) (by kernel_rfl) rfl (fun _ _ h_ => R.addI rfl rfl rfl (by omega) (TL.nil h_)) ?_
              refine Plan.v 4 [5, 6, 7, 8, 9, 10, 11, 12, 13, 14, 15, 16, 17, 18, 19, 20, 21, 22, 23] (by kernel_rfl) (by kernel_rfl) (by kernel_rfl) (by kernel_rfl) rfl (fun _ _ h_ => R.mvE rfl (by conv => lhs; whnf) (TL.nil h_)) ?_
              refine Plan.v 5 [6, 7, 8, 9, 10, 11, 12, 13, 14, 15, 16, 17, 18, 19, 20, 21, 22, 23] (by kernel_rfl) (by kernel_rfl) (by kernel_rfl) (by kernel_rfl) rfl (fun _ _ h_ => R.mvE rfl (by conv => lhs; whnf) (TL.nil h_)) ?_
              refine Plan.v 6 [7, 8, 9, 10, 11, 12, 13, 14, 15, 16, 17, 18, 19, 20, 21, 22, 23] (by kernel_rfl) (by kernel_rfl) (by kernel_rfl) (by kernel_rfl) rfl (fun _ _ h_ => R.mvE rfl (by conv => lhs; whnf) (TL.nil h_)) ?_
              refine Plan.v 7 [8, 9, 10, 11, 12, 13, 14, 15, 16, 17, 18, 19, 20, 21, 22, 23] (by kernel_rfl) (by kernel_rfl) (by kernel_rfl) (by kernel_rfl) rfl (fun _ _ h_ => R.addI rfl rfl rfl (by omega) (TL.nil h_)) ?_
              refine Plan.v 8 [9, 10, 11, 12, 13, 14, 15, 16, 17, 18, 19, 20, 21, 22, 23] (by kernel_rfl) (by kernel_rfl) (by kernel_rfl) (by kernel_rfl) rfl (fun _ _ h_ => R.mvE rfl (by conv => lhs; whnf) (TL.nil h_)) ?_
              refine Plan.v 9 [10, 11, 12, 13, 14, 15, 16, 17, 18, 19, 20, 21, 22, 23] (by kernel_rfl) (by kernel_rfl) (by kernel_rfl) (by kernel_rfl) rfl (fun _ _ h_ => R.mvE rfl (by conv => lhs; whnf) (TL.nil h_)) ?_
              refine Plan.v 10 [11, 12, 13, 14, 15, 16, 17, 18, 19, 20, 21, 22, 23] (by kernel_rfl) (by kernel_rfl) (by kernel_rfl) (by kernel_rfl) rfl (fun _ _ h_ => R.mvE rfl (by conv => lhs; whnf) (TL.nil h_)) ?_
              refine Plan.v 11 [12, 13, 14, 15, 16, 17, 18, 19, 20, 21, 22, 23] (by kernel_rfl) (by kernel_rfl) (by kernel_rfl) (by kernel_rfl) rfl (fun _ _ h_ => R.addI rfl rfl rfl (by omega) (TL.nil h_)) ?_
              have hl65 : ((a3 + n9c3)).toNat < a0.length := by first | omega | (simp; done) | (simp; omega) | (simp at *; omega)
              obtain ⟨y65, e65, h65⟩ : ∃ y, y = (xPa0l1.getD (((a3 + n9c3)).toNat) (0 : Int)) ∧ xPa0l1[((a3 + n9c3)).toNat]? = some y := ⟨_, rfl, getD_get (by first | exact hl65 | simpa using hl65 | (simp only [List.length_set]; omega) | omega | (rw [(sortI_perm _).length_eq]; exact hl65))⟩
              obtain ⟨b65, u65, cs65, l65, f65, j65, i65, g65, k65⟩ := OwnS.elem (OwnS.mono wPa0l1 (s_c2.trans (s_c3.trans s_c4))) h65
              obtain rfl : l65 = [.int .u64 y65] := g65
              refine Plan.v 12 [13, 14, 15, 16, 17, 18, 19, 20, 21, 22, 23] (by kernel_rfl) (by kernel_rfl) (by kernel_rfl) (by kernel_rfl) rfl (fun _ _ h_ => R.ixp (sz := ((intE .u64)).size) Try.underlying22 Try.sizeOf26 rfl rfl rfl (by first | omega | (simp; done) | (simp; omega) | (simp at *; omega)) i65 (TL.nil h_)) ?_
              refine Plan.v 14 [13, 15, 16, 17, 18, 19, 20, 21, 22, 23] (by kernel_rfl) (by kernel_rfl) (by kernel_rfl) (by kernel_rfl) rfl (fun _ _ h_ => R.mvE rfl (by conv => lhs; whnf) (TL.nil h_)) ?_
              refine Plan.v 15 [13, 16, 17, 18, 19, 20, 21, 22, 23] (by kernel_rfl) (by kernel_rfl) (by kernel_rfl) (by kernel_rfl) rfl (fun _ _ h_ => R.mvE rfl (by conv => lhs; whnf) (TL.nil h_)) ?_
              refine Plan.v 16 [13, 17, 18, 19, 20, 21, 22, 23] (by kernel_rfl) (by kernel_rfl) (by kernel_rfl) (by kernel_rfl) rfl (fun _ _ h_ => R.mvE rfl (by conv => lhs; whnf) (TL.nil h_)) ?_
              refine Plan.v 17 [13, 18, 19, 20, 21, 22, 23] (by kernel_rfl) (by kernel_rfl) (by kernel_rfl) (by kernel_rfl) rfl (fun _ _ h_ => R.addI rfl rfl rfl (by omega) (TL.nil h_)) ?_
              have hl71 : ((a3 + n8l1)).toNat < a0.length := by first | omega | (simp; done) | (simp; omega) | (simp at *; omega)
              obtain ⟨y71, e71, h71⟩ : ∃ y, y = (xPa0l1.getD (((a3 + n8l1)).toNat) (0 : Int)) ∧ xPa0l1[((a3 + n8l1)).toNat]? = some y := ⟨_, rfl, getD_get (by first | exact hl71 | simpa using hl71 | (simp only [List.length_set]; omega) | omega | (rw [(sortI_perm _).length_eq]; exact hl71))⟩
              obtain ⟨b71, u71, cs71, l71, f71, j71, i71, g71, k71⟩ := OwnS.elem (OwnS.mono wPa0l1 (s_c2.trans (s_c3.trans s_c4))) h71
              obtain rfl : l71 = [.int .u64 y71] := g71
              refine Plan.v 18 [13, 19, 20, 21, 22, 23] (by kernel_rfl) (by kernel_rfl) (by kernel_rfl) (by kernel_rfl) rfl (fun _ _ h_ => R.ixp (sz := ((intE .u64)).size) Try.underlying22 Try.sizeOf26 rfl rfl rfl (by first | omega | (simp; done) | (simp; omega) | (simp at *; omega)) i71 (TL.nil h_)) ?_
              refine Plan.s2 13 19 [19, 20, 21, 22, 23] [13, 20, 21, 22, 23] (by kernel_rfl) (by kernel_rfl) (by kernel_rfl) rfl rfl ?_ ?_
              · refine R.ld Try.isAgg26 rfl rfl (by rw [← f65]; exact .hd) (k65 0 _ rfl) ?_
                refine TL.nil (Plan.e1 (HLe.refl _) ?_)
                refine Plan.s1 19 [20, 21, 22, 23] (by kernel_rfl) (by kernel_rfl) rfl ?_
                refine R.ld Try.isAgg26 rfl rfl (by rw [← f71]; exact .hd) (k71 0 _ rfl) ?_
                refine TL.nil (Plan.e1 (HLe.refl _) ?_)
                have hl73 : ((a3 + n8l1)).toNat < a0.length := by first | omega | (simp; done) | (simp; omega) | (simp at *; omega)
                obtain ⟨y73, e73, h73⟩ : ∃ y, y = (xPa0l1.getD (((a3 + n8l1)).toNat) (0 : Int)) ∧ xPa0l1[((a3 + n8l1)).toNat]? = some y := ⟨_, rfl, getD_get (by first | exact hl73 | simpa using hl73 | (simp only [List.length_set]; omega) | omega | (rw [(sortI_perm _).length_eq]; exact hl73))⟩
                obtain ⟨b73, u73, cs73, l73, f73, j73, i73, g73, k73⟩ := OwnS.elem (OwnS.mono wPa0l1 (s_c2.trans (s_c3.trans s_c4))) h73
                obtain rfl : l73 = [.int .u64 y73] := g73
                refine Plan.v 20 [21, 22, 23] (by kernel_rfl) (by kernel_rfl) (by kernel_rfl) (by kernel_rfl) rfl (fun _ _ h_ => R.ixp (sz := ((intE .u64)).size) Try.underlying22 Try.sizeOf26 rfl rfl rfl (by first | omega | (simp; done) | (simp; omega) | (simp at *; omega)) i73 (TL.nil h_)) ?_
                refine Plan.s1 21 [22, 23] (by kernel_rfl) (by kernel_rfl) rfl ?_
                refine R.stEF (E := (intE .u64)) (e := 26) (v := (.slice Aa0 a0.length pa0)) (m := [.int .u64 y65]) (o := 0) (y := y73) (y' := y65) (j := ((a3 + n8l1)).toNat) Try.sizeOf26 rfl (OwnS.mono wPa0l1 (s_c2.trans (s_c3.trans s_c4))) .hd i73 rfl rfl (cells1 rfl) (all_one rfl) h73 (by show 0 + 1 ≤ 1; decide) (fun l hl => by have e0 : l = [.int .u64 y73] := hl; subst e0; exact rfl) ?_
                intro cst11 wst11
                refine TL.nil (Plan.e0 (HLe.refl _) ?_)
                have hl74 : ((a3 + n9c3)).toNat < a0.length := by first | omega | (simp; done) | (simp; omega) | (simp at *; omega)
                obtain ⟨y74, e74, h74⟩ : ∃ y, y = (((xPa0l1.set (((a3 + n8l1)).toNat) y65)).getD (((a3 + n9c3)).toNat) (0 : Int)) ∧ ((xPa0l1.set (((a3 + n8l1)).toNat) y65))[((a3 + n9c3)).toNat]? = some y := ⟨_, rfl, getD_get (by first | exact hl74 | simpa using hl74 | (simp only [List.length_set]; omega) | omega | (rw [(sortI_perm _).length_eq]; exact hl74))⟩
                obtain ⟨b74, u74, cs74, l74, f74, j74, i74, g74, k74⟩ := OwnS.elem wst11 h74
                obtain rfl : l74 = [.int .u64 y74] := g74
                refine Plan.v 22 [23] (by kernel_rfl) (by kernel_rfl) (by kernel_rfl) (by kernel_rfl) rfl (fun _ _ h_ => R.ixp (sz := ((intE .u64)).size) Try.underlying22 Try.sizeOf26 rfl rfl rfl (by first | omega | (simp; done) | (simp; omega) | (simp at *; omega)) i74 (TL.nil h_)) ?_
                refine Plan.s1 23 [] (by kernel_rfl) (by kernel_rfl) rfl ?_
                refine R.stEF (E := (intE .u64)) (e := 26) (v := (.slice Aa0 a0.length pa0)) (m := [.int .u64 y71]) (o := 0) (y := y74) (y' := y71) (j := ((a3 + n9c3)).toNat) Try.sizeOf26 rfl wst11 .hd i74 rfl rfl (cells1 rfl) (all_one rfl) h74 (by show 0 + 1 ≤ 1; decide) (fun l hl => by have e0 : l = [.int .u64 y74] := hl; subst e0; exact rfl) ?_
                intro cst12 wst12
                refine TL.nil (Plan.e0 (HLe.refl _) ?_)
                refine Plan.done (Post.thnN ?_)
                refine T.region ?_
                refine R.mvE rfl (by conv => lhs; whnf) ?_
                refine R.asE rfl (by conv => lhs; whnf) ?_
                refine TL.nil (Post.blkN ?_)
                refine id (Post.thnN ?_)
                exact ⟨(ml1, n9c3, (((xPa0l1.set (((a3 + n8l1)).toNat) y65)).set (((a3 + n9c3)).toNat) y71), cst12), (s_l1.trans (s_c2.trans (s_c3.trans s_c4))), ⟨(by first | omega | (simp; omega) | (simp at *; omega)), (Has.cons .hd Has.nil), wst12, (by first | omega | (simp; done) | (simp; omega) | (simp at *; omega)), (by first | omega | (simp; done) | (simp; omega) | (simp at *; omega)), (by subst e74; subst e73; subst e71; subst e65; rw [← hQl1, slices_siftDownOrdered_Id_l1]; rw [if_neg c16, hTc2, LR.seq_go, hTc3, LR.seq_go, hTc4, LR.seq_go, if_f c52])⟩, by show ml1 < ml1 + 1; omega, rfl, rfl, rfl, rfl, trivial⟩
              · refine R.ld Try.isAgg26 rfl rfl (by rw [← f71]; exact .hd) (k71 0 _ rfl) ?_
                refine TL.nil (Plan.e1 (HLe.refl _) ?_)
                refine Plan.s1 13 [20, 21, 22, 23] (by kernel_rfl) (by kernel_rfl) rfl ?_
                refine R.ld Try.isAgg26 rfl rfl (by rw [← f65]; exact .hd) (k65 0 _ rfl) ?_
                refine TL.nil (Plan.e1 (HLe.refl _) ?_)
                have hl73 : ((a3 + n8l1)).toNat < a0.length := by first | omega | (simp; done) | (simp; omega) | (simp at *; omega)
                obtain ⟨y73, e73, h73⟩ : ∃ y, y = (xPa0l1.getD (((a3 + n8l1)).toNat) (0 : Int)) ∧ xPa0l1[((a3 + n8l1)).toNat]? = some y := ⟨_, rfl, getD_get (by first | exact hl73 | simpa using hl73 | (simp only [List.length_set]; omega) | omega | (rw [(sortI_perm _).length_eq]; exact hl73))⟩
                obtain ⟨b73, u73, cs73, l73, f73, j73, i73, g73, k73⟩ := OwnS.elem (OwnS.mono wPa0l1 (s_c2.trans (s_c3.trans s_c4))) h73
                obtain rfl : l73 = [.int .u64 y73] := g73
                refine Plan.v 20 [21, 22, 23] (by kernel_rfl) (by kernel_rfl) (by kernel_rfl) (by kernel_rfl) rfl (fun _ _ h_ => R.ixp (sz := ((intE .u64)).size) Try.underlying22 Try.sizeOf26 rfl rfl rfl (by first | omega | (simp; done) | (simp; omega) | (simp at *; omega)) i73 (TL.nil h_)) ?_
                refine Plan.s1 21 [22, 23] (by kernel_rfl) (by kernel_rfl) rfl ?_
                refine R.stEF (E := (intE .u64)) (e := 26) (v := (.slice Aa0 a0.length pa0)) (m := [.int .u64 y65]) (o := 0) (y := y73) (y' := y65) (j := ((a3 + n8l1)).toNat) Try.sizeOf26 rfl (OwnS.mono wPa0l1 (s_c2.trans (s_c3.trans s_c4))) .hd i73 rfl rfl (cells1 rfl) (all_one rfl) h73 (by show 0 + 1 ≤ 1; decide) (fun l hl => by have e0 : l = [.int .u64 y73] := hl; subst e0; exact rfl) ?_
                intro cst13 wst13
                refine TL.nil (Plan.e0 (HLe.refl _) ?_)
                have hl74 : ((a3 + n9c3)).toNat < a0.length := by first | omega | (simp; done) | (simp; omega) | (simp at *; omega)
                obtain ⟨y74, e74, h74⟩ : ∃ y, y = (((xPa0l1.set (((a3 + n8l1)).toNat) y65)).getD (((a3 + n9c3)).toNat) (0 : Int)) ∧ ((xPa0l1.set (((a3 + n8l1)).toNat) y65))[((a3 + n9c3)).toNat]? = some y := ⟨_, rfl, getD_get (by first | exact hl74 | simpa using hl74 | (simp only [List.length_set]; omega) | omega | (rw [(sortI_perm _).length_eq]; exact hl74))⟩
                obtain ⟨b74, u74, cs74, l74, f74, j74, i74, g74, k74⟩ := OwnS.elem wst13 h74
                obtain rfl : l74 = [.int .u64 y74] := g74
                refine Plan.v 22 [23] (by kernel_rfl) (by kernel_rfl) (by kernel_rfl) (by kernel_rfl) rfl (fun _ _ h_ => R.ixp (sz := ((intE .u64)).size) Try.underlying22 Try.sizeOf26 rfl rfl rfl (by first | omega | (simp; done) | (simp; omega) | (simp at *; omega)) i74 (TL.nil h_)) ?_
                refine Plan.s1 23 [] (by kernel_rfl) (by kernel_rfl) rfl ?_
                refine R.stEF (E := (intE .u64)) (e := 26) (v := (.slice Aa0 a0.length pa0)) (m := [.int .u64 y71]) (o := 0) (y := y74) (y' := y71) (j := ((a3 + n9c3)).toNat) Try.sizeOf26 rfl wst13 .hd i74 rfl rfl (cells1 rfl) (all_one rfl) h74 (by show 0 + 1 ≤ 1; decide) (fun l hl => by have e0 : l = [.int .u64 y74] := hl; subst e0; exact rfl) ?_
                intro cst14 wst14
                refine TL.nil (Plan.e0 (HLe.refl _) ?_)
                refine Plan.done (Post.thnN ?_)
                refine T.region ?_
                refine R.mvE rfl (by conv => lhs; whnf) ?_
                refine R.asE rfl (by conv => lhs; whnf) ?_
                refine TL.nil (Post.blkN ?_)
                refine id (Post.thnN ?_)
                exact ⟨(ml1, n9c3, (((xPa0l1.set (((a3 + n8l1)).toNat) y65)).set (((a3 + n9c3)).toNat) y71), cst14), (s_l1.trans (s_c2.trans (s_c3.trans s_c4))), ⟨(by first | omega | (simp; omega) | (simp at *; omega)), (Has.cons .hd Has.nil), wst14, (by first | omega | (simp; done) | (simp; omega) | (simp at *; omega)), (by first | omega | (simp; done) | (simp; omega) | (simp at *; omega)), (by subst e74; subst e73; subst e71; subst e65; rw [← hQl1, slices_siftDownOrdered_Id_l1]; rw [if_neg c16, hTc2, LR.seq_go, hTc3, LR.seq_go, hTc4, LR.seq_go, if_f c52])⟩, by show ml1 < ml1 + 1; omega, rfl, rfl, rfl, rfl, trivial⟩

def slices_heapSortOrdered_Id_l2 (a1 : Int) : Nat → (Int × (List Int)) → Int × (List Int)
  | 0, _ => default
  | ml2 + 1, sl2 => if (0 : Int) ≤ sl2.1 then (LR.seq ((((sl2.2.set a1.toNat (sl2.2.getD (((a1 + sl2.1)).toNat) (0 : Int)))).set (((a1 + sl2.1)).toNat) (sl2.2.getD a1.toNat (0 : Int))) : (List Int)) (fun sc3 => LR.seq (slices_siftDownOrdered_Id_m sc3 0 sl2.1 a1) (fun r55 => slices_heapSortOrdered_Id_l2 a1 ml2 (((sl2.1 - 1), r55))))) else ((sl2.1, sl2.2))
def slices_heapSortOrdered_Id_l1 (a1 : Int) (a2 : Int) : Nat → (Int × (List Int)) → Int × (List Int)
  | 0, _ => default
  | ml1 + 1, sl1 => if (0 : Int) ≤ sl1.1 then (LR.seq (slices_siftDownOrdered_Id_m sl1.2 sl1.1 ((a2 - a1)) a1) (fun r26 => slices_heapSortOrdered_Id_l1 a1 a2 ml1 (((sl1.1 - 1), r26)))) else ((sl1.1, sl1.2))
def slices_heapSortOrdered_Id_m (a0 : List Int) (a1 : Int) (a2 : Int) : (List Int) :=
  LR.seq (slices_heapSortOrdered_Id_l1 a1 a2 ((((((a2 - a1) - 1) / 2)) + 1).toNat + 1) (((((a2 - a1) - 1) / 2), a0))) (fun ol1 => LR.seq (slices_heapSortOrdered_Id_l2 a1 (((((a2 - a1) - 1)) + 1).toNat + 1) ((((a2 - a1) - 1), ol1.2))) (fun ol2 => ol2.2))
set_option maxHeartbeats 3200000 in
theorem slices_heapSortOrdered_Id_c (H : Heap) (va0 : Value) (a0 : List Int) (Ca0 : Chunk) (ha0 : OwnS (intE .u64) 26 H va0 a0 Ca0) (a1 : Int) (a2 : Int) (h1 : 0 ≤ a1) (h2 : a1 < a2) (h3 : a2 ≤ (a0.length : Int)) (hl : a0.length ≤ 4000000) : Fc Try.prog (fnv 111) [va0, .int .i64 a1, .int .i64 a2] H [Ca0] (fun v' H' L' => ∃ Da0, v' = .tuple #[] ∧ L' = [Da0] ∧ OwnS (intE .u64) 26 H' va0 (slices_heapSortOrdered_Id_m a0 a1 a2) Da0) := by
  refine Fc.of_body (N := 56) Try.func111 rfl (by kernel_rfl) rfl rfl ?_
  intro w0
  obtain ⟨Aa0, pa0, rfl, ma0, na0⟩ := OwnS.shape ha0
  refine T.seq ?_
  refine T.region ?_
  refine R.mvE rfl (by conv => lhs; whnf) ?_
  refine R.asE rfl (by conv => lhs; whnf) ?_
  refine TL.nil (Post.thnN ?_)
  refine T.seq ?_
  refine T.region ?_
  refine R.asE rfl (by conv => lhs; whnf) ?_
  refine TL.nil (Post.thnN ?_)
  refine T.seq ?_
  refine T.region ?_
  refine R.mvE rfl (by conv => lhs; whnf) ?_
  refine R.mvE rfl (by conv => lhs; whnf) ?_
  refine R.subI rfl rfl rfl (by omega) ?_
  refine R.asE rfl (by conv => lhs; whnf) ?_
  refine TL.nil (Post.thnN ?_)
  refine T.seq ?_
  refine T.seq ?_
  refine T.region ?_
  refine R.mvE rfl (by conv => lhs; whnf) ?_
  refine R.subI rfl rfl rfl (by omega) ?_
  refine R.quoI rfl rfl rfl (by omega) ?_
  refine R.asE rfl (by conv => lhs; whnf) ?_
  refine TL.nil (Post.thnN ?_)
  refine T.block ?_
  refine T.loop (ι := Nat × Int × (List Int) × Chunk) (fun ⟨kl1, n9l1, xPa0l1, cPa0l1⟩ H' L' ds' => (n9l1 + 1).toNat < kl1 ∧ Has L' [cPa0l1] ∧ OwnS (intE .u64) 26 H' (.slice Aa0 a0.length pa0) xPa0l1 cPa0l1 ∧ -1 ≤ n9l1 ∧ n9l1 < a2 - a1 ∧ slices_heapSortOrdered_Id_l1 a1 a2 kl1 ((n9l1, xPa0l1)) = slices_heapSortOrdered_Id_l1 a1 a2 ((((((a2 - a1) - 1) / 2)) + 1).toNat + 1) (((((a2 - a1) - 1) / 2), a0))) (fun ⟨kl1, n9l1, xPa0l1, cPa0l1⟩ => [(0, .slice Aa0 a0.length pa0), (6, .int .i64 a1), (7, .int .i64 0), (8, .int .i64 (a2 - a1)), (9, .int .i64 n9l1)]) (fun ⟨kl1, n9l1, xPa0l1, cPa0l1⟩ => kl1) (((((((a2 - a1) - 1) / 2)) + 1).toNat + 1), (((a2 - a1) - 1) / 2), a0, Ca0) ?_ ?_ ?_
  · exact ⟨(by omega), (Has.cons .hd Has.nil), ha0, (by first | omega | (simp; done) | (simp; omega) | (simp at *; omega)), (by first | omega | (simp; done) | (simp; omega) | (simp at *; omega)), (by rfl)⟩
  · exact ⟨rfl, rfl, rfl, rfl, rfl, trivial⟩
  · intro ⟨kl1, n9l1, xPa0l1, cPa0l1⟩ σ_l1 H_l1 L_l1 ds_l1 s_l1 hI_l1
    obtain ⟨hkl1, hI_l1⟩ := hI_l1
    obtain ⟨ml1, rfl⟩ : ∃ m, kl1 = m + 1 := ⟨kl1 - 1, by omega⟩
    obtain ⟨hLl1, wPa0l1, hBl1_0, hBl1_1, hQl1⟩ := hI_l1
    have nPa0l1_ := OwnS.len wPa0l1
    refine T.has hLl1 ?_
    refine T.seq ?_
    refine T.seq ?_
    refine T.region ?_
    refine R.mvE rfl (by conv => lhs; whnf) ?_
    refine R.geq rfl rfl rfl ?_
    refine TL.nil (Post.thnN ?_)
    refine T.condD rfl (fun c19 => ?_) (fun c19 => ?_)
    · refine T.set 19 (.bool true) (congrArg Value.bool (decide_eq_true c19)) ?_
      refine T.skip (Post.thnN ?_)
      refine T.seq ?_
      refine T.block ?_
      refine T.region ?_
      refine R.mvE rfl (by conv => lhs; whnf) ?_
      refine R.mvE rfl (by conv => lhs; whnf) ?_
      refine R.mvE rfl (by conv => lhs; whnf) ?_
      refine R.mvE rfl (by conv => lhs; whnf) ?_
      obtain ⟨r26, er26⟩ : ∃ r, r = (slices_siftDownOrdered_Id_m xPa0l1 n9l1 ((a2 - a1)) a1) := ⟨_, rfl⟩
      refine TL.call [true] rfl rfl rfl (slices_siftDownOrdered_Id_c _ _ xPa0l1 _ wPa0l1 (n9l1) ((a2 - a1)) (a1) (by first | omega | (simp; done) | (simp; omega) | (simp at *; omega)) (by first | omega | (simp; done) | (simp; omega) | (simp at *; omega)) (by first | omega | (simp; done) | (simp; omega) | (simp at *; omega)) (by first | omega | (simp; done) | (simp; omega) | (simp at *; omega)) (by first | omega | (simp; done) | (simp; omega) | (simp at *; omega))) ?_
      intro v26 H26 L26 s26 q26
      rw [← er26] at q26
      obtain ⟨D26_a0, rfl, rfl, w26_a0⟩ := q26
      have n26_a0_ := OwnS.len w26_a0
      refine TL.nil (Post.blkN ?_)
      refine id (Post.thnN ?_)
      refine T.region ?_
      refine R.mvE rfl (by conv => lhs; whnf) ?_
      refine R.subI rfl rfl rfl (by omega) ?_
      refine R.asE rfl (by conv => lhs; whnf) ?_
      refine TL.nil (Post.thnN ?_)
      exact ⟨(ml1, (n9l1 - 1), r26, D26_a0), (s_l1.trans s26), ⟨(by first | omega | (simp; omega) | (simp at *; omega)), (Has.cons .hd Has.nil), w26_a0, (by first | omega | (simp; done) | (simp; omega) | (simp at *; omega)), (by first | omega | (simp; done) | (simp; omega) | (simp at *; omega)), (by subst er26; rw [← hQl1, slices_heapSortOrdered_Id_l1]; rw [if_pos c19, LR.seq_go])⟩, by show ml1 < ml1 + 1; omega, rfl, rfl, rfl, rfl, rfl, trivial⟩
    · refine T.set 19 (.bool false) (congrArg Value.bool (decide_eq_false c19)) ?_
      refine T.exit (Post.thnE (Post.thnE (Post.blkX ?_)))
      have hEl1 : slices_heapSortOrdered_Id_l1 a1 a2 ((((((a2 - a1) - 1) / 2)) + 1).toNat + 1) (((((a2 - a1) - 1) / 2), a0)) = (n9l1, xPa0l1) := (by rw [← hQl1, slices_heapSortOrdered_Id_l1]; rw [if_neg c19])
      refine id (Post.thnN ?_)
      refine T.seq ?_
      refine T.region ?_
      refine R.mvE rfl (by conv => lhs; whnf) ?_
      refine R.subI rfl rfl rfl (by omega) ?_
      refine R.asE rfl (by conv => lhs; whnf) ?_
      refine TL.nil (Post.thnN ?_)
      refine T.block ?_
      refine T.loop (ι := Nat × Int × (List Int) × Chunk) (fun ⟨kl2, n10l2, xPa0l2, cPa0l2⟩ H' L' ds' => (n10l2 + 1).toNat < kl2 ∧ Has L' [cPa0l2] ∧ OwnS (intE .u64) 26 H' (.slice Aa0 a0.length pa0) xPa0l2 cPa0l2 ∧ -1 ≤ n10l2 ∧ n10l2 < a2 - a1 ∧ slices_heapSortOrdered_Id_l2 a1 kl2 ((n10l2, xPa0l2)) = slices_heapSortOrdered_Id_l2 a1 (((((a2 - a1) - 1)) + 1).toNat + 1) ((((a2 - a1) - 1), xPa0l1))) (fun ⟨kl2, n10l2, xPa0l2, cPa0l2⟩ => [(0, .slice Aa0 a0.length pa0), (6, .int .i64 a1), (7, .int .i64 0), (10, .int .i64 n10l2)]) (fun ⟨kl2, n10l2, xPa0l2, cPa0l2⟩ => kl2) ((((((a2 - a1) - 1)) + 1).toNat + 1), ((a2 - a1) - 1), xPa0l1, cPa0l1) ?_ ?_ ?_
      · exact ⟨(by omega), (Has.cons .hd Has.nil), wPa0l1, (by first | omega | (simp; done) | (simp; omega) | (simp at *; omega)), (by first | omega | (simp; done) | (simp; omega) | (simp at *; omega)), (by rfl)⟩
      · exact ⟨rfl, rfl, rfl, rfl, trivial⟩
      · intro ⟨kl2, n10l2, xPa0l2, cPa0l2⟩ σ_l2 H_l2 L_l2 ds_l2 s_l2 hI_l2
        obtain ⟨hkl2, hI_l2⟩ := hI_l2
        obtain ⟨ml2, rfl⟩ : ∃ m, kl2 = m + 1 := ⟨kl2 - 1, by omega⟩
        obtain ⟨hLl2, wPa0l2, hBl2_0, hBl2_1, hQl2⟩ := hI_l2
        have nPa0l2_ := OwnS.len wPa0l2
        refine T.has hLl2 ?_
        refine T.seq ?_
        refine T.seq ?_
        refine T.region ?_
        refine R.mvE rfl (by conv => lhs; whnf) ?_
        refine R.geq rfl rfl rfl ?_
        refine TL.nil (Post.thnN ?_)
        refine T.condD rfl (fun c30 => ?_) (fun c30 => ?_)
        · refine T.set 30 (.bool true) (congrArg Value.bool (decide_eq_true c30)) ?_
          refine T.skip (Post.thnN ?_)
          refine T.seq ?_
          refine T.block ?_
          refine T.seq ?_
          refine T.cutK (ι := (List Int) × Chunk) (fun ⟨xPa0c3, cPa0c3⟩ H' L' ds' => Has L' [cPa0c3] ∧ OwnS (intE .u64) 26 H' (.slice Aa0 a0.length pa0) xPa0c3 cPa0c3 ∧ ((((xPa0l2.set a1.toNat (xPa0l2.getD (((a1 + n10l2)).toNat) (0 : Int)))).set (((a1 + n10l2)).toNat) (xPa0l2.getD a1.toNat (0 : Int))) : (List Int)) = xPa0c3) (fun ⟨xPa0c3, cPa0c3⟩ => [(0, .slice Aa0 a0.length pa0), (6, .int .i64 a1), (7, .int .i64 0), (10, .int .i64 n10l2)]) ?_ ?_
          · refine T.draw Try_mixed (by kernel_rfl) ?_
            refine Plan.v 0 [1, 2, 3, 4, 5, 6, 7, 8, 9, 10, 11, 12, 13, 14, 15, 16, 17, 18, 19] (by kernel_rfl) (by kernel_rfl) (by kernel_rfl) (by kernel_rfl) rfl (fun _ _ h_ => R.mvE rfl (by conv => lhs; whnf) (TL.nil h_)) ?_
            refine Plan.v 1 [2, 3, 4, 5, 6, 7, 8, 9, 10, 11, 12, 13, 14, 15, 16, 17, 18, 19] (by kernel_rfl) (by kernel_rfl) (by kernel_rfl) (by kernel_rfl) rfl (fun _ _ h_ => R.mvE rfl (by conv => lhs; whnf) (TL.nil h_)) ?_
            refine Plan.v 2 [3, 4, 5, 6, 7, 8, 9, 10, 11, 12, 13, 14, 15, 16, 17, 18, 19] (by kernel_rfl) (by kernel_rfl) (by kernel_rfl) (by kernel_rfl) rfl (fun _ _ h_ => R.mvE rfl (by conv => lhs; whnf) (TL.nil h_)) ?_
            refine Plan.v 3 [4, 5, 6, 7, 8, 9, 10, 11, 12, 13, 14, 15, 16, 17, 18, 19] (by kernel_rfl) (by kernel_rfl) (by kernel_rfl) (by kernel_rfl) rfl (fun _ _ h_ => R.mvE rfl (by conv => lhs; whnf) (TL.nil h_)) ?_
            refine Plan.v 4 [5, 6, 7, 8, 9, 10, 11, 12, 13, 14, 15, 16, 17, 18, 19] (by kernel_rfl) (by kernel_rfl) (by kernel_rfl) (by kernel_rfl) rfl (fun _ _ h_ => R.mvE rfl (by conv => lhs; whnf) (TL.nil h_)) ?_
            refine Plan.v 5 [6, 7, 8, 9, 10, 11, 12, 13, 14, 15, 16, 17, 18, 19] (by kernel_rfl) (by kernel_rfl) (by kernel_rfl) (by kernel_rfl) rfl (fun _ _ h_ => R.addI rfl rfl rfl (by omega) (TL.nil h_)) ?_
            refine Plan.v 6 [7, 8, 9, 10, 11, 12, 13, 14, 15, 16, 17, 18, 19] (by kernel_rfl) (by kernel_rfl) (by kernel_rfl) (by kernel_rfl) rfl (fun _ _ h_ => R.mvE rfl (by conv => lhs; whnf) (TL.nil h_)) ?_
            refine Plan.v 7 [8, 9, 10, 11, 12, 13, 14, 15, 16, 17, 18, 19] (by kernel_rfl) (by kernel_rfl) (by kernel_rfl) (by kernel_rfl) rfl (fun _ _ h_ => R.mvE rfl (by conv => lhs; whnf) (TL.nil h_)) ?_
            refine Plan.v 8 [9, 10, 11, 12, 13, 14, 15, 16, 17, 18, 19] (by kernel_rfl) (by kernel_rfl) (by kernel_rfl) (by kernel_rfl) rfl (fun _ _ h_ => R.mvE rfl (by conv => lhs; whnf) (TL.nil h_)) ?_
            refine Plan.v 9 [10, 11, 12, 13, 14, 15, 16, 17, 18, 19] (by kernel_rfl) (by kernel_rfl) (by kernel_rfl) (by kernel_rfl) rfl (fun _ _ h_ => R.addI rfl rfl rfl (by omega) (TL.nil h_)) ?_
            have hl43 : ((a1 + n10l2)).toNat < a0.length := by first | omega | (simp; done) | (simp; omega) | (simp at *; omega)
            obtain ⟨y43, e43, h43⟩ : ∃ y, y = (xPa0l2.getD (((a1 + n10l2)).toNat) (0 : Int)) ∧ xPa0l2[((a1 + n10l2)).toNat]? = some y := ⟨_, rfl, getD_get (by first | exact hl43 | simpa using hl43 | (simp only [List.length_set]; omega) | omega | (rw [(sortI_perm _).length_eq]; exact hl43))⟩
            obtain ⟨b43, u43, cs43, l43, f43, j43, i43, g43, k43⟩ := OwnS.elem wPa0l2 h43
            obtain rfl : l43 = [.int .u64 y43] := g43
            refine Plan.v 10 [11, 12, 13, 14, 15, 16, 17, 18, 19] (by kernel_rfl) (by kernel_rfl) (by kernel_rfl) (by kernel_rfl) rfl (fun _ _ h_ => R.ixp (sz := ((intE .u64)).size) Try.underlying22 Try.sizeOf26 rfl rfl rfl (by first | omega | (simp; done) | (simp; omega) | (simp at *; omega)) i43 (TL.nil h_)) ?_
            refine Plan.v 12 [11, 13, 14, 15, 16, 17, 18, 19] (by kernel_rfl) (by kernel_rfl) (by kernel_rfl) (by kernel_rfl) rfl (fun _ _ h_ => R.mvE rfl (by conv => lhs; whnf) (TL.nil h_)) ?_
            refine Plan.v 13 [11, 14, 15, 16, 17, 18, 19] (by kernel_rfl) (by kernel_rfl) (by kernel_rfl) (by kernel_rfl) rfl (fun _ _ h_ => R.mvE rfl (by conv => lhs; whnf) (TL.nil h_)) ?_
            have hl47 : a1.toNat < a0.length := by first | omega | (simp; done) | (simp; omega) | (simp at *; omega)
            obtain ⟨y47, e47, h47⟩ : ∃ y, y = (xPa0l2.getD a1.toNat (0 : Int)) ∧ xPa0l2[a1.toNat]? = some y := ⟨_, rfl, getD_get (by first | exact hl47 | simpa using hl47 | (simp only [List.length_set]; omega) | omega | (rw [(sortI_perm _).length_eq]; exact hl47))⟩
            obtain ⟨b47, u47, cs47, l47, f47, j47, i47, g47, k47⟩ := OwnS.elem wPa0l2 h47
            obtain rfl : l47 = [.int .u64 y47] := g47
            refine Plan.v 14 [11, 15, 16, 17, 18, 19] (by kernel_rfl) (by kernel_rfl) (by kernel_rfl) (by kernel_rfl) rfl (fun _ _ h_ => R.ixp (sz := ((intE .u64)).size) Try.underlying22 Try.sizeOf26 rfl rfl rfl (by first | omega | (simp; done) | (simp; omega) | (simp at *; omega)) i47 (TL.nil h_)) ?_
            refine Plan.s2 11 15 [15, 16, 17, 18, 19] [11, 16, 17, 18, 19] (by kernel_rfl) (by kernel_rfl) (by kernel_rfl) rfl rfl ?_ ?_
            · refine R.ld Try.isAgg26 rfl rfl (by rw [← f43]; exact .hd) (k43 0 _ rfl) ?_
              refine TL.nil (Plan.e1 (HLe.refl _) ?_)
              refine Plan.s1 15 [16, 17, 18, 19] (by kernel_rfl) (by kernel_rfl) rfl ?_
              refine R.ld Try.isAgg26 rfl rfl (by rw [← f47]; exact .hd) (k47 0 _ rfl) ?_
              refine TL.nil (Plan.e1 (HLe.refl _) ?_)
              have hl49 : a1.toNat < a0.length := by first | omega | (simp; done) | (simp; omega) | (simp at *; omega)
              obtain ⟨y49, e49, h49⟩ : ∃ y, y = (xPa0l2.getD a1.toNat (0 : Int)) ∧ xPa0l2[a1.toNat]? = some y := ⟨_, rfl, getD_get (by first | exact hl49 | simpa using hl49 | (simp only [List.length_set]; omega) | omega | (rw [(sortI_perm _).length_eq]; exact hl49))⟩
              obtain ⟨b49, u49, cs49, l49, f49, j49, i49, g49, k49⟩ := OwnS.elem wPa0l2 h49
              obtain rfl : l49 = [.int .u64 y49] := g49
              refine Plan.v 16 [17, 18, 19] (by kernel_rfl) (by kernel_rfl) (by kernel_rfl) (by kernel_rfl) rfl (fun _ _ h_ => R.ixp (sz := ((intE .u64)).size) Try.underlying22 Try.sizeOf26 rfl rfl rfl (by first | omega | (simp; done) | (simp; omega) | (simp at *; omega)) i49 (TL.nil h_)) ?_
              refine Plan.s1 17 [18, 19] (by kernel_rfl) (by kernel_rfl) rfl ?_
              refine R.stEF (E := (intE .u64)) (e := 26) (v := (.slice Aa0 a0.length pa0)) (m := [.int .u64 y43]) (o := 0) (y := y49) (y' := y43) (j := a1.toNat) Try.sizeOf26 rfl wPa0l2 .hd i49 rfl rfl (cells1 rfl) (all_one rfl) h49 (by show 0 + 1 ≤ 1; decide) (fun l hl => by have e0 : l = [.int .u64 y49] := hl; subst e0; exact rfl) ?_
              intro cst27 wst27
              refine TL.nil (Plan.e0 (HLe.refl _) ?_)
              have hl50 : ((a1 + n10l2)).toNat < a0.length := by first | omega | (simp; done) | (simp; omega) | (simp at *; omega)
              obtain ⟨y50, e50, h50⟩ : ∃ y, y = (((xPa0l2.set a1.toNat y43)).getD (((a1 + n10l2)).toNat) (0 : Int)) ∧ ((xPa0l2.set a1.toNat y43))[((a1 + n10l2)).toNat]? = some y := ⟨_, rfl, getD_get (by first | exact hl50 | simpa using hl50 | (simp only [List.length_set]; omega) | omega | (rw [(sortI_perm _).length_eq]; exact hl50))⟩
              obtain ⟨b50, u50, cs50, l50, f50, j50, i50, g50, k50⟩ := OwnS.elem wst27 h50
              obtain rfl : l50 = [.int .u64 y50] := g50
              refine Plan.v 18 [19] (by kernel_rfl) (by kernel_rfl) (by kernel_rfl) (by kernel_rfl) rfl (fun _ _ h_ => R.ixp (sz := ((intE .u64)).size) Try.underlying22 Try.sizeOf26 rfl rfl rfl (by first | omega | (simp; done) | (simp; omega) | (simp at *; omega)) i50 (TL.nil h_)) ?_
              refine Plan.s1 19 [] (by kernel_rfl) (by kernel_rfl) rfl ?_
              refine R.stEF (E := (intE .u64)) (e := 26) (v := (.slice Aa0 a0.length pa0)) (m := [.int .u64 y47]) (o := 0) (y := y50) (y' := y47) (j := ((a1 + n10l2)).toNat) Try.sizeOf26 rfl wst27 .hd i50 rfl rfl (cells1 rfl) (all_one rfl) h50 (by show 0 + 1 ≤ 1; decide) (fun l hl => by have e0 : l = [.int .u64 y50] := hl; subst e0; exact rfl) ?_
              intro cst28 wst28
              refine TL.nil (Plan.e0 (HLe.refl _) ?_)
              refine Plan.done (Post.thnN ?_)
              exact ⟨((((xPa0l2.set a1.toNat y43)).set (((a1 + n10l2)).toNat) y47), cst28), HLe.refl _, ⟨(Has.cons .hd Has.nil), wst28, (by subst e50; subst e49; subst e47; subst e43; rfl)⟩, rfl, rfl, rfl, rfl, trivial⟩
            · refine R.ld Try.isAgg26 rfl rfl (by rw [← f47]; exact .hd) (k47 0 _ rfl) ?_
              refine TL.nil (Plan.e1 (HLe.refl _) ?_)
              refine Plan.s1 11 [16, 17, 18, 19] (by kernel_rfl) (by kernel_rfl) rfl ?_
              refine R.ld Try.isAgg26 rfl rfl (by rw [← f43]; exact .hd) (k43 0 _ rfl) ?_
              refine TL.nil (Plan.e1 (HLe.refl _) ?_)
              have hl49 : a1.toNat < a0.length := by first | omega | (simp; done) | (simp; omega) | (simp at *; omega)
              obtain ⟨y49, e49, h49⟩ : ∃ y, y = (xPa0l2.getD a1.toNat (0 : Int)) ∧ xPa0l2[a1.toNat]? = some y := ⟨_, rfl, getD_get (by first | exact hl49 | simpa using hl49 | (simp only [List.length_set]; omega) | omega | (rw [(sortI_perm _).length_eq]; exact hl49))⟩
              obtain ⟨b49, u49, cs49, l49, f49, j49, i49, g49, k49⟩ := OwnS.elem wPa0l2 h49
              obtain rfl : l49 = [.int .u64 y49] := g49
              refine Plan.v 16 [17, 18, 19] (by kernel_rfl) (by kernel_rfl) (by kernel_rfl) (by kernel_rfl) rfl (fun _ _ h_ => R.ixp (sz := ((intE .u64)).size) Try.underlying22 Try.sizeOf26 rfl rfl rfl (by first | omega | (simp; done) | (simp; omega) | (simp at *; omega)) i49 (TL.nil h_)) ?_
              refine Plan.s1 17 [18, 19] (by kernel_rfl) (by kernel_rfl) rfl ?_
              refine R.stEF (E := (intE .u64)) (e := 26) (v := (.slice Aa0 a0.length pa0)) (m := [.int .u64 y43]) (o := 0) (y := y49) (y' := y43) (j := a1.toNat) Try.sizeOf26 rfl wPa0l2 .hd i49 rfl rfl (cells1 rfl) (all_one rfl) h49 (by show 0 + 1 ≤ 1; decide) (fun l hl => by have e0 : l = [.int .u64 y49] := hl; subst e0; exact rfl) ?_
              intro cst29 wst29
              refine TL.nil (Plan.e0 (HLe.refl _) ?_)
              have hl50 : ((a1 + n10l2)).toNat < a0.length := by first | omega | (simp; done) | (simp; omega) | (simp at *; omega)
              obtain ⟨y50, e50, h50⟩ : ∃ y, y = (((xPa0l2.set a1.toNat y43)).getD (((a1 + n10l2)).toNat) (0 : Int)) ∧ ((xPa0l2.set a1.toNat y43))[((a1 + n10l2)).toNat]? = some y := ⟨_, rfl, getD_get (by first | exact hl50 | simpa using hl50 | (simp only [List.length_set]; omega) | omega | (rw [(sortI_perm _).length_eq]; exact hl50))⟩
              obtain ⟨b50, u50, cs50, l50, f50, j50, i50, g50, k50⟩ := OwnS.elem wst29 h50
              obtain rfl : l50 = [.int .u64 y50] := g50
              refine Plan.v 18 [19] (by kernel_rfl) (by kernel_rfl) (by kernel_rfl) (by kernel_rfl) rfl (fun _ _ h_ => R.ixp (sz := ((intE .u64)).size) Try.underlying22 Try.sizeOf26 rfl rfl rfl (by first | omega | (simp; done) | (simp; omega) | (simp at *; omega)) i50 (TL.nil h_)) ?_
              refine Plan.s1 19 [] (by kernel_rfl) (by kernel_rfl) rfl ?_
              refine R.stEF (E := (intE .u64)) (e := 26) (v := (.slice Aa0 a0.length pa0)) (m := [.int .u64 y47]) (o := 0) (y := y50) (y' := y47) (j := ((a1 + n10l2)).toNat) Try.sizeOf26 rfl wst29 .hd i50 rfl rfl (cells1 rfl) (all_one rfl) h50 (by show 0 + 1 ≤ 1; decide) (fun l hl => by have e0 : l = [.int .u64 y50] := hl; subst e0; exact rfl) ?_
              intro cst30 wst30
              refine TL.nil (Plan.e0 (HLe.refl _) ?_)
              refine Plan.done (Post.thnN ?_)
              exact ⟨((((xPa0l2.set a1.toNat y43)).set (((a1 + n10l2)).toNat) y47), cst30), HLe.refl _, ⟨(Has.cons .hd Has.nil), wst30, (by subst e50; subst e49; subst e47; subst e43; rfl)⟩, rfl, rfl, rfl, rfl, trivial⟩
          · intro ⟨xPa0c3, cPa0c3⟩ σ_c3 H_c3 L_c3 ds_c3 s_c3 hI_c3
            obtain ⟨hLc3, wPa0c3, hTc3⟩ := hI_c3
            have nPa0c3_ := OwnS.len wPa0c3
            refine T.has hLc3 ?_
            refine T.region ?_
            refine R.mvE rfl (by conv => lhs; whnf) ?_
            refine R.mvE rfl (by conv => lhs; whnf) ?_
            refine R.mvE rfl (by conv => lhs; whnf) ?_
            refine R.mvE rfl (by conv => lhs; whnf) ?_
            obtain ⟨r55, er55⟩ : ∃ r, r = (slices_siftDownOrdered_Id_m xPa0c3 0 n10l2 a1) := ⟨_, rfl⟩
            refine TL.call [true] rfl rfl rfl (slices_siftDownOrdered_Id_c _ _ xPa0c3 _ wPa0c3 (0) (n10l2) (a1) (by first | omega | (simp; done) | (simp; omega) | (simp at *; omega)) (by first | omega | (simp; done) | (simp; omega) | (simp at *; omega)) (by first | omega | (simp; done) | (simp; omega) | (simp at *; omega)) (by first | omega | (simp; done) | (simp; omega) | (simp at *; omega)) (by first | omega | (simp; done) | (simp; omega) | (simp at *; omega))) ?_
            intro v55 H55 L55 s55 q55
            rw [← er55] at q55
            obtain ⟨D55_a0, rfl, rfl, w55_a0⟩ := q55
            have n55_a0_ := OwnS.len w55_a0
            refine TL.nil (Post.blkN ?_)
            refine id (Post.thnN ?_)
            refine T.region ?_
            refine R.mvE rfl (by conv => lhs; whnf) ?_
            refine R.subI rfl rfl rfl (by omega) ?_
            refine R.asE rfl (by conv => lhs; whnf) ?_
            refine TL.nil (Post.thnN ?_)
            exact ⟨(ml2, (n10l2 - 1), r55, D55_a0), (s_l2.trans (s_c3.trans s55)), ⟨(by first | omega | (simp; omega) | (simp at *; omega)), (Has.cons .hd Has.nil), w55_a0, (by first | omega | (simp; done) | (simp; omega) | (simp at *; omega)), (by first | omega | (simp; done) | (simp; omega) | (simp at *; omega)), (by subst er55; rw [← hQl2, slices_heapSortOrdered_Id_l2]; rw [if_pos c30, hTc3, LR.seq_go, LR.seq_go])⟩, by show ml2 < ml2 + 1; omega, rfl, rfl, rfl, rfl, trivial⟩
        · refine T.set 30 (.bool false) (congrArg Value.bool (decide_eq_false c30)) ?_
          refine T.exit (Post.thnE (Post.thnE (Post.blkX ?_)))
          have hEl2 : slices_heapSortOrdered_Id_l2 a1 (((((a2 - a1) - 1)) + 1).toNat + 1) ((((a2 - a1) - 1), xPa0l1)) = (n10l2, xPa0l2) := (by rw [← hQl2, slices_heapSortOrdered_Id_l2]; rw [if_neg c30])
          refine id ?_
          have hM : slices_heapSortOrdered_Id_m a0 a1 a2 = xPa0l2 := by rw [slices_heapSortOrdered_Id_m, hEl1, LR.seq_go, hEl2, LR.seq_go]
          exact fin0N [cPa0l2] rfl (List.Sublist.cons_cons _ (List.nil_sublist _)) ⟨cPa0l2, by first | rw [hM] | rfl, by first | rw [hM] | rfl, by rw [hM]; exact wPa0l2⟩

end Go.SX

set_option linter.unusedVariables false
set_option linter.unusedSimpArgs false
namespace Go.SX
open Go Go.Proofs

def slices_reverseRangeOrdered_Id_l1  : Nat → (Int × Int × (List Int)) → Int × Int × (List Int)
  | 0, _ => default
  | ml1 + 1, sl1 => if sl1.1 < sl1.2.1 then (LR.seq ((((sl1.2.2.set sl1.1.toNat (sl1.2.2.getD sl1.2.1.toNat (0 : Int)))).set sl1.2.1.toNat (sl1.2.2.getD sl1.1.toNat (0 : Int))) : (List Int)) (fun sc2 => slices_reverseRangeOrdered_Id_l1 ml1 (((sl1.1 + 1), (sl1.2.1 - 1), sc2)))) else ((sl1.1, sl1.2.1, sl1.2.2))
def slices_reverseRangeOrdered_Id_m (a0 : List Int) (a1 : Int) (a2 : Int) : (List Int) :=
  LR.seq (slices_reverseRangeOrdered_Id_l1 ((((a2 - 1)) - a1).toNat + 1) ((a1, (a2 - 1), a0))) (fun ol1 => ol1.2.2)
set_option maxHeartbeats 3200000 in
theorem slices_reverseRangeOrdered_Id_c (H : Heap) (va0 : Value) (a0 : List Int) (Ca0 : Chunk) (ha0 : OwnS (intE .u64) 26 H va0 a0 Ca0) (a1 : Int) (a2 : Int) (h1 : 0 ≤ a1) (h2 : a1 < a2) (h3 : a2 ≤ (a0.length : Int)) (hl : a0.length ≤ 4000000) : Fc Try.prog (fnv 114) [va0, .int .i64 a1, .int .i64 a2] H [Ca0] (fun v' H' L' => ∃ Da0, v' = .tuple #[] ∧ L' = [Da0] ∧ OwnS (intE .u64) 26 H' va0 (slices_reverseRangeOrdered_Id_m a0 a1 a2) Da0) := by
  refine Fc.of_body (N := 32) Try.func114 rfl (by kernel_rfl) rfl rfl ?_
  intro w0
  obtain ⟨Aa0, pa0, rfl, ma0, na0⟩ := OwnS.shape ha0
  refine T.seq ?_
  refine T.region ?_
  refine R.mvE rfl (by conv => lhs; whnf) ?_
  refine R.asE rfl (by conv => lhs; whnf) ?_
  refine TL.nil (Post.thnN ?_)
  refine T.seq ?_
  refine T.region ?_
  refine R.mvE rfl (by conv => lhs; whnf) ?_
  refine R.subI rfl rfl rfl (by omega) ?_
  refine R.asE rfl (by conv => lhs; whnf) ?_
  refine TL.nil (Post.thnN ?_)
  refine T.block ?_
  refine T.loop (ι := Nat × Int × Int × (List Int) × Chunk) (fun ⟨kl1, n6l1, n7l1, xPa0l1, cPa0l1⟩ H' L' ds' => (n7l1 - n6l1).toNat < kl1 ∧ Has L' [cPa0l1] ∧ OwnS (intE .u64) 26 H' (.slice Aa0 a0.length pa0) xPa0l1 cPa0l1 ∧ a1 ≤ n6l1 ∧ n7l1 < a2 ∧ n6l1 ≤ a2 ∧ a1 - 1 ≤ n7l1 ∧ slices_reverseRangeOrdered_Id_l1 kl1 ((n6l1, n7l1, xPa0l1)) = slices_reverseRangeOrdered_Id_l1 ((((a2 - 1)) - a1).toNat + 1) ((a1, (a2 - 1), a0))) (fun ⟨kl1, n6l1, n7l1, xPa0l1, cPa0l1⟩ => [(0, .slice Aa0 a0.length pa0), (6, .int .i64 n6l1), (7, .int .i64 n7l1)]) (fun ⟨kl1, n6l1, n7l1, xPa0l1, cPa0l1⟩ => kl1) (((((a2 - 1)) - a1).toNat + 1), a1, (a2 - 1), a0, Ca0) ?_ ?_ ?_
  · exact ⟨(by omega), (Has.cons .hd Has.nil), ha0, (by first | omega | (simp; done) | (simp; omega) | (simp at *; omega)), (by first | omega | (simp; done) | (simp; omega) | (simp at *; omega)), (by first | omega | (simp; done) | (simp; omega) | (simp at *; omega)), (by first | omega | (simp; done) | (simp; omega) | (simp at *; omega)), (by rfl)⟩
  · exact ⟨rfl, rfl, rfl, trivial⟩
  · intro ⟨kl1, n6l1, n7l1, xPa0l1, cPa0l1⟩ σ_l1 H_l1 L_l1 ds_l1 s_l1 hI_l1
    obtain ⟨hkl1, hI_l1⟩ := hI_l1
    obtain ⟨ml1, rfl⟩ : ∃ m, kl1 = m + 1 := ⟨kl1 - 1, by omega⟩
    obtain ⟨hLl1, wPa0l1, hBl1_0, hBl1_1, hBl1_2, hBl1_3, hQl1⟩ := hI_l1
    have nPa0l1_ := OwnS.len wPa0l1
    refine T.has hLl1 ?_
    refine T.seq ?_
    refine T.seq ?_
    refine T.region ?_
    refine R.mvE rfl (by conv => lhs; whnf) ?_
    refine R.mvE rfl (by conv => lhs; whnf) ?_
    refine R.lss rfl rfl rfl ?_
    refine TL.nil (Post.thnN ?_)
    refine T.condD rfl (fun c13 => ?_) (fun c13 => ?_)
    · refine T.set 13 (.bool true) (congrArg Value.bool (decide_eq_true c13)) ?_
      refine T.skip (Post.thnN ?_)
      refine T.block ?_
      refine T.seq ?_
      refine T.cutK (ι := (List Int) × Chunk) (fun ⟨xPa0c2, cPa0c2⟩ H' L' ds' => Has L' [cPa0c2] ∧ OwnS (intE .u64) 26 H' (.slice Aa0 a0.length pa0) xPa0c2 cPa0c2 ∧ ((((xPa0l1.set n6l1.toNat (xPa0l1.getD n7l1.toNat (0 : Int)))).set n7l1.toNat (xPa0l1.getD n6l1.toNat (0 : Int))) : (List Int)) = xPa0c2) (fun ⟨xPa0c2, cPa0c2⟩ => [(0, .slice Aa0 a0.length pa0), (6, .int .i64 n6l1), (7, .int .i64 n7l1)]) ?_ ?_
      · refine T.draw Try_mixed (by kernel_rfl) ?_
        refine Plan.v 0 [1, 2, 3, 4, 5, 6, 7, 8, 9, 10, 11, 12, 13, 14, 15] (by kernel_rfl) (by kernel_rfl) (by kernel_rfl) (by kernel_rfl) rfl (fun _ _ h_ => R.mvE rfl (by conv => lhs; whnf) (TL.nil h_)) ?_
        refine Plan.v 1 [2, 3, 4, 5, 6, 7, 8, 9, 10, 11, 12, 13, 14, 15] (by kernel_rfl) (by kernel_rfl) (by kernel_rfl) (by kernel_rfl) rfl (fun _ _ h_ => R.mvE rfl (by conv => lhs; whnf) (TL.nil h_)) ?_
        refine Plan.v 2 [3, 4, 5, 6, 7, 8, 9, 10, 11, 12, 13, 14, 15] (by kernel_rfl) (by kernel_rfl) (by kernel_rfl) (by kernel_rfl) rfl (fun _ _ h_ => R.mvE rfl (by conv => lhs; whnf) (TL.nil h_)) ?_
        refine Plan.v 3 [4, 5, 6, 7, 8, 9, 10, 11, 12, 13, 14, 15] (by kernel_rfl) (by kernel_rfl) (by kernel_rfl) (by kernel_rfl) rfl (fun _ _ h_ => R.mvE rfl (by conv => lhs; whnf) (TL.nil h_)) ?_
        refine Plan.v 4 [5, 6, 7, 8, 9, 10, 11, 12, 13, 14, 15] (by kernel_rfl) (by kernel_rfl) (by kernel_rfl) (by kernel_rfl) rfl (fun _ _ h_ => R.mvE rfl (by conv => lhs; whnf) (TL.nil h_)) ?_
        refine Plan.v 5 [6, 7, 8, 9, 10, 11, 12, 13, 14, 15] (by kernel_rfl) (by kernel_rfl) (by kernel_rfl) (by kernel_rfl) rfl (fun _ _ h_ => R.mvE rfl (by conv => lhs; whnf) (TL.nil h_)) ?_
        have hl20 : n7l1.toNat < a0.length := by first | omega | (simp; done) | (simp; omega) | (simp at *; omega)
        obtain ⟨y20, e20, h20⟩ : ∃ y, y = (xPa0l1.getD n7l1.toNat (0 : Int)) ∧ xPa0l1[n7l1.toNat]? = some y := ⟨_, rfl, getD_get (by first | exact hl20 | simpa using hl20 | (simp only [List.length_set]; omega) | omega | (rw [(sortI_perm _).length_eq]; exact hl20))⟩
        obtain ⟨b20, u20, cs20, l20, f20, j20, i20, g20, k20⟩ := OwnS.elem wPa0l1 h20
        obtain rfl : l20 = [.int .u64 y20] := g20
        refine Plan.v 6 [7, 8, 9, 10, 11, 12, 13, 14, 15] (by kernel_rfl) (by kernel_rfl) (by kernel_rfl) (by kernel_rfl) rfl (fun _ _ h_ => R.ixp (sz := ((intE .u64)).size) Try.underlying22 Try.sizeOf26 rfl rfl rfl (by first | omega | (simp; done) | (simp; omega) | (simp at *; omega)) i20 (TL.nil h_)) ?_
        refine Plan.v 8 [7, 9, 10, 11, 12, 13, 14, 15] (by kernel_rfl) (by kernel_rfl) (by kernel_rfl) (by kernel_rfl) rfl (fun _ _ h_ => R.mvE rfl (by conv => lhs; whnf) (TL.nil h_)) ?_
        refine Plan.v 9 [7, 10, 11, 12, 13, 14, 15] (by kernel_rfl) (by kernel_rfl) (by kernel_rfl) (by kernel_rfl) rfl (fun _ _ h_ => R.mvE rfl (by conv => lhs; whnf) (TL.nil h_)) ?_
        have hl24 : n6l1.toNat < a0.length := by first | omega | (simp; done) | (simp; omega) | (simp at *; omega)
        obtain ⟨y24, e24, h24⟩ : ∃ y, y = (xPa0l1.getD n6l1.toNat (0 : Int)) ∧ xPa0l1[n6l1.toNat]? = some y := ⟨_, rfl, getD_get (by first | exact hl24 | simpa using hl24 | (simp only [List.length_set]; omega) | omega | (rw [(sortI_perm _).length_eq]; exact hl24))⟩
        obtain ⟨b24, u24, cs24, l24, f24, j24, i24, g24, k24⟩ := OwnS.elem wPa0l1 h24
        obtain rfl : l24 = [.int .u64 y24] := g24
        refine Plan.v 10 [7, 11, 12, 13, 14, 15] (by kernel_rfl) (by kernel_rfl) (by kernel_rfl) (by kernel_rfl) rfl (fun _ _ h_ => R.ixp (sz := ((intE .u64)).size) Try.underlying22 Try.sizeOf26 rfl rfl rfl (by first | omega | (simp; done) | (simp; omega) | (simp at *; omega)) i24 (TL.nil h_)) ?_
        refine Plan.s2 7 11 [11, 12, 13, 14, 15] [7, 12, 13, 14, 15] (by kernel_rfl) (by kernel_rfl) (by kernel_rfl) rfl rfl ?_ ?_
        · refine R.ld Try.isAgg26 rfl rfl (by rw [← f20]; exact .hd) (k20 0 _ rfl) ?_
          refine TL.nil (Plan.e1 (HLe.refl _) ?_)
          refine Plan.s1 11 [12, 13, 14, 15] (by kernel_rfl) (by kernel_rfl) rfl ?_
          refine R.ld Try.isAgg26 rfl rfl (by rw [← f24]; exact .hd) (k24 0 _ rfl) ?_
          refine TL.nil (Plan.e1 (HLe.refl _) ?_)
          have hl26 : n6l1.toNat < a0.length := by first | omega | (simp; done) | (simp; omega) | (simp at *; omega)
          obtain ⟨y26, e26, h26⟩ : ∃ y, y = (xPa0l1.getD n6l1.toNat (0 : Int)) ∧ xPa0l1[n6l1.toNat]? = some y := ⟨_, rfl, getD_get (by first | exact hl26 | simpa using hl26 | (simp only [List.length_set]; omega) | omega | (rw [(sortI_perm _).length_eq]; exact hl26))⟩
          obtain ⟨b26, u26, cs26, l26, f26, j26, i26, g26, k26⟩ := OwnS.elem wPa0l1 h26
          obtain rfl : l26 = [.int .u64 y26] := g26
          refine Plan.v 12 [13, 14, 15] (by kernel_rfl) (by kernel_rfl) (by kernel_rfl) (by kernel_rfl) rfl (fun _ _ h_ => R.ixp (sz := ((intE .u64)).size) Try.underlying22 Try.sizeOf26 rfl rfl rfl (by first | omega | (simp; done) | (simp; omega) | (simp at *; omega)) i26 (TL.nil h_)) ?_
          refine Plan.s1 13 [14, 15] (by kernel_rfl) (by kernel_rfl) rfl ?_
          refine R.stEF (E := (intE .u64)) (e := 26) (v := (.slice Aa0 a0.length pa0)) (m := [.int .u64 y20]) (o := 0) (y := y26) (y' := y20) (j := n6l1.toNat) Try.sizeOf26 rfl wPa0l1 .hd i26 rfl rfl (cells1 rfl) (all_one rfl) h26 (by show 0 + 1 ≤ 1; decide) (fun l hl => by have e0 : l = [.int .u64 y26] := hl; subst e0; exact rfl) ?_
          intro cst15 wst15
          refine TL.nil (Plan.e0 (HLe.refl _) ?_)
          have hl27 : n7l1.toNat < a0.length := by first | omega | (simp; done) | (simp; omega) | (simp at *; omega)
          obtain ⟨y27, e27, h27⟩ : ∃ y, y = (((xPa0l1.set n6l1.toNat y20)).getD n7l1.toNat (0 : Int)) ∧ ((xPa0l1.set n6l1.toNat y20))[n7l1.toNat]? = some y := ⟨_, rfl, getD_get (by first | exact hl27 | simpa using hl27 | (simp only [List.length_set]; omega) | omega | (rw [(sortI_perm _).length_eq]; exact hl27))⟩
          obtain ⟨b27, u27, cs27, l27, f27, j27, i27, g27, k27⟩ := OwnS.elem wst15 h27
          obtain rfl : l27 = [.int .u64 y27] := g27
          refine Plan.v 14 [15] (by kernel_rfl) (by kernel_rfl) (by kernel_rfl) (by kernel_rfl) rfl (fun _ _ h_ => R.ixp (sz := ((intE .u64)).size) Try.underlying22 Try.sizeOf26 rfl rfl rfl (by first | omega | (simp; done) | (simp; omega) | (simp at *; omega)) i27 (TL.nil h_)) ?_
          refine Plan.s1 15 [] (by kernel_rfl) (by kernel_rfl) rfl ?_
          refine R.stEF (E := (intE .u64)) (e := 26) (v := (.slice Aa0 a0.length pa0)) (m := [.int .u64 y24]) (o := 0) (y := y27) (y' := y24) (j := n7l1.toNat) Try.sizeOf26 rfl wst15 .hd i27 rfl rfl (cells1 rfl) (all_one rfl) h27 (by show 0 + 1 ≤ 1; decide) (fun l hl => by have e0 : l = [.int .u64 y27] := hl; subst e0; exact rfl) ?_
          intro cst16 wst16
          refine TL.nil (Plan.e0 (HLe.refl _) ?_)
          refine Plan.done (Post.thnN ?_)
          exact ⟨((((xPa0l1.set n6l1.toNat y20)).set n7l1.toNat y24), cst16), HLe.refl _, ⟨(Has.cons .hd Has.nil), wst16, (by subst e27; subst e26; subst e24; subst e20; rfl)⟩, rfl, rfl, rfl, trivial⟩
        · refine R.ld Try.isAgg26 rfl rfl (by rw [← f24]; exact .hd) (k24 0 _ rfl) ?_
          refine TL.nil (Plan.e1 (HLe.refl _) ?_)
          refine Plan.s1 7 [12, 13, 14, 15] (by kernel_rfl) (by kernel_rfl) rfl ?_
          refine R.ld Try.isAgg26 rfl rfl (by rw [← f20]; exact .hd) (k20 0 _ rfl) ?_
          refine TL.nil (Plan.e1 (HLe.refl _) ?_)
          have hl26 : n6l1.toNat < a0.length := by first | omega | (simp; done) | (simp; omega) | (simp at *; omega)
          obtain ⟨y26, e26, h26⟩ : ∃ y, y = (xPa0l1.getD n6l1.toNat (0 : Int)) ∧ xPa0l1[n6l1.toNat]? = some y := ⟨_, rfl, getD_get (by first | exact hl26 | simpa using hl26 | (simp only [List.length_set]; omega) | omega | (rw [(sortI_perm _).length_eq]; exact hl26))⟩
          obtain ⟨b26, u26, cs26, l26, f26, j26, i26, g26, k26⟩ := OwnS.elem wPa0l1 h26
          obtain rfl : l26 = [.int .u64 y26] := g26
          refine Plan.v 12 [13, 14, 15] (by kernel_rfl) (by kernel_rfl) (by kernel_rfl) (by kernel_rfl) rfl (fun _ _ h_ => R.ixp (sz := ((intE .u64)).size) Try.underlying22 Try.sizeOf26 rfl rfl rfl (by first | omega | (simp; done) | (simp; omega) | (simp at *; omega)) i26 (TL.nil h_)) ?_
          refine Plan.s1 13 [14, 15] (by kernel_rfl) (by kernel_rfl) rfl ?_
          refine R.stEF (E := (intE .u64)) (e := 26) (v := (.slice Aa0 a0.length pa0)) (m := [.int .u64 y20]) (o := 0) (y := y26) (y' := y20) (j := n6l1.toNat) Try.sizeOf26 rfl wPa0l1 .hd i26 rfl rfl (cells1 rfl) (all_one rfl) h26 (by show 0 + 1 ≤ 1; decide) (fun l hl => by have e0 : l = [.int .u64 y26] := hl; subst e0; exact rfl) ?_
          intro cst17 wst17
          refine TL.nil (Plan.e0 (HLe.refl _) ?_)
          have hl27 : n7l1.toNat < a0.length := by first | omega | (simp; done) | (simp; omega) | (simp at *; omega)
          obtain ⟨y27, e27, h27⟩ : ∃ y, y = (((xPa0l1.set n6l1.toNat y20)).getD n7l1.toNat (0 : Int)) ∧ ((xPa0l1.set n6l1.toNat y20))[n7l1.toNat]? = some y := ⟨_, rfl, getD_get (by first | exact hl27 | simpa using hl27 | (simp only [List.length_set]; omega) | omega | (rw [(sortI_perm _).length_eq]; exact hl27))⟩
          obtain ⟨b27, u27, cs27, l27, f27, j27, i27, g27, k27⟩ := OwnS.elem wst17 h27
          obtain rfl : l27 = [.int .u64 y27] := g27
          refine Plan.v 14 [15] (by kernel_rfl) (by kernel_rfl) (by kernel_rfl) (by kernel_rfl) rfl (fun _ _ h_ => R.ixp (sz := ((intE .u64)).size) Try.underlying22 Try.sizeOf26 rfl rfl rfl (by first | omega | (simp; done) | (simp; omega) | (simp at *; omega)) i27 (TL.nil h_)) ?_
          refine Plan.s1 15 [] (by kernel_rfl) (by kernel_rfl) rfl ?_
          refine R.stEF (E := (intE .u64)) (e := 26) (v := (.slice Aa0 a0.length pa0)) (m := [.int .u64 y24]) (o := 0) (y := y27) (y' := y24) (j := n7l1.toNat) Try.sizeOf26 rfl wst17 .hd i27 rfl rfl (cells1 rfl) (all_one rfl) h27 (by show 0 + 1 ≤ 1; decide) (fun l hl => by have e0 : l = [.int .u64 y27] := hl; subst e0; exact rfl) ?_
          intro cst18 wst18
          refine TL.nil (Plan.e0 (HLe.refl _) ?_)
          refine Plan.done (Post.thnN ?_)
          exact ⟨((((xPa0l1.set n6l1.toNat y20)).set n7l1.toNat y24), cst18), HLe.refl _, ⟨(Has.cons .hd Has.nil), wst18, (by subst e27; subst e26; subst e24; subst e20; rfl)⟩, rfl, rfl, rfl, trivial⟩
      · intro ⟨xPa0c2, cPa0c2⟩ σ_c2 H_c2 L_c2 ds_c2 s_c2 hI_c2
        obtain ⟨hLc2, wPa0c2, hTc2⟩ := hI_c2
        have nPa0c2_ := OwnS.len wPa0c2
        refine T.has hLc2 ?_
        refine T.seq ?_
        refine T.region ?_
        refine R.mvE rfl (by conv => lhs; whnf) ?_
        refine R.addI rfl rfl rfl (by omega) ?_
        refine R.asE rfl (by conv => lhs; whnf) ?_
        refine TL.nil (Post.thnN ?_)
        refine T.region ?_
        refine R.mvE rfl (by conv => lhs; whnf) ?_
        refine R.subI rfl rfl rfl (by omega) ?_
        refine R.asE rfl (by conv => lhs; whnf) ?_
        refine TL.nil (Post.blkN ?_)
        refine id (Post.thnN ?_)
        exact ⟨(ml1, (n6l1 + 1), (n7l1 - 1), xPa0c2, cPa0c2), (s_l1.trans s_c2), ⟨(by first | omega | (simp; omega) | (simp at *; omega)), (Has.cons .hd Has.nil), wPa0c2, (by first | omega | (simp; done) | (simp; omega) | (simp at *; omega)), (by first | omega | (simp; done) | (simp; omega) | (simp at *; omega)), (by first | omega | (simp; done) | (simp; omega) | (simp at *; omega)), (by first | omega | (simp; done) | (simp; omega) | (simp at *; omega)), (by rw [← hQl1, slices_reverseRangeOrdered_Id_l1]; rw [if_pos c13, hTc2, LR.seq_go])⟩, by show ml1 < ml1 + 1; omega, rfl, rfl, rfl, trivial⟩
    · refine T.set 13 (.bool false) (congrArg Value.bool (decide_eq_false c13)) ?_
      refine T.exit (Post.thnE (Post.thnE (Post.blkX ?_)))
      have hEl1 : slices_reverseRangeOrdered_Id_l1 ((((a2 - 1)) - a1).toNat + 1) ((a1, (a2 - 1), a0)) = (n6l1, n7l1, xPa0l1) := (by rw [← hQl1, slices_reverseRangeOrdered_Id_l1]; rw [if_neg c13])
      refine id ?_
      have hM : slices_reverseRangeOrdered_Id_m a0 a1 a2 = xPa0l1 := by rw [slices_reverseRangeOrdered_Id_m, hEl1, LR.seq_go]
      exact fin0N [cPa0l1] rfl (List.Sublist.cons_cons _ (List.nil_sublist _)) ⟨cPa0l1, by first | rw [hM] | rfl, by first | rw [hM] | rfl, by rw [hM]; exact wPa0l1⟩

end Go.SX

set_option linter.unusedVariables false
set_option linter.unusedSimpArgs false
namespace Go.SX
open Go Go.Proofs

def slices_partialInsertionSortOrdered_Id_l6  : Nat → (Int × (List Int)) → Int × (List Int)
  | 0, _ => default
  | ml6 + 1, sl6 => if (1 : Int) ≤ sl6.1 then (LR.seq ((!(cmp_Less_Id_m (sl6.2.getD sl6.1.toNat (0 : Int)) (sl6.2.getD (((sl6.1 - 1)).toNat) (0 : Int)))) : Bool) (fun sc7 => if sc7 = true then ((sl6.1, sl6.2)) else (slices_partialInsertionSortOrdered_Id_l6 ml6 (((sl6.1 - 1), (((sl6.2.set sl6.1.toNat (sl6.2.getD (((sl6.1 - 1)).toNat) (0 : Int)))).set (((sl6.1 - 1)).toNat) (sl6.2.getD sl6.1.toNat (0 : Int)))))))) else ((sl6.1, sl6.2))
def slices_partialInsertionSortOrdered_Id_l8 (a2 : Int) : Nat → (Int × (List Int)) → Int × (List Int)
  | 0, _ => default
  | ml8 + 1, sl8 => if sl8.1 < a2 then (LR.seq ((!(cmp_Less_Id_m (sl8.2.getD sl8.1.toNat (0 : Int)) (sl8.2.getD (((sl8.1 - 1)).toNat) (0 : Int)))) : Bool) (fun sc9 => if sc9 = true then ((sl8.1, sl8.2)) else (slices_partialInsertionSortOrdered_Id_l8 a2 ml8 (((sl8.1 + 1), (((sl8.2.set sl8.1.toNat (sl8.2.getD (((sl8.1 - 1)).toNat) (0 : Int)))).set (((sl8.1 - 1)).toNat) (sl8.2.getD sl8.1.toNat (0 : Int)))))))) else ((sl8.1, sl8.2))
def slices_partialInsertionSortOrdered_Id_l2 (a2 : Int) (xPa0l1 : List Int) : Nat → Int → Int
  | 0, _ => default
  | ml2 + 1, sl2 => LR.seq (if sl2 < a2 then ((!(cmp_Less_Id_m (xPa0l1.getD sl2.toNat (0 : Int)) (xPa0l1.getD (((sl2 - 1)).toNat) (0 : Int))))) else false : Bool) (fun sc3 => if sc3 = true then (slices_partialInsertionSortOrdered_Id_l2 a2 xPa0l1 ml2 ((sl2 + 1))) else sl2)
def slices_partialInsertionSortOrdered_Id_l1 (a1 : Int) (a2 : Int) : Nat → (Int × Int × (List Int)) → LR (Bool × (List Int)) (Int × Int × (List Int))
  | 0, _ => .go default
  | ml1 + 1, sl1 => if sl1.2.1 < 5 then (LR.seq (slices_partialInsertionSortOrdered_Id_l2 a2 sl1.2.2 ((a2 - sl1.1).toNat + 1) sl1.1) (fun ol2 => if ol2 = a2 then (.ret ((true, sl1.2.2))) else (if ((a2 - a1) : Int) < 50 then (.ret ((false, sl1.2.2))) else (LR.seq ((((sl1.2.2.set ol2.toNat (sl1.2.2.getD (((ol2 - 1)).toNat) (0 : Int)))).set (((ol2 - 1)).toNat) (sl1.2.2.getD ol2.toNat (0 : Int))) : (List Int)) (fun sc4 => LR.seq (if (2 : Int) ≤ (ol2 - a1) then (LR.seq (slices_partialInsertionSortOrdered_Id_l6 (((ol2 - 1)).toNat + 1) (((ol2 - 1), sc4))) (fun ol6 => ol6.2)) else sc4 : (List Int)) (fun sc5 => if (2 : Int) ≤ (a2 - ol2) then (LR.seq (slices_partialInsertionSortOrdered_Id_l8 a2 ((a2 - ((ol2 + 1))).toNat + 1) (((ol2 + 1), sc5))) (fun ol8 => slices_partialInsertionSortOrdered_Id_l1 a1 a2 ml1 ((ol2, (sl1.2.1 + 1), ol8.2)))) else (slices_partialInsertionSortOrdered_Id_l1 a1 a2 ml1 ((ol2, (sl1.2.1 + 1), sc5))))))))) else (.go ((sl1.1, sl1.2.1, sl1.2.2)))
def slices_partialInsertionSortOrdered_Id_m (a0 : List Int) (a1 : Int) (a2 : Int) : Bool × (List Int) :=
  LR.on (slices_partialInsertionSortOrdered_Id_l1 a1 a2 ((5 - 0 : Int).toNat + 1) (((a1 + 1), 0, a0))) (fun r => r) (fun ol1 => (false, ol1.2.2))
set_option maxHeartbeats 3200000 in
theorem slices_partialInsertionSortOrdered_Id_c (H : Heap) (va0 : Value) (a0 : List Int) (Ca0 : Chunk) (ha0 : OwnS (intE .u64) 26 H va0 a0 Ca0) (a1 : Int) (a2 : Int) (h1 : 0 ≤ a1) (h2 : a1 < a2) (h3 : a2 ≤ (a0.length : Int)) (hl : a0.length ≤ 4000000) : Fc Try.prog (fnv 115) [va0, .int .i64 a1, .int .i64 a2] H [Ca0] (fun v' H' L' => ∃ Da0, v' = .bool (slices_partialInsertionSortOrdered_Id_m a0 a1 a2).1 ∧ L' = [Da0] ∧ OwnS (intE .u64) 26 H' va0 (slices_partialInsertionSortOrdered_Id_m a0 a1 a2).2 Da0) := by
  refine Fc.of_body (N := 133) Try.func115 rfl (by kernel_rfl) rfl rfl ?_
  intro w0
  obtain ⟨Aa0, pa0, rfl, ma0, na0⟩ := OwnS.shape ha0
  refine T.seq ?_
  refine T.region ?_
  refine R.asE rfl (by conv => lhs; whnf) ?_
  refine TL.nil (Post.thnN ?_)
  refine T.seq ?_
  refine T.region ?_
  refine R.mvE rfl (by conv => lhs; whnf) ?_
  refine R.addI rfl rfl rfl (by omega) ?_
  refine R.asE rfl (by conv => lhs; whnf) ?_
  refine TL.nil (Post.thnN ?_)
  refine T.seq ?_
  refine T.seq ?_
  refine T.region ?_
  refine R.asE rfl (by conv => lhs; whnf) ?_
  refine TL.nil (Post.thnN ?_)
  refine T.block ?_
  refine T.loop (ι := Nat × Int × Int × (List Int) × Chunk) (fun ⟨kl1, n7l1, n8l1, xPa0l1, cPa0l1⟩ H' L' ds' => (5 - n8l1 : Int).toNat < kl1 ∧ Has L' [cPa0l1] ∧ OwnS (intE .u64) 26 H' (.slice Aa0 a0.length pa0) xPa0l1 cPa0l1 ∧ 0 ≤ n8l1 ∧ n8l1 ≤ 5 ∧ a1 + 1 ≤ n7l1 ∧ n7l1 ≤ a2 ∧ slices_partialInsertionSortOrdered_Id_l1 a1 a2 kl1 ((n7l1, n8l1, xPa0l1)) = slices_partialInsertionSortOrdered_Id_l1 a1 a2 ((5 - 0 : Int).toNat + 1) (((a1 + 1), 0, a0))) (fun ⟨kl1, n7l1, n8l1, xPa0l1, cPa0l1⟩ => [(0, .slice Aa0 a0.length pa0), (1, .int .i64 a1), (2, .int .i64 a2), (7, .int .i64 n7l1), (8, .int .i64 n8l1)]) (fun ⟨kl1, n7l1, n8l1, xPa0l1, cPa0l1⟩ => kl1) (((5 - 0 : Int).toNat + 1), (a1 + 1), 0, a0, Ca0) ?_ ?_ ?_
  · exact ⟨(by omega), (Has.cons .hd Has.nil), ha0, (by first | omega | (simp; done) | (simp; omega) | (simp at *; omega)), (by first | omega | (simp; done) | (simp; omega) | (simp at *; omega)), (by first | omega | (simp; done) | (simp; omega) | (simp at *; omega)), (by first | omega | (simp; done) | (simp; omega) | (simp at *; omega)), (by rfl)⟩
  · exact ⟨rfl, rfl, rfl, rfl, rfl, trivial⟩
  · intro ⟨kl1, n7l1, n8l1, xPa0l1, cPa0l1⟩ σ_l1 H_l1 L_l1 ds_l1 s_l1 hI_l1
    obtain ⟨hkl1, hI_l1⟩ := hI_l1
    obtain ⟨ml1, rfl⟩ : ∃ m, kl1 = m + 1 := ⟨kl1 - 1, by omega⟩
    obtain ⟨hLl1, wPa0l1, hBl1_0, hBl1_1, hBl1_2, hBl1_3, hQl1⟩ := hI_l1
    have nPa0l1_ := OwnS.len wPa0l1
    refine T.has hLl1 ?_
    refine T.seq ?_
    refine T.seq ?_
    refine T.region ?_
    refine R.mvE rfl (by conv => lhs; whnf) ?_
    refine R.lss rfl rfl rfl ?_
    refine TL.nil (Post.thnN ?_)
    refine T.condD rfl (fun c14 => ?_) (fun c14 => ?_)
    · refine T.set 14 (.bool true) (congrArg Value.bool (decide_eq_true c14)) ?_
      refine T.skip (Post.thnN ?_)
      refine T.seq ?_
      refine T.block ?_
      refine T.seq ?_
      refine T.block ?_
      refine T.loop (ι := Nat × Int) (fun ⟨kl2, n7l2⟩ H' L' ds' => (a2 - n7l2).toNat < kl2 ∧ Has L' [cPa0l1] ∧ a1 + 1 ≤ n7l2 ∧ n7l2 ≤ a2 ∧ slices_partialInsertionSortOrdered_Id_l2 a2 xPa0l1 kl2 n7l2 = slices_partialInsertionSortOrdered_Id_l2 a2 xPa0l1 ((a2 - n7l1).toNat + 1) n7l1) (fun ⟨kl2, n7l2⟩ => [(0, .slice Aa0 a0.length pa0), (1, .int .i64 a1), (2, .int .i64 a2), (7, .int .i64 n7l2), (8, .int .i64 n8l1)]) (fun ⟨kl2, n7l2⟩ => kl2) (((a2 - n7l1).toNat + 1), n7l1) ?_ ?_ ?_
      · exact ⟨(by omega), (Has.cons .hd Has.nil), (by first | omega | (simp; done) | (simp; omega) | (simp at *; omega)), (by first | omega | (simp; done) | (simp; omega) | (simp at *; omega)), (by rfl)⟩
      · exact ⟨rfl, rfl, rfl, rfl, rfl, trivial⟩
      · intro ⟨kl2, n7l2⟩ σ_l2 H_l2 L_l2 ds_l2 s_l2 hI_l2
        obtain ⟨hkl2, hI_l2⟩ := hI_l2
        obtain ⟨ml2, rfl⟩ : ∃ m, kl2 = m + 1 := ⟨kl2 - 1, by omega⟩
        obtain ⟨hLl2, hBl2_0, hBl2_1, hQl2⟩ := hI_l2
        refine T.has hLl2 ?_
        refine T.seq ?_
        refine T.seq ?_
        refine T.cutK (ι := Bool) (fun b32c3 H' L' ds' => Has L' [cPa0l1] ∧ (if n7l2 < a2 then ((!(cmp_Less_Id_m (xPa0l1.getD n7l2.toNat (0 : Int)) (xPa0l1.getD (((n7l2 - 1)).toNat) (0 : Int))))) else false : Bool) = b32c3) (fun b32c3 => [(0, .slice Aa0 a0.length pa0), (1, .int .i64 a1), (2, .int .i64 a2), (7, .int .i64 n7l2), (8, .int .i64 n8l1), (32, .bool (b32c3))]) ?_ ?_
        · refine T.draw Try_mixed (by kernel_rfl) ?_
          refine Plan.v 0 [1, 2, 3, 4, 5, 6, 7, 8, 9, 10, 11, 12, 13, 14, 15] (by kernel_rfl) (by kernel_rfl) (by kernel_rfl) (by kernel_rfl) rfl (fun _ _ h_ => R.mvE rfl (by conv => lhs; whnf) (TL.nil h_)) ?_
          refine Plan.v 1 [2, 3, 4, 5, 6, 7, 8, 9, 10, 11, 12, 13, 14, 15] (by kernel_rfl) (by kernel_rfl) (by kernel_rfl) (by kernel_rfl) rfl (fun _ _ h_ => R.mvE rfl (by conv => lhs; whnf) (TL.nil h_)) ?_
          refine Plan.v 2 [3, 4, 5, 6, 7, 8, 9, 10, 11, 12, 13, 14, 15] (by kernel_rfl) (by kernel_rfl) (by kernel_rfl) (by kernel_rfl) rfl (fun _ _ h_ => R.lss rfl rfl rfl (TL.nil h_)) ?_
          refine Plan.v 3 [4, 5, 6, 7, 8, 9, 10, 11, 12, 13, 14, 15] (by kernel_rfl) (by kernel_rfl) (by kernel_rfl) (by kernel_rfl) rfl (fun _ _ h_ => R.mvE rfl (by conv => lhs; whnf) (TL.nil h_)) ?_
          refine Plan.gsplitD 20 rfl (fun g20 => ?_) (fun g20 => ?_)
          · refine Plan.v 4 [5, 6, 7, 8, 9, 10, 11, 12, 13, 14, 15] (by kernel_rfl) (by kernel_rfl) (by kernel_rfl) (by kernel_rfl) rfl (fun _ _ h_ => R.mvE rfl (by conv => lhs; whnf) (TL.nil h_)) ?_
            refine Plan.v 5 [6, 7, 8, 9, 10, 11, 12, 13, 14, 15] (by kernel_rfl) (by kernel_rfl) (by kernel_rfl) (by kernel_rfl) rfl (fun _ _ h_ => R.mvE rfl (by conv => lhs; whnf) (TL.nil h_)) ?_
            have hl23 : n7l2.toNat < a0.length := by first | omega | (simp; done) | (simp; omega) | (simp at *; omega)
            obtain ⟨y23, e23, h23⟩ : ∃ y, y = (xPa0l1.getD n7l2.toNat (0 : Int)) ∧ xPa0l1[n7l2.toNat]? = some y := ⟨_, rfl, getD_get (by first | exact hl23 | simpa using hl23 | (simp only [List.length_set]; omega) | omega | (rw [(sortI_perm _).length_eq]; exact hl23))⟩
            obtain ⟨b23, u23, cs23, l23, f23, j23, i23, g23, k23⟩ := OwnS.elem (OwnS.mono wPa0l1 s_l2) h23
            obtain rfl : l23 = [.int .u64 y23] := g23
            refine Plan.v 6 [7, 8, 9, 10, 11, 12, 13, 14, 15] (by kernel_rfl) (by kernel_rfl) (by kernel_rfl) (by kernel_rfl) rfl (fun _ _ h_ => R.ixp (sz := ((intE .u64)).size) Try.underlying22 Try.sizeOf26 rfl rfl rfl (by first | omega | (simp; done) | (simp; omega) | (simp at *; omega)) i23 (TL.nil h_)) ?_
            refine Plan.v 8 [7, 9, 10, 11, 12, 13, 14, 15] (by kernel_rfl) (by kernel_rfl) (by kernel_rfl) (by kernel_rfl) rfl (fun _ _ h_ => R.mvE rfl (by conv => lhs; whnf) (TL.nil h_)) ?_
            refine Plan.v 9 [7, 10, 11, 12, 13, 14, 15] (by kernel_rfl) (by kernel_rfl) (by kernel_rfl) (by kernel_rfl) rfl (fun _ _ h_ => R.mvE rfl (by conv => lhs; whnf) (TL.nil h_)) ?_
            refine Plan.v 10 [7, 11, 12, 13, 14, 15] (by kernel_rfl) (by kernel_rfl) (by kernel_rfl) (by kernel_rfl) rfl (fun _ _ h_ => R.subI rfl rfl rfl (by omega) (TL.nil h_)) ?_
            have hl28 : ((n7l2 - 1)).toNat < a0.length := by first | omega | (simp; done) | (simp; omega) | (simp at *; omega)
            obtain ⟨y28, e28, h28⟩ : ∃ y, y = (xPa0l1.getD (((n7l2 - 1)).toNat) (0 : Int)) ∧ xPa0l1[((n7l2 - 1)).toNat]? = some y := ⟨_, rfl, getD_get (by first | exact hl28 | simpa using hl28 | (simp only [List.length_set]; omega) | omega | (rw [(sortI_perm _).length_eq]; exact hl28))⟩
            obtain ⟨b28, u28, cs28, l28, f28, j28, i28, g28, k28⟩ := OwnS.elem (OwnS.mono wPa0l1 s_l2) h28
            obtain rfl : l28 = [.int .u64 y28] := g28
            refine Plan.v 11 [7, 12, 13, 14, 15] (by kernel_rfl) (by kernel_rfl) (by kernel_rfl) (by kernel_rfl) rfl (fun _ _ h_ => R.ixp (sz := ((intE .u64)).size) Try.underlying22 Try.sizeOf26 rfl rfl rfl (by first | omega | (simp; done) | (simp; omega) | (simp at *; omega)) i28 (TL.nil h_)) ?_
            refine Plan.s2 7 12 [12, 13, 14, 15] [7, 13, 14, 15] (by kernel_rfl) (by kernel_rfl) (by kernel_rfl) rfl rfl ?_ ?_
            · refine R.ld Try.isAgg26 rfl rfl (by rw [← f23]; exact .hd) (k23 0 _ rfl) ?_
              refine TL.nil (Plan.e1 (HLe.refl _) ?_)
              refine Plan.s1 12 [13, 14, 15] (by kernel_rfl) (by kernel_rfl) rfl ?_
              refine R.ld Try.isAgg26 rfl rfl (by rw [← f28]; exact .hd) (k28 0 _ rfl) ?_
              refine TL.nil (Plan.e1 (HLe.refl _) ?_)
              refine Plan.v 13 [14, 15] (by kernel_rfl) (by kernel_rfl) (by kernel_rfl) (by kernel_rfl) rfl (fun _ _ h_ => R.callv rfl rfl rfl (cmp_Less_Id_c _ (y23) (y28)) (TL.nil h_)) ?_
              refine Plan.v 14 [15] (by kernel_rfl) (by kernel_rfl) (by kernel_rfl) (by kernel_rfl) rfl (fun _ _ h_ => R.not rfl rfl (TL.nil h_)) ?_
              refine Plan.v 15 [] (by kernel_rfl) (by kernel_rfl) (by kernel_rfl) (by kernel_rfl) rfl (fun _ _ h_ => R.pkTE rfl rfl (by conv => lhs; whnf) (TL.nil h_)) ?_
              refine Plan.done (Post.thnN ?_)
              exact ⟨(!(cmp_Less_Id_m y23 y28)), HLe.refl _, ⟨(Has.cons .hd Has.nil), (by subst e28; subst e23; rw [if_pos g20])⟩, rfl, rfl, rfl, rfl, rfl, rfl, trivial⟩
            · refine R.ld Try.isAgg26 rfl rfl (by rw [← f28]; exact .hd) (k28 0 _ rfl) ?_
              refine TL.nil (Plan.e1 (HLe.refl _) ?_)
              refine Plan.s1 7 [13, 14, 15] (by kernel_rfl) (by kernel_rfl) rfl ?_
              refine R.ld Try.isAgg26 rfl rfl (by rw [← f23]; exact .hd) (k23 0 _ rfl) ?_
              refine TL.nil (Plan.e1 (HLe.refl _) ?_)
              refine Plan.v 13 [14, 15] (by kernel_rfl) (by kernel_rfl) (by kernel_rfl) (by kernel_rfl) rfl (fun _ _ h_ => R.callv rfl rfl rfl (cmp_Less_Id_c _ (y23) (y28)) (TL.nil h_)) ?_
              refine Plan.v 14 [15] (by kernel_rfl) (by kernel_rfl) (by kernel_rfl) (by kernel_rfl) rfl (fun _ _ h_ => R.not rfl rfl (TL.nil h_)) ?_
              refine Plan.v 15 [] (by kernel_rfl) (by kernel_rfl) (by kernel_rfl) (by kernel_rfl) rfl (fun _ _ h_ => R.pkTE rfl rfl (by conv => lhs; whnf) (TL.nil h_)) ?_
              refine Plan.done (Post.thnN ?_)
              exact ⟨(!(cmp_Less_Id_m y23 y28)), HLe.refl _, ⟨(Has.cons .hd Has.nil), (by subst e28; subst e23; rw [if_pos g20])⟩, rfl, rfl, rfl, rfl, rfl, rfl, trivial⟩
          · refine Plan.v 4 [5, 6, 7, 8, 9, 10, 11, 12, 13, 14, 15] (by kernel_rfl) (by kernel_rfl) (by kernel_rfl) (by kernel_rfl) rfl (fun _ _ h_ => TL.off rfl rfl rfl (TL.nil h_)) ?_
            refine Plan.v 5 [6, 7, 8, 9, 10, 11, 12, 13, 14, 15] (by kernel_rfl) (by kernel_rfl) (by kernel_rfl) (by kernel_rfl) rfl (fun _ _ h_ => TL.off rfl rfl rfl (TL.nil h_)) ?_
            refine Plan.v 6 [7, 8, 9, 10, 11, 12, 13, 14, 15] (by kernel_rfl) (by kernel_rfl) (by kernel_rfl) (by kernel_rfl) rfl (fun _ _ h_ => TL.off rfl rfl rfl (TL.nil h_)) ?_
            refine Plan.v 7 [8, 9, 10, 11, 12, 13, 14, 15] (by kernel_rfl) (by kernel_rfl) (by kernel_rfl) (by kernel_rfl) rfl (fun _ _ h_ => TL.off rfl rfl rfl (TL.nil h_)) ?_
            refine Plan.v 8 [9, 10, 11, 12, 13, 14, 15] (by kernel_rfl) (by kernel_rfl) (by kernel_rfl) (by kernel_rfl) rfl (fun _ _ h_ => TL.off rfl rfl rfl (TL.nil h_)) ?_
            refine Plan.v 9 [10, 11, 12, 13, 14, 15] (by kernel_rfl) (by kernel_rfl) (by kernel_rfl) (by kernel_rfl) rfl (fun _ _ h_ => TL.off rfl rfl rfl (TL.nil h_)) ?_
            refine Plan.v 10 [11, 12, 13, 14, 15] (by kernel_rfl) (by kernel_rfl) (by kernel_rfl) (by kernel_rfl) rfl (fun _ _ h_ => TL.off rfl rfl rfl (TL.nil h_)) ?_
            refine Plan.v 11 [12, 13, 14, 15] (by kernel_rfl) (by kernel_rfl) (by kernel_rfl) (by kernel_rfl) rfl (fun _ _ h_ => TL.off rfl rfl rfl (TL.nil h_)) ?_
            refine Plan.v 12 [13, 14, 15] (by kernel_rfl) (by kernel_rfl) (by kernel_rfl) (by kernel_rfl) rfl (fun _ _ h_ => TL.off rfl rfl rfl (TL.nil h_)) ?_
            refine Plan.v 13 [14, 15] (by kernel_rfl) (by kernel_rfl) (by kernel_rfl) (by kernel_rfl) rfl (fun _ _ h_ => TL.off rfl rfl rfl (TL.nil h_)) ?_
            refine Plan.v 14 [15] (by kernel_rfl) (by kernel_rfl) (by kernel_rfl) (by kernel_rfl) rfl (fun _ _ h_ => TL.off rfl rfl rfl (TL.nil h_)) ?_
            refine Plan.v 15 [] (by kernel_rfl) (by kernel_rfl) (by kernel_rfl) (by kernel_rfl) rfl (fun _ _ h_ => R.pkFE rfl rfl (by conv => lhs; whnf) (TL.nil h_)) ?_
            refine Plan.done (Post.thnN ?_)
            exact ⟨false, HLe.refl _, ⟨(Has.cons .hd Has.nil), (by rw [if_neg g20])⟩, rfl, rfl, rfl, rfl, rfl, rfl, trivial⟩
        · intro b32c3 σ_c3 H_c3 L_c3 ds_c3 s_c3 hI_c3
          obtain ⟨hLc3, hTc3⟩ := hI_c3
          refine T.has hLc3 ?_
          refine T.cond rfl (fun c32 => ?_) (fun c32 => ?_)
          · refine T.set 32 (.bool true) (congrArg Value.bool c32) ?_
            have hZ32 := hTc3.trans c32
            try simp only [or_f, or_t, and_f, and_t, decide_eq_true_eq, decide_eq_false_iff_not, Bool.not_eq_true'] at hZ32
            refine T.skip (Post.thnN ?_)
            refine T.block ?_
            refine T.region ?_
            refine R.mvE rfl (by conv => lhs; whnf) ?_
            refine R.addI rfl rfl rfl (by omega) ?_
            refine R.asE rfl (by conv => lhs; whnf) ?_
            refine TL.nil (Post.blkN ?_)
            refine id (Post.thnN ?_)
            exact ⟨(ml2, (n7l2 + 1)), (s_l2.trans s_c3), ⟨(by first | omega | (simp; omega) | (simp at *; omega)), (Has.cons .hd Has.nil), (by first | omega | (simp; done) | (simp; omega) | (simp at *; omega)), (by first | omega | (simp; done) | (simp; omega) | (simp at *; omega)), (by rw [← hQl2, slices_partialInsertionSortOrdered_Id_l2]; rw [hTc3, LR.seq_go, if_t c32])⟩, by show ml2 < ml2 + 1; omega, rfl, rfl, rfl, rfl, rfl, trivial⟩
          · refine T.set 32 (.bool false) (congrArg Value.bool c32) ?_
            have hZ32 := hTc3.trans c32
            try simp only [or_f, or_t, and_f, and_t, decide_eq_true_eq, decide_eq_false_iff_not, Bool.not_eq_true'] at hZ32
            refine T.exit (Post.thnE (Post.thnE (Post.blkX ?_)))
            have hEl2 : slices_partialInsertionSortOrdered_Id_l2 a2 xPa0l1 ((a2 - n7l1).toNat + 1) n7l1 = n7l2 := (by rw [← hQl2, slices_partialInsertionSortOrdered_Id_l2]; rw [hTc3, LR.seq_go, if_f c32])
            refine id (Post.thnN ?_)
            refine T.seq ?_
            refine T.seq ?_
            refine T.region ?_
            refine R.mvE rfl (by conv => lhs; whnf) ?_
            refine R.mvE rfl (by conv => lhs; whnf) ?_
            refine R.eql rfl rfl rfl ?_
            refine TL.nil (Post.thnN ?_)
            refine T.condD rfl (fun c37 => ?_) (fun c37 => ?_)
            · refine T.set 37 (.bool true) (congrArg Value.bool (decide_eq_true c37)) ?_
              refine T.seq ?_
              refine T.region ?_
              refine R.asE rfl (by conv => lhs; whnf) ?_
              refine TL.nil (Post.thnN ?_)
              refine T.has (Has.cons .hd Has.nil) ?_
              refine T.ret (Post.thnR (Post.blkR (Post.thnR (Post.thnR (Post.blkR (Post.thnR ?_))))))
              have hXl1 : slices_partialInsertionSortOrdered_Id_l1 a1 a2 ((5 - 0 : Int).toNat + 1) (((a1 + 1), 0, a0)) = .ret ((true, xPa0l1)) := by rw [← hQl1, slices_partialInsertionSortOrdered_Id_l1]; rw [if_pos c14, hEl2, LR.seq_go, if_pos c37]
              have hM : slices_partialInsertionSortOrdered_Id_m a0 a1 a2 = (true, xPa0l1) := by rw [slices_partialInsertionSortOrdered_Id_m, hXl1, LR.on_ret]
              exact fin1L (v := .bool true) [cPa0l1] rfl rfl (List.Sublist.refl _) ⟨cPa0l1, by first | rw [hM] | rfl, by first | rw [hM] | rfl, by rw [hM]; exact (OwnS.mono wPa0l1 (s_l2.trans s_c3))⟩
            · refine T.set 37 (.bool false) (congrArg Value.bool (decide_eq_false c37)) ?_
              refine T.skip (Post.thnN ?_)
              refine T.seq ?_
              refine T.seq ?_
              refine T.region ?_
              refine R.mvE rfl (by conv => lhs; whnf) ?_
              refine R.mvE rfl (by conv => lhs; whnf) ?_
              refine R.subI rfl rfl rfl (by omega) ?_
              refine R.lss rfl rfl rfl ?_
              refine TL.nil (Post.thnN ?_)
              refine T.condD rfl (fun c41 => ?_) (fun c41 => ?_)
              · refine T.set 41 (.bool true) (congrArg Value.bool (decide_eq_true c41)) ?_
                refine T.seq ?_
                refine T.region ?_
                refine R.asE rfl (by conv => lhs; whnf) ?_
                refine TL.nil (Post.thnN ?_)
                refine T.has (Has.cons .hd Has.nil) ?_
                refine T.ret (Post.thnR (Post.blkR (Post.thnR (Post.thnR (Post.blkR (Post.thnR ?_))))))
                have hXl1 : slices_partialInsertionSortOrdered_Id_l1 a1 a2 ((5 - 0 : Int).toNat + 1) (((a1 + 1), 0, a0)) = .ret ((false, xPa0l1)) := by rw [← hQl1, slices_partialInsertionSortOrdered_Id_l1]; rw [if_pos c14, hEl2, LR.seq_go, if_neg c37, if_pos c41]
                have hM : slices_partialInsertionSortOrdered_Id_m a0 a1 a2 = (false, xPa0l1) := by rw [slices_partialInsertionSortOrdered_Id_m, hXl1, LR.on_ret]
                exact fin1L (v := .bool false) [cPa0l1] rfl rfl (List.Sublist.refl _) ⟨cPa0l1, by first | rw [hM] | rfl, by first | rw [hM] | rfl, by rw [hM]; exact (OwnS.mono wPa0l1 (s_l2.trans s_c3))⟩
              · refine T.set 41 (.bool false) (congrArg Value.bool (decide_eq_false c41)) ?_
                refine T.skip (Post.thnN ?_)
                refine T.seq ?_
                refine T.cutK (ι := (List Int) × Chunk) (fun ⟨xPa0c4, cPa0c4⟩ H' L' ds' => Has L' [cPa0c4] ∧ OwnS (intE .u64) 26 H' (.slice Aa0 a0.length pa0) xPa0c4 cPa0c4 ∧ ((((xPa0l1.set n7l2.toNat (xPa0l1.getD (((n7l2 - 1)).toNat) (0 : Int)))).set (((n7l2 - 1)).toNat) (xPa0l1.getD n7l2.toNat (0 : Int))) : (List Int)) = xPa0c4) (fun ⟨xPa0c4, cPa0c4⟩ => [(0, .slice Aa0 a0.length pa0), (1, .int .i64 a1), (2, .int .i64 a2), (7, .int .i64 n7l2), (8, .int .i64 n8l1)]) ?_ ?_
                · refine T.draw Try_mixed (by kernel_rfl) ?_
                  refine Plan.v 0 [1, 2, 3, 4, 5, 6, 7, 8, 9, 10, 11, 12, 13, 14, 15, 16, 17] (by kernel_rfl) (by kernel_rfl) (by kernel_rfl) (by kernel_rfl) rfl (fun _ _ h_ => R.mvE rfl (by conv => lhs; whnf) (TL.nil h_)) ?_
                  refine Plan.v 1 [2, 3, 4, 5, 6, 7, 8, 9, 10, 11, 12, 13, 14, 15, 16, 17] (by kernel_rfl) (by kernel_rfl) (by kernel_rfl) (by kernel_rfl) rfl (fun _ _ h_ => R.mvE rfl (by conv => lhs; whnf) (TL.nil h_)) ?_
                  refine Plan.v 2 [3, 4, 5, 6, 7, 8, 9, 10, 11, 12, 13, 14, 15, 16, 17] (by kernel_rfl) (by kernel_rfl) (by kernel_rfl) (by kernel_rfl) rfl (fun _ _ h_ => R.mvE rfl (by conv => lhs; whnf) (TL.nil h_)) ?_
                  refine Plan.v 3 [4, 5, 6, 7, 8, 9, 10, 11, 12, 13, 14, 15, 16, 17] (by kernel_rfl) (by kernel_rfl) (by kernel_rfl) (by kernel_rfl) rfl (fun _ _ h_ => R.mvE rfl (by conv => lhs; whnf) (TL.nil h_)) ?_
                  refine Plan.v 4 [5, 6, 7, 8, 9, 10, 11, 12, 13, 14, 15, 16, 17] (by kernel_rfl) (by kernel_rfl) (by kernel_rfl) (by kernel_rfl) rfl (fun _ _ h_ => R.subI rfl rfl rfl (by omega) (TL.nil h_)) ?_
                  refine Plan.v 5 [6, 7, 8, 9, 10, 11, 12, 13, 14, 15, 16, 17] (by kernel_rfl) (by kernel_rfl) (by kernel_rfl) (by kernel_rfl) rfl (fun _ _ h_ => R.mvE rfl (by conv => lhs; whnf) (TL.nil h_)) ?_
                  refine Plan.v 6 [7, 8, 9, 10, 11, 12, 13, 14, 15, 16, 17] (by kernel_rfl) (by kernel_rfl) (by kernel_rfl) (by kernel_rfl) rfl (fun _ _ h_ => R.mvE rfl (by conv => lhs; whnf) (TL.nil h_)) ?_
                  refine Plan.v 7 [8, 9, 10, 11, 12, 13, 14, 15, 16, 17] (by kernel_rfl) (by kernel_rfl) (by kernel_rfl) (by kernel_rfl) rfl (fun _ _ h_ => R.subI rfl rfl rfl (by omega) (TL.nil h_)) ?_
                  have hl50 : ((n7l2 - 1)).toNat < a0.length := by first | omega | (simp; done) | (simp; omega) | (simp at *; omega)
                  obtain ⟨y50, e50, h50⟩ : ∃ y, y = (xPa0l1.getD (((n7l2 - 1)).toNat) (0 : Int)) ∧ xPa0l1[((n7l2 - 1)).toNat]? = some y := ⟨_, rfl, getD_get (by first | exact hl50 | simpa using hl50 | (simp only [List.length_set]; omega) | omega | (rw [(sortI_perm _).length_eq]; exact hl50))⟩
                  obtain ⟨b50, u50, cs50, l50, f50, j50, i50, g50, k50⟩ := OwnS.elem (OwnS.mono wPa0l1 (s_l2.trans s_c3)) h50
                  obtain rfl : l50 = [.int .u64 y50] := g50
                  refine Plan.v 8 [9, 10, 11, 12, 13, 14, 15, 16, 17] (by kernel_rfl) (by kernel_rfl) (by kernel_rfl) (by kernel_rfl) rfl (fun _ _ h_ => R.ixp (sz := ((intE .u64)).size) Try.underlying22 Try.sizeOf26 rfl rfl rfl (by first | omega | (simp; done) | (simp; omega) | (simp at *; omega)) i50 (TL.nil h_)) ?_
                  refine Plan.v 10 [9, 11, 12, 13, 14, 15, 16, 17] (by kernel_rfl) (by kernel_rfl) (by kernel_rfl) (by kernel_rfl) rfl (fun _ _ h_ => R.mvE rfl (by conv => lhs; whnf) (TL.nil h_)) ?_
                  refine Plan.v 11 [9, 12, 13, 14, 15, 16, 17] (by kernel_rfl) (by kernel_rfl) (by kernel_rfl) (by kernel_rfl) rfl (fun _ _ h_ => R.mvE rfl (by conv => lhs; whnf) (TL.nil h_)) ?_
                  have hl54 : n7l2.toNat < a0.length := by first | omega | (simp; done) | (simp; omega) | (simp at *; omega)
                  obtain ⟨y54, e54, h54⟩ : ∃ y, y = (xPa0l1.getD n7l2.toNat (0 : Int)) ∧ xPa0l1[n7l2.toNat]? = some y := ⟨_, rfl, getD_get (by first | exact hl54 | simpa using hl54 | (simp only [List.length_set]; omega) | omega | (rw [(sortI_perm _).length_eq]; exact hl54))⟩
                  obtain ⟨b54, u54, cs54, l54, f54, j54, i54, g54, k54⟩ := OwnS.elem (OwnS.mono wPa0l1 (s_l2.trans s_c3)) h54
                  obtain rfl : l54 = [.int .u64 y54] := g54
                  refine Plan.v 12 [9, 13, 14, 15, 16, 17] (by kernel_rfl) (by kernel_rfl) (by kernel_rfl) (by kernel_rfl) rfl (fun _ _ h_ => R.ixp (sz := ((intE .u64)).size) Try.underlying22 Try.sizeOf26 rfl rfl rfl (by first | omega | (simp; done) | (simp; omega) | (simp at *; omega)) i54 (TL.nil h_)) ?_
                  refine Plan.s2 9 13 [13, 14, 15, 16, 17] [9, 14, 15, 16, 17] (by kernel_rfl) (by kernel_rfl) (by kernel_rfl) rfl rfl ?_ ?_
                  · refine R.ld Try.isAgg26 rfl rfl (by rw [← f50]; exact .hd) (k50 0 _ rfl) ?_
                    refine TL.nil (Plan.e1 (HLe.refl _) ?_)
                    refine Plan.s1 13 [14, 15, 16, 17] (by kernel_rfl) (by kernel_rfl) rfl ?_
                    refine R.ld Try.isAgg26 rfl rfl (by rw [← f54]; exact .hd) (k54 0 _ rfl) ?_
                    refine TL.nil (Plan.e1 (HLe.refl _) ?_)
                    have hl56 : n7l2.toNat < a0.length := by first | omega | (simp; done) | (simp; omega) | (simp at *; omega)
                    obtain ⟨y56, e56, h56⟩ : ∃ y, y = (xPa0l1.getD n7l2.toNat (0 : Int)) ∧ xPa0l1[n7l2.toNat]? = some y := ⟨_, rfl, getD_get (by first | exact hl56 | simpa using hl56 | (simp only [List.length_set]; omega) | omega | (rw [(sortI_perm _).length_eq]; exact hl56))⟩
                    obtain ⟨b56, u56, cs56, l56, f56, j56, i56, g56, k56⟩ := OwnS.elem (OwnS.mono wPa0l1 (s_l2.trans s_c3)) h56
                    obtain rfl : l56 = [.int .u64 y56] := g56
                    refine Plan.v 14 [15, 16, 17] (by kernel_rfl) (by kernel_rfl) (by kernel_rfl) (by kernel_rfl) rfl (fun _ _ h_ => R.ixp (sz := ((intE .u64)).size) Try.underlying22 Try.sizeOf26 rfl rfl rfl (by first | omega | (simp; done) | (simp; omega) | (simp at *; omega)) i56 (TL.nil h_)) ?_
                    refine Plan.s1 15 [16, 17] (by kernel_rfl) (by kernel_rfl) rfl ?_
                    refine R.stEF (E := (intE .u64)) (e := 26) (v := (.slice Aa0 a0.length pa0)) (m := [.int .u64 y50]) (o := 0) (y := y56) (y' := y50) (j := n7l2.toNat) Try.sizeOf26 rfl (OwnS.mono wPa0l1 (s_l2.trans s_c3)) .hd i56 rfl rfl (cells1 rfl) (all_one rfl) h56 (by show 0 + 1 ≤ 1; decide) (fun l hl => by have e0 : l = [.int .u64 y56] := hl; subst e0; exact rfl) ?_
                    intro cst159 wst159
                    refine TL.nil (Plan.e0 (HLe.refl _) ?_)
                    have hl57 : ((n7l2 - 1)).toNat < a0.length := by first | omega | (simp; done) | (simp; omega) | (simp at *; omega)
                    obtain ⟨y57, e57, h57⟩ : ∃ y, y = (((xPa0l1.set n7l2.toNat y50)).getD (((n7l2 - 1)).toNat) (0 : Int)) ∧ ((xPa0l1.set n7l2.toNat y50))[((n7l2 - 1)).toNat]? = some y := ⟨_, rfl, getD_get (by first | exact hl57 | simpa using hl57 | (simp only [List.length_set]; omega) | omega | (rw [(sortI_perm _).length_eq]; exact hl57))⟩
                    obtain ⟨b57, u57, cs57, l57, f57, j57, i57, g57, k57⟩ := OwnS.elem wst159 h57
                    obtain rfl : l57 = [.int .u64 y57] := g57
                    refine Plan.v 16 [17] (by kernel_rfl) (by kernel_rfl) (by kernel_rfl) (by kernel_rfl) rfl (fun _ _ h_ => R.ixp (sz := ((intE .u64)).size) Try.underlying22 Try.sizeOf26 rfl rfl rfl (by first | omega | (simp; done) | (simp; omega) | (simp at *; omega)) i57 (TL.nil h_)) ?_
                    refine Plan.s1 17 [] (by kernel_rfl) (by kernel_rfl) rfl ?_
                    refine R.stEF (E := (intE .u64)) (e := 26) (v := (.slice Aa0 a0.length pa0)) (m := [.int .u64 y54]) (o := 0) (y := y57) (y' := y54) (j := ((n7l2 - 1)).toNat) Try.sizeOf26 rfl wst159 .hd i57 rfl rfl (cells1 rfl) (all_one rfl) h57 (by show 0 + 1 ≤ 1; decide) (fun l hl => by have e0 : l = [.int .u64 y57] := hl; subst e0; exact rfl) ?_
                    intro cst160 wst160
                    refine TL.nil (Plan.e0 (HLe.refl _) ?_)
                    refine Plan.done (Post.thnN ?_)
                    exact ⟨((((xPa0l1.set n7l2.toNat y50)).set (((n7l2 - 1)).toNat) y54), cst160), HLe.refl _, ⟨(Has.cons .hd Has.nil), wst160, (by subst e57; subst e56; subst e54; subst e50; rfl)⟩, rfl, rfl, rfl, rfl, rfl, trivial⟩
                  · refine R.ld Try.isAgg26 rfl rfl (by rw [← f54]; exact .hd) (k54 0 _ rfl) ?_
                    refine TL.nil (Plan.e1 (HLe.refl _) ?_)
                    refine Plan.s1 9 [14, 15, 16, 17] (by kernel_rfl) (by kernel_rfl) rfl ?_
                    refine R.ld Try.isAgg26 rfl rfl (by rw [← f50]; exact .hd) (k50 0 _ rfl) ?_
                    refine TL.nil (Plan.e1 (HLe.refl _) ?_)
                    have hl56 : n7l2.toNat < a0.length := by first | omega | (simp; done) | (simp; omega) | (simp at *; omega)
                    obtain ⟨y56, e56, h56⟩ : ∃ y, y = (xPa0l1.getD n7l2.toNat (0 : Int)) ∧ xPa0l1[n7l2.toNat]? = some y := ⟨_, rfl, getD_get (by first | exact hl56 | simpa using hl56 | (simp only [List.length_set]; omega) | omega | (rw [(sortI_perm _).length_eq]; exact hl56))⟩
                    obtain ⟨b56, u56, cs56, l56, f56, j56, i56, g56, k56⟩ := OwnS.elem (OwnS.mono wPa0l1 (s_l2.trans s_c3)) h56
                    obtain rfl : l56 = [.int .u64 y56] := g56
                    refine Plan.v 14 [15, 16, 17] (by kernel_rfl) (by kernel_rfl) (by kernel_rfl) (by kernel_rfl) rfl (fun _ _ h_ => R.ixp (sz := ((intE .u64)).size) Try.underlying22 Try.sizeOf26 rfl rfl rfl (by first | omega | (simp; done) | (simp; omega) | (simp at *; omega)) i56 (TL.nil h_)) ?_
                    refine Plan.s1 15 [16, 17] (by kernel_rfl) (by kernel_rfl) rfl ?_
                    refine R.stEF (E := (intE .u64)) (e := 26) (v := (.slice Aa0 a0.length pa0)) (m := [.int .u64 y50]) (o := 0) (y := y56) (y' := y50) (j := n7l2.toNat) Try.sizeOf26 rfl (OwnS.mono wPa0l1 (s_l2.trans s_c3)) .hd i56 rfl rfl (cells1 rfl) (all_one rfl) h56 (by show 0 + 1 ≤ 1; decide) (fun l hl => by have e0 : l = [.int .u64 y56] := hl; subst e0; exact rfl) ?_
                    intro cst161 wst161
                    refine TL.nil (Plan.e0 (HLe.refl _) ?_)
                    have hl57 : ((n7l2 - 1)).toNat < a0.length := by first | omega | (simp; done) | (simp; omega) | (simp at *; omega)
                    obtain ⟨y57, e57, h57⟩ : ∃ y, y = (((xPa0l1.set n7l2.toNat y50)).getD (((n7l2 - 1)).toNat) (0 : Int)) ∧ ((xPa0l1.set n7l2.toNat y50))[((n7l2 - 1)).toNat]? = some y := ⟨_, rfl, getD_get (by first | exact hl57 | simpa using hl57 | (simp only [List.length_set]; omega) | omega | (rw [(sortI_perm _).length_eq]; exact hl57))⟩
                    obtain ⟨b57, u57, cs57, l57, f57, j57, i57, g57, k57⟩ := OwnS.elem wst161 h57
                    obtain rfl : l57 = [.int .u64 y57] := g57
                    refine Plan.v 16 [17] (by kernel_rfl) (by kernel_rfl) (by kernel_rfl) (by kernel_rfl) rfl (fun _ _ h_ => R.ixp (sz := ((intE .u64)).size) Try.underlying22 Try.sizeOf26 rfl rfl rfl (by first | omega | (simp; done) | (simp; omega) | (simp at *; omega)) i57 (TL.nil h_)) ?_
                    refine Plan.s1 17 [] (by kernel_rfl) (by kernel_rfl) rfl ?_
                    refine R.stEF (E := (intE .u64)) (e := 26) (v := (.slice Aa0 a0.length pa0)) (m := [.int .u64 y54]) (o := 0) (y := y57) (y' := y54) (j := ((n7l2 - 1)).toNat) Try.sizeOf26 rfl wst161 .hd i57 rfl rfl (cells1 rfl) (all_one rfl) h57 (by show 0 + 1 ≤ 1; decide) (fun l hl => by have e0 : l = [.int .u64 y57] := hl; subst e0; exact rfl) ?_
                    intro cst162 wst162
                    refine TL.nil (Plan.e0 (HLe.refl _) ?_)
                    refine Plan.done (Post.thnN ?_)
                    exact ⟨((((xPa0l1.set n7l2.toNat y50)).set (((n7l2 - 1)).toNat) y54), cst162), HLe.refl _, ⟨(Has.cons .hd Has.nil), wst162, (by subst e57; subst e56; subst e54; subst e50; rfl)⟩, rfl, rfl, rfl, rfl, rfl, trivial⟩
                · intro ⟨xPa0c4, cPa0c4⟩ σ_c4 H_c4 L_c4 ds_c4 s_c4 hI_c4
                  obtain ⟨hLc4, wPa0c4, hTc4⟩ := hI_c4
                  have nPa0c4_ := OwnS.len wPa0c4
                  refine T.has hLc4 ?_
                  refine T.seq ?_
                  refine T.seq ?_
                  refine T.region ?_
                  refine R.mvE rfl (by conv => lhs; whnf) ?_
                  refine R.mvE rfl (by conv => lhs; whnf) ?_
                  refine R.subI rfl rfl rfl (by omega) ?_
                  refine R.geq rfl rfl rfl ?_
                  refine TL.nil (Post.thnN ?_)
                  refine T.cutK (ι := (List Int) × Chunk) (fun ⟨xPa0c5, cPa0c5⟩ H' L' ds' => Has L' [cPa0c5] ∧ OwnS (intE .u64) 26 H' (.slice Aa0 a0.length pa0) xPa0c5 cPa0c5 ∧ (if (2 : Int) ≤ (n7l2 - a1) then (LR.seq (slices_partialInsertionSortOrdered_Id_l6 (((n7l2 - 1)).toNat + 1) (((n7l2 - 1), xPa0c4))) (fun ol6 => ol6.2)) else xPa0c4 : (List Int)) = xPa0c5) (fun ⟨xPa0c5, cPa0c5⟩ => [(0, .slice Aa0 a0.length pa0), (1, .int .i64 a1), (2, .int .i64 a2), (7, .int .i64 n7l2), (8, .int .i64 n8l1)]) ?_ ?_
                  · refine T.condD rfl (fun c61 => ?_) (fun c61 => ?_)
                    · refine T.set 61 (.bool true) (congrArg Value.bool (decide_eq_true c61)) ?_
                      refine T.seq ?_
                      refine T.region ?_
                      refine R.mvE rfl (by conv => lhs; whnf) ?_
                      refine R.subI rfl rfl rfl (by omega) ?_
                      refine R.asE rfl (by conv => lhs; whnf) ?_
                      refine TL.nil (Post.thnN ?_)
                      refine T.block ?_
                      refine T.loop (ι := Nat × Int × (List Int) × Chunk) (fun ⟨kl6, n9l6, xPa0l6, cPa0l6⟩ H' L' ds' => n9l6.toNat < kl6 ∧ Has L' [cPa0l6] ∧ OwnS (intE .u64) 26 H' (.slice Aa0 a0.length pa0) xPa0l6 cPa0l6 ∧ 0 ≤ n9l6 ∧ n9l6 < a2 ∧ slices_partialInsertionSortOrdered_Id_l6 kl6 ((n9l6, xPa0l6)) = slices_partialInsertionSortOrdered_Id_l6 (((n7l2 - 1)).toNat + 1) (((n7l2 - 1), xPa0c4))) (fun ⟨kl6, n9l6, xPa0l6, cPa0l6⟩ => [(0, .slice Aa0 a0.length pa0), (1, .int .i64 a1), (2, .int .i64 a2), (7, .int .i64 n7l2), (8, .int .i64 n8l1), (9, .int .i64 n9l6)]) (fun ⟨kl6, n9l6, xPa0l6, cPa0l6⟩ => kl6) ((((n7l2 - 1)).toNat + 1), (n7l2 - 1), xPa0c4, cPa0c4) ?_ ?_ ?_
                      · exact ⟨(by omega), (Has.cons .hd Has.nil), wPa0c4, (by first | omega | (simp; done) | (simp; omega) | (simp at *; omega)), (by first | omega | (simp; done) | (simp; omega) | (simp at *; omega)), (by rfl)⟩
                      · exact ⟨rfl, rfl, rfl, rfl, rfl, rfl, trivial⟩
                      · intro ⟨kl6, n9l6, xPa0l6, cPa0l6⟩ σ_l6 H_l6 L_l6 ds_l6 s_l6 hI_l6
                        obtain ⟨hkl6, hI_l6⟩ := hI_l6
                        obtain ⟨ml6, rfl⟩ : ∃ m, kl6 = m + 1 := ⟨kl6 - 1, by omega⟩
                        obtain ⟨hLl6, wPa0l6, hBl6_0, hBl6_1, hQl6⟩ := hI_l6
                        have nPa0l6_ := OwnS.len wPa0l6
                        refine T.has hLl6 ?_
                        refine T.seq ?_
                        refine T.seq ?_
                        refine T.region ?_
                        refine R.mvE rfl (by conv => lhs; whnf) ?_
                        refine R.geq rfl rfl rfl ?_
                        refine TL.nil (Post.thnN ?_)
                        refine T.condD rfl (fun c65 => ?_) (fun c65 => ?_)
                        · refine T.set 65 (.bool true) (congrArg Value.bool (decide_eq_true c65)) ?_
                          refine T.skip (Post.thnN ?_)
                          refine T.seq ?_
                          refine T.block ?_
                          refine T.seq ?_
                          refine T.seq ?_
                          refine T.cutK (ι := Bool) (fun b78c7 H' L' ds' => Has L' [cPa0l6] ∧ ((!(cmp_Less_Id_m (xPa0l6.getD n9l6.toNat (0 : Int)) (xPa0l6.getD (((n9l6 - 1)).toNat) (0 : Int)))) : Bool) = b78c7) (fun b78c7 => [(0, .slice Aa0 a0.length pa0), (1, .int .i64 a1), (2, .int .i64 a2), (7, .int .i64 n7l2), (8, .int .i64 n8l1), (9, .int .i64 n9l6), (78, .bool (b78c7))]) ?_ ?_
                          · refine T.draw Try_mixed (by kernel_rfl) ?_
                            refine Plan.v 0 [1, 2, 3, 4, 5, 6, 7, 8, 9, 10] (by kernel_rfl) (by kernel_rfl) (by kernel_rfl) (by kernel_rfl) rfl (fun _ _ h_ => R.mvE rfl (by conv => lhs; whnf) (TL.nil h_)) ?_
                            refine Plan.v 1 [2, 3, 4, 5, 6, 7, 8, 9, 10] (by kernel_rfl) (by kernel_rfl) (by kernel_rfl) (by kernel_rfl) rfl (fun _ _ h_ => R.mvE rfl (by conv => lhs; whnf) (TL.nil h_)) ?_
                            have hl70 : n9l6.toNat < a0.length := by first | omega | (simp; done) | (simp; omega) | (simp at *; omega)
                            obtain ⟨y70, e70, h70⟩ : ∃ y, y = (xPa0l6.getD n9l6.toNat (0 : Int)) ∧ xPa0l6[n9l6.toNat]? = some y := ⟨_, rfl, getD_get (by first | exact hl70 | simpa using hl70 | (simp only [List.length_set]; omega) | omega | (rw [(sortI_perm _).length_eq]; exact hl70))⟩
                            obtain ⟨b70, u70, cs70, l70, f70, j70, i70, g70, k70⟩ := OwnS.elem wPa0l6 h70
                            obtain rfl : l70 = [.int .u64 y70] := g70
                            refine Plan.v 2 [3, 4, 5, 6, 7, 8, 9, 10] (by kernel_rfl) (by kernel_rfl) (by kernel_rfl) (by kernel_rfl) rfl (fun _ _ h_ => R.ixp (sz := ((intE .u64)).size) Try.underlying22 Try.sizeOf26 rfl rfl rfl (by first | omega | (simp; done) | (simp; omega) | (simp at *; omega)) i70 (TL.nil h_)) ?_
                            refine Plan.v 4 [3, 5, 6, 7, 8, 9, 10] (by kernel_rfl) (by kernel_rfl) (by kernel_rfl) (by kernel_rfl) rfl (fun _ _ h_ => R.mvE rfl (by conv => lhs; whnf) (TL.nil h_)) ?_
                            refine Plan.v 5 [3, 6, 7, 8, 9, 10] (by kernel_rfl) (by kernel_rfl) (by kernel_rfl) (by kernel_rfl) rfl (fun _ _ h_ => R.mvE rfl (by conv => lhs; whnf) (TL.nil h_)) ?_
                            refine Plan.v 6 [3, 7, 8, 9, 10] (by kernel_rfl) (by kernel_rfl) (by kernel_rfl) (by kernel_rfl) rfl (fun _ _ h_ => R.subI rfl rfl rfl (by omega) (TL.nil h_)) ?_
                            have hl75 : ((n9l6 - 1)).toNat < a0.length := by first | omega | (simp; done) | (simp; omega) | (simp at *; omega)
                            obtain ⟨y75, e75, h75⟩ : ∃ y, y = (xPa0l6.getD (((n9l6 - 1)).toNat) (0 : Int)) ∧ xPa0l6[((n9l6 - 1)).toNat]? = some y := ⟨_, rfl, getD_get (by first | exact hl75 | simpa using hl75 | (simp only [List.length_set]; omega) | omega | (rw [(sortI_perm _).length_eq]; exact hl75))⟩
                            obtain ⟨b75, u75, cs75, l75, f75, j75, i75, g75, k75⟩ := OwnS.elem wPa0l6 h75
                            obtain rfl : l75 = [.int .u64 y75] := g75
                            refine Plan.v 7 [3, 8, 9, 10] (by kernel_rfl) (by kernel_rfl) (by kernel_rfl) (by kernel_rfl) rfl (fun _ _ h_ => R.ixp (sz := ((intE .u64)).size) Try.underlying22 Try.sizeOf26 rfl rfl rfl (by first | omega | (simp; done) | (simp; omega) | (simp at *; omega)) i75 (TL.nil h_)) ?_
                            refine Plan.s2 3 8 [8, 9, 10] [3, 9, 10] (by kernel_rfl) (by kernel_rfl) (by kernel_rfl) rfl rfl ?_ ?_
                            · refine R.ld Try.isAgg26 rfl rfl (by rw [← f70]; exact .hd) (k70 0 _ rfl) ?_
                              refine TL.nil (Plan.e1 (HLe.refl _) ?_)
                              refine Plan.s1 8 [9, 10] (by kernel_rfl) (by kernel_rfl) rfl ?_
                              refine R.ld Try.isAgg26 rfl rfl (by rw [← f75]; exact .hd) (k75 0 _ rfl) ?_
                              refine TL.nil (Plan.e1 (HLe.refl _) ?_)
                              refine Plan.v 9 [10] (by kernel_rfl) (by kernel_rfl) (by kernel_rfl) (by kernel_rfl) rfl (fun _ _ h_ => R.callv rfl rfl rfl (cmp_Less_Id_c _ (y70) (y75)) (TL.nil h_)) ?_
                              refine Plan.v 10 [] (by kernel_rfl) (by kernel_rfl) (by kernel_rfl) (by kernel_rfl) rfl (fun _ _ h_ => R.not rfl rfl (TL.nil h_)) ?_
                              refine Plan.done (Post.thnN ?_)
                              exact ⟨(!(cmp_Less_Id_m y70 y75)), HLe.refl _, ⟨(Has.cons .hd Has.nil), (by subst e75; subst e70; rfl)⟩, rfl, rfl, rfl, rfl, rfl, rfl, rfl, trivial⟩
                            · refine R.ld Try.isAgg26 rfl rfl (by rw [← f75]; exact .hd) (k75 0 _ rfl) ?_
                              refine TL.nil (Plan.e1 (HLe.refl _) ?_)
                              refine Plan.s1 3 [9, 10] (by kernel_rfl) (by kernel_rfl) rfl ?_
                              refine R.ld Try.isAgg26 rfl rfl (by rw [← f70]; exact .hd) (k70 0 _ rfl) ?_
                              refine TL.nil (Plan.e1 (HLe.refl _) ?_)
                              refine Plan.v 9 [10] (by kernel_rfl) (by kernel_rfl) (by kernel_rfl) (by kernel_rfl) rfl (fun _ _ h_ => R.callv rfl rfl rfl (cmp_Less_Id_c _ (y70) (y75)) (TL.nil h_)) ?_
                              refine Plan.v 10 [] (by kernel_rfl) (by kernel_rfl) (by kernel_rfl) (by kernel_rfl) rfl (fun _ _ h_ => R.not rfl rfl (TL.nil h_)) ?_
                              refine Plan.done (Post.thnN ?_)
                              exact ⟨(!(cmp_Less_Id_m y70 y75)), HLe.refl _, ⟨(Has.cons .hd Has.nil), (by subst e75; subst e70; rfl)⟩, rfl, rfl, rfl, rfl, rfl, rfl, rfl, trivial⟩
                          · intro b78c7 σ_c7 H_c7 L_c7 ds_c7 s_c7 hI_c7
                            obtain ⟨hLc7, hTc7⟩ := hI_c7
                            refine T.has hLc7 ?_
                            refine T.cond rfl (fun c78 => ?_) (fun c78 => ?_)
                            · refine T.set 78 (.bool true) (congrArg Value.bool c78) ?_
                              have hZ78 := hTc7.trans c78
                              try simp only [or_f, or_t, and_f, and_t, decide_eq_true_eq, decide_eq_false_iff_not, Bool.not_eq_true'] at hZ78
                              refine T.exit (Post.thnE (Post.blkE rfl (Post.thnE (Post.thnE (Post.blkX ?_)))))
                              have hEl6 : slices_partialInsertionSortOrdered_Id_l6 (((n7l2 - 1)).toNat + 1) (((n7l2 - 1), xPa0c4)) = (n9l6, xPa0l6) := (by rw [← hQl6, slices_partialInsertionSortOrdered_Id_l6]; rw [if_pos c65, hTc7, LR.seq_go, if_t c78])
                              refine id (Post.thnN ?_)
                              exact ⟨(xPa0l6, cPa0l6), (s_l6.trans s_c7), ⟨(Has.cons .hd Has.nil), (OwnS.mono wPa0l6 s_c7), (by rw [if_pos c61, hEl6, LR.seq_go])⟩, rfl, rfl, rfl, rfl, rfl, trivial⟩
                            · refine T.set 78 (.bool false) (congrArg Value.bool c78) ?_
                              have hZ78 := hTc7.trans c78
                              try simp only [or_f, or_t, and_f, and_t, decide_eq_true_eq, decide_eq_false_iff_not, Bool.not_eq_true'] at hZ78
                              refine T.skip (Post.thnN ?_)
                              refine T.draw Try_mixed (by kernel_rfl) ?_
                              refine Plan.v 0 [1, 2, 3, 4, 5, 6, 7, 8, 9, 10, 11, 12, 13, 14, 15, 16, 17] (by kernel_rfl) (by kernel_rfl) (by kernel_rfl) (by kernel_rfl) rfl (fun _ _ h_ => R.mvE rfl (by conv => lhs; whnf) (TL.nil h_)) ?_
                              refine Plan.v 1 [2, 3, 4, 5, 6, 7, 8, 9, 10, 11, 12, 13, 14, 15, 16, 17] (by kernel_rfl) (by kernel_rfl) (by kernel_rfl) (by kernel_rfl) rfl (fun _ _ h_ => R.mvE rfl (by conv => lhs; whnf) (TL.nil h_)) ?_
                              refine Plan.v 2 [3, 4, 5, 6, 7, 8, 9, 10, 11, 12, 13, 14, 15, 16, 17] (by kernel_rfl) (by kernel_rfl) (by kernel_rfl) (by kernel_rfl) rfl (fun _ _ h_ => R.mvE rfl (by conv => lhs; whnf) (TL.nil h_)) ?_
                              refine Plan.v 3 [4, 5, 6, 7, 8, 9, 10, 11, 12, 13, 14, 15, 16, 17] (by kernel_rfl) (by kernel_rfl) (by kernel_rfl) (by kernel_rfl) rfl (fun _ _ h_ => R.mvE rfl (by conv => lhs; whnf) (TL.nil h_)) ?_
                              refine Plan.v 4 [5, 6, 7, 8, 9, 10, 11, 12, 13, 14, 15, 16, 17] (by kernel_rfl) (by kernel_rfl) (by kernel_rfl) (by kernel_rfl) rfl (fun _ _ h_ => R.subI rfl rfl rfl (by omega) (TL.nil h_)) ?_
                              refine Plan.v 5 [6, 7, 8, 9, 10, 11, 12, 13, 14, 15, 16, 17] (by kernel_rfl) (by kernel_rfl) (by kernel_rfl) (by kernel_rfl) rfl (fun _ _ h_ => R.mvE rfl (by conv => lhs; whnf) (TL.nil h_)) ?_
                              refine Plan.v 6 [7, 8, 9, 10, 11, 12, 13, 14, 15, 16, 17] (by kernel_rfl) (by kernel_rfl) (by kernel_rfl) (by kernel_rfl) rfl (fun _ _ h_ => R.mvE rfl (by conv => lhs; whnf) (TL.nil h_)) ?_
                              refine Plan.v 7 [8, 9, 10, 11, 12, 13, 14, 15, 16, 17] (by kernel_rfl) (by kernel_rfl) (by kernel_rfl) (by kernel_rfl) rfl (fun _ _ h_ => R.subI rfl rfl rfl (by omega) (TL.nil h_)) ?_
                              have hl87 : ((n9l6 - 1)).toNat < a0.length := by first | omega | (simp; done) | (simp; omega) | (simp at *; omega)
                              obtain ⟨y87, e87, h87⟩ : ∃ y, y = (xPa0l6.getD (((n9l6 - 1)).toNat) (0 : Int)) ∧ xPa0l6[((n9l6 - 1)).toNat]? = some y := ⟨_, rfl, getD_get (by first | exact hl87 | simpa using hl87 | (simp only [List.length_set]; omega) | omega | (rw [(sortI_perm _).length_eq]; exact hl87))⟩
                              obtain ⟨b87, u87, cs87, l87, f87, j87, i87, g87, k87⟩ := OwnS.elem (OwnS.mono wPa0l6 s_c7) h87
                              obtain rfl : l87 = [.int .u64 y87] := g87
                              refine Plan.v 8 [9, 10, 11, 12, 13, 14, 15, 16, 17] (by kernel_rfl) (by kernel_rfl) (by kernel_rfl) (by kernel_rfl) rfl (fun _ _ h_ => R.ixp (sz := ((intE .u64)).size) Try.underlying22 Try.sizeOf26 rfl rfl rfl (by first | omega | (simp; done) | (simp; omega) | (simp at *; omega)) i87 (TL.nil h_)) ?_
                              refine Plan.v 10 [9, 11, 12, 13, 14, 15, 16, 17] (by kernel_rfl) (by kernel_rfl) (by kernel_rfl) (by kernel_rfl) rfl (fun _ _ h_ => R.mvE rfl (by conv => lhs; whnf) (TL.nil h_)) ?_
                              refine Plan.v 11 [9, 12, 13, 14, 15, 16, 17] (by kernel_rfl) (by kernel_rfl) (by kernel_rfl) (by kernel_rfl) rfl (fun _ _ h_ => R.mvE rfl (by conv => lhs; whnf) (TL.nil h_)) ?_
                              have hl91 : n9l6.toNat < a0.length := by first | omega | (simp; done) | (simp; omega) | (simp at *; omega)
                              obtain ⟨y91, e91, h91⟩ : ∃ y, y = (xPa0l6.getD n9l6.toNat (0 : Int)) ∧ xPa0l6[n9l6.toNat]? = some y := ⟨_, rfl, getD_get (by first | exact hl91 | simpa using hl91 | (simp only [List.length_set]; omega) | omega | (rw [(sortI_perm _).length_eq]; exact hl91))⟩
                              obtain ⟨b91, u91, cs91, l91, f91, j91, i91, g91, k91⟩ := OwnS.elem (OwnS.mono wPa0l6 s_c7) h91
                              obtain rfl : l91 = [.int .u64 y91] := g91
                              refine Plan.v 12 [9, 13, 14, 15, 16, 17] (by kernel_rfl) (by kernel_rfl) (by kernel_rfl) (by kernel_rfl) rfl (fun _ _ h_ => R.ixp (sz := ((intE .u64)).size) Try.underlying22 Try.sizeOf26 rfl rfl rfl (by first | omega | (simp; done) | (simp; omega) | (simp at *; omega)) i91 (TL.nil h_)) ?_
                              refine Plan.s2 9 13 [13, 14, 15, 16, 17] [9, 14, 15, 16, 17] (by kernel_rfl) (by kernel_rfl) (by kernel_rfl) rfl rfl ?_ ?_
                              · refine R.ld Try.isAgg26 rfl rfl (by rw [← f87]; exact .hd) (k87 0 _ rfl) ?_
                                refine TL.nil (Plan.e1 (HLe.refl _) ?_)
                                refine Plan.s1 13 [14, 15, 16, 17] (by kernel_rfl) (by kernel_rfl) rfl ?_
                                refine R.ld Try.isAgg26 rfl rfl (by rw [← f91]; exact .hd) (k91 0 _ rfl) ?_
                                refine TL.nil (Plan.e1 (HLe.refl _) ?_)
                                have hl93 : n9l6.toNat < a0.length := by first | omega | (simp; done) | (simp; omega) | (simp at *; omega)
                                obtain ⟨y93, e93, h93⟩ : ∃ y, y = (xPa0l6.getD n9l6.toNat (0 : Int)) ∧ xPa0l6[n9l6.toNat]? = some y := ⟨_, rfl, getD_get (by first | exact hl93 | simpa using hl93 | (simp only [List.length_set]; omega) | omega | (rw [(sortI_perm _).length_eq]; exact hl93))⟩
                                obtain ⟨b93, u93, cs93, l93, f93, j93, i93, g93, k93⟩ := OwnS.elem (OwnS.mono wPa0l6 s_c7) h93
                                obtain rfl : l93 = [.int .u64 y93] := g93
                                refine Plan.v 14 [15, 16, 17] (by kernel_rfl) (by kernel_rfl) (by kernel_rfl) (by kernel_rfl) rfl (fun _ _ h_ => R.ixp (sz := ((intE .u64)).size) Try.underlying22 Try.sizeOf26 rfl rfl rfl (by first | omega | (simp; done) | (simp; omega) | (simp at *; omega)) i93 (TL.nil h_)) ?_
                                refine Plan.s1 15 [16, 17] (by kernel_rfl) (by kernel_rfl) rfl ?_
                                refine R.stEF (E := (intE .u64)) (e := 26) (v := (.slice Aa0 a0.length pa0)) (m := [.int .u64 y87]) (o := 0) (y := y93) (y' := y87) (j := n9l6.toNat) Try.sizeOf26 rfl (OwnS.mono wPa0l6 s_c7) .hd i93 rfl rfl (cells1 rfl) (all_one rfl) h93 (by show 0 + 1 ≤ 1; decide) (fun l hl => by have e0 : l = [.int .u64 y93] := hl; subst e0; exact rfl) ?_
                                intro cst163 wst163
                                refine TL.nil (Plan.e0 (HLe.refl _) ?_)
                                have hl94 : ((n9l6 - 1)).toNat < a0.length := by first | omega | (simp; done) | (simp; omega) | (simp at *; omega)
                                obtain ⟨y94, e94, h94⟩ : ∃ y, y = (((xPa0l6.set n9l6.toNat y87)).getD (((n9l6 - 1)).toNat) (0 : Int)) ∧ ((xPa0l6.set n9l6.toNat y87))[((n9l6 - 1)).toNat]? = some y := ⟨_, rfl, getD_get (by first | exact hl94 | simpa using hl94 | (simp only [List.length_set]; omega) | omega | (rw [(sortI_perm _).length_eq]; exact hl94))⟩
                                obtain ⟨b94, u94, cs94, l94, f94, j94, i94, g94, k94⟩ := OwnS.elem wst163 h94
                                obtain rfl : l94 = [.int .u64 y94] := g94
                                refine Plan.v 16 [17] (by kernel_rfl) (by kernel_rfl) (by kernel_rfl) (by kernel_rfl) rfl (fun _ _ h_ => R.ixp (sz := ((intE .u64)).size) Try.underlying22 Try.sizeOf26 rfl rfl rfl (by first | omega | (simp; done) | (simp; omega) | (simp at *; omega)) i94 (TL.nil h_)) ?_
                                refine Plan.s1 17 [] (by kernel_rfl) (by kernel_rfl) rfl ?_
                                refine R.stEF (E := (intE .u64)) (e := 26) (v := (.slice Aa0 a0.length pa0)) (m := [.int .u64 y91]) (o := 0) (y := y94) (y' := y91) (j := ((n9l6 - 1)).toNat) Try.sizeOf26 rfl wst163 .hd i94 rfl rfl (cells1 rfl) (all_one rfl) h94 (by show 0 + 1 ≤ 1; decide) (fun l hl => by have e0 : l = [.int .u64 y94] := hl; subst e0; exact rfl) ?_
                                intro cst164 wst164
                                refine TL.nil (Plan.e0 (HLe.refl _) ?_)
                                refine Plan.done (Post.blkN ?_)
                                refine id (Post.thnN ?_)
                                refine T.region ?_
                                refine R.mvE rfl (by conv => lhs; whnf) ?_
                                refine R.subI rfl rfl rfl (by omega) ?_
                                refine R.asE rfl (by conv => lhs; whnf) ?_
                                refine TL.nil (Post.thnN ?_)
                                exact ⟨(ml6, (n9l6 - 1), (((xPa0l6.set n9l6.toNat y87)).set (((n9l6 - 1)).toNat) y91), cst164), (s_l6.trans s_c7), ⟨(by first | omega | (simp; omega) | (simp at *; omega)), (Has.cons .hd Has.nil), wst164, (by first | omega | (simp; done) | (simp; omega) | (simp at *; omega)), (by first | omega | (simp; done) | (simp; omega) | (simp at *; omega)), (by subst e94; subst e93; subst e91; subst e87; rw [← hQl6, slices_partialInsertionSortOrdered_Id_l6]; rw [if_pos c65, hTc7, LR.seq_go, if_f c78])⟩, by show ml6 < ml6 + 1; omega, rfl, rfl, rfl, rfl, rfl, rfl, trivial⟩
                              · refine R.ld Try.isAgg26 rfl rfl (by rw [← f91]; exact .hd) (k91 0 _ rfl) ?_
                                refine TL.nil (Plan.e1 (HLe.refl _) ?_)
                                refine Plan.s1 9 [14, 15, 16, 17] (by kernel_rfl) (by kernel_rfl) rfl ?_
                                refine R.ld Try.isAgg26 rfl rfl (by rw [← f87]; exact .hd) (k87 0 _ rfl) ?_
                                refine TL.nil (Plan.e1 (HLe.refl _) ?_)
                                have hl93 : n9l6.toNat < a0.length := by first | omega | (simp; done) | (simp; omega) | (simp at *; omega)
                                obtain ⟨y93, e93, h93⟩ : ∃ y, y = (xPa0l6.getD n9l6.toNat (0 : Int)) ∧ xPa0l6[n9l6.toNat]? = some y := ⟨_, rfl, getD_get (by first | exact hl93 | simpa using hl93 | (simp only [List.length_set]; omega) | omega | (rw [(sortI_perm _).length_eq]; exact hl93))⟩
                                obtain ⟨b93, u93, cs93, l93, f93, j93, i93, g93, k93⟩ := OwnS.elem (OwnS.mono wPa0l6 s_c7) h93
                                obtain rfl : l93 = [.int .u64 y93] := g93
                                refine Plan.v 14 [15, 16, 17] (by kernel_rfl) (by kernel_rfl) (by kernel_rfl) (by kernel_rfl) rfl (fun _ _ h_ => R.ixp (sz := ((intE .u64)).size) Try.underlying22 Try.sizeOf26 rfl rfl rfl (by first | omega | (simp; done) | (simp; omega) | (simp at *; omega)) i93 (TL.nil h_)) ?_
                                refine Plan.s1 15 [16, 17] (by kernel_rfl) (by kernel_rfl) rfl ?_
                                refine R.stEF (E := (intE .u64)) (e := 26) (v := (.slice Aa0 a0.length pa0)) (m := [.int .u64 y87]) (o := 0) (y := y93) (y' := y87) (j := n9l6.toNat) Try.sizeOf26 rfl (OwnS.mono wPa0l6 s_c7) .hd i93 rfl rfl (cells1 rfl) (all_one rfl) h93 (by show 0 + 1 ≤ 1; decide) (fun l hl => by have e0 : l = [.int .u64 y93] := hl; subst e0; exact rfl) ?_
                                intro cst165 wst165
                                refine TL.nil (Plan.e0 (HLe.refl _) ?_)
                                have hl94 : ((n9l6 - 1)).toNat < a0.length := by first | omega | (simp; done) | (simp; omega) | (simp at *; omega)
                                obtain ⟨y94, e94, h94⟩ : ∃ y, y = (((xPa0l6.set n9l6.toNat y87)).getD (((n9l6 - 1)).toNat) (0 : Int)) ∧ ((xPa0l6.set n9l6.toNat y87))[((n9l6 - 1)).toNat]? = some y := ⟨_, rfl, getD_get (by first | exact hl94 | simpa using hl94 | (simp only [List.length_set]; omega) | omega | (rw [(sortI_perm _).length_eq]; exact hl94))⟩
                                obtain ⟨b94, u94, cs94, l94, f94, j94, i94, g94, k94⟩ := OwnS.elem wst165 h94
                                obtain rfl : l94 = [.int .u64 y94] := g94
                                refine Plan.v 16 [17] (by kernel_rfl) (by kernel_rfl) (by kernel_rfl) (by kernel_rfl) rfl (fun _ _ h_ => R.ixp (sz := ((intE .u64)).size) Try.underlying22 Try.sizeOf26 rfl rfl rfl (by first | omega | (simp; done) | (simp; omega) | (simp at *; omega)) i94 (TL.nil h_)) ?_
                                refine Plan.s1 17 [] (by kernel_rfl) (by kernel_rfl) rfl ?_
                                refine R.stEF (E := (intE .u64)) (e := 26) (v := (.slice Aa0 a0.length pa0)) (m := [.int .u64 y91]) (o := 0) (y := y94) (y' := y91) (j := ((n9l6 - 1)).toNat) Try.sizeOf26 rfl wst165 .hd i94 rfl rfl (cells1 rfl) (all_one rfl) h94 (by show 0 + 1 ≤ 1; decide) (fun l hl => by have e0 : l = [.int .u64 y94] := hl; subst e0; exact rfl) ?_
                                intro cst166 wst166
                                refine TL.nil (Plan.e0 (HLe.refl _) ?_)
                                refine Plan.done (Post.blkN ?_)
                                refine id (Post.thnN ?_)
                                refine T.region ?_
                                refine R.mvE rfl (by conv => lhs; whnf) ?_
                                refine R.subI rfl rfl rfl (by omega) ?_
                                refine R.asE rfl (by conv => lhs; whnf) ?_
                                refine TL.nil (Post.thnN ?_)
                                exact ⟨(ml6, (n9l6 - 1), (((xPa0l6.set n9l6.toNat y87)).set (((n9l6 - 1)).toNat) y91), cst166), (s_l6.trans s_c7), ⟨(by first | omega | (simp; omega) | (simp at *; omega)), (Has.cons .hd Has.nil), wst166, (by first | omega | (simp; done) | (simp; omega) | (simp at *; omega)), (by first | omega | (simp; done) | (simp; omega) | (simp at *; omega)), (by subst e94; subst e93; subst e91; subst e87; rw [← hQl6, slices_partialInsertionSortOrdered_Id_l6]; rw [if_pos c65, hTc7, LR.seq_go, if_f c78])⟩, by show ml6 < ml6 + 1; omega, rfl, rfl, rfl, rfl, rfl, rfl, trivial⟩
                        · refine T.set 65 (.bool false) (congrArg Value.bool (decide_eq_false c65)) ?_
                          refine T.exit (Post.thnE (Post.thnE (Post.blkX ?_)))
                          have hEl6 : slices_partialInsertionSortOrdered_Id_l6 (((n7l2 - 1)).toNat + 1) (((n7l2 - 1), xPa0c4)) = (n9l6, xPa0l6) := (by rw [← hQl6, slices_partialInsertionSortOrdered_Id_l6]; rw [if_neg c65])
                          refine id (Post.thnN ?_)
                          exact ⟨(xPa0l6, cPa0l6), s_l6, ⟨(Has.cons .hd Has.nil), wPa0l6, (by rw [if_pos c61, hEl6, LR.seq_go])⟩, rfl, rfl, rfl, rfl, rfl, trivial⟩
                    · refine T.set 61 (.bool false) (congrArg Value.bool (decide_eq_false c61)) ?_
                      refine T.skip (Post.thnN ?_)
                      exact ⟨(xPa0c4, cPa0c4), HLe.refl _, ⟨(Has.cons .hd Has.nil), wPa0c4, (by rw [if_neg c61])⟩, rfl, rfl, rfl, rfl, rfl, trivial⟩
                  · intro ⟨xPa0c5, cPa0c5⟩ σ_c5 H_c5 L_c5 ds_c5 s_c5 hI_c5
                    obtain ⟨hLc5, wPa0c5, hTc5⟩ := hI_c5
                    have nPa0c5_ := OwnS.len wPa0c5
                    refine T.has hLc5 ?_
                    refine T.seq ?_
                    refine T.region ?_
                    refine R.mvE rfl (by conv => lhs; whnf) ?_
                    refine R.mvE rfl (by conv => lhs; whnf) ?_
                    refine R.subI rfl rfl rfl (by omega) ?_
                    refine R.geq rfl rfl rfl ?_
                    refine TL.nil (Post.thnN ?_)
                    refine T.condD rfl (fun c98 => ?_) (fun c98 => ?_)
                    · refine T.set 98 (.bool true) (congrArg Value.bool (decide_eq_true c98)) ?_
                      refine T.seq ?_
                      refine T.region ?_
                      refine R.mvE rfl (by conv => lhs; whnf) ?_
                      refine R.addI rfl rfl rfl (by omega) ?_
                      refine R.asE rfl (by conv => lhs; whnf) ?_
                      refine TL.nil (Post.thnN ?_)
                      refine T.block ?_
                      refine T.loop (ι := Nat × Int × (List Int) × Chunk) (fun ⟨kl8, n10l8, xPa0l8, cPa0l8⟩ H' L' ds' => (a2 - n10l8).toNat < kl8 ∧ Has L' [cPa0l8] ∧ OwnS (intE .u64) 26 H' (.slice Aa0 a0.length pa0) xPa0l8 cPa0l8 ∧ a1 + 1 ≤ n10l8 ∧ n10l8 ≤ a2 ∧ slices_partialInsertionSortOrdered_Id_l8 a2 kl8 ((n10l8, xPa0l8)) = slices_partialInsertionSortOrdered_Id_l8 a2 ((a2 - ((n7l2 + 1))).toNat + 1) (((n7l2 + 1), xPa0c5))) (fun ⟨kl8, n10l8, xPa0l8, cPa0l8⟩ => [(0, .slice Aa0 a0.length pa0), (1, .int .i64 a1), (2, .int .i64 a2), (7, .int .i64 n7l2), (8, .int .i64 n8l1), (10, .int .i64 n10l8)]) (fun ⟨kl8, n10l8, xPa0l8, cPa0l8⟩ => kl8) (((a2 - ((n7l2 + 1))).toNat + 1), (n7l2 + 1), xPa0c5, cPa0c5) ?_ ?_ ?_
                      · exact ⟨(by omega), (Has.cons .hd Has.nil), wPa0c5, (by first | omega | (simp; done) | (simp; omega) | (simp at *; omega)), (by first | omega | (simp; done) | (simp; omega) | (simp at *; omega)), (by rfl)⟩
                      · exact ⟨rfl, rfl, rfl, rfl, rfl, rfl, trivial⟩
                      · intro ⟨kl8, n10l8, xPa0l8, cPa0l8⟩ σ_l8 H_l8 L_l8 ds_l8 s_l8 hI_l8
                        obtain ⟨hkl8, hI_l8⟩ := hI_l8
                        obtain ⟨ml8, rfl⟩ : ∃ m, kl8 = m + 1 := ⟨kl8 - 1, by omega⟩
                        obtain ⟨hLl8, wPa0l8, hBl8_0, hBl8_1, hQl8⟩ := hI_l8
                        have nPa0l8_ := OwnS.len wPa0l8
                        refine T.has hLl8 ?_
                        refine T.seq ?_
                        refine T.seq ?_
                        refine T.region ?_
                        refine R.mvE rfl (by conv => lhs; whnf) ?_
                        refine R.mvE rfl (by conv => lhs; whnf) ?_
                        refine R.lss rfl rfl rfl ?_
                        refine TL.nil (Post.thnN ?_)
                        refine T.condD rfl (fun c103 => ?_) (fun c103 => ?_)
                        · refine T.set 103 (.bool true) (congrArg Value.bool (decide_eq_true c103)) ?_
                          refine T.skip (Post.thnN ?_)
                          refine T.seq ?_
                          refine T.block ?_
                          refine T.seq ?_
                          refine T.seq ?_
                          refine T.cutK (ι := Bool) (fun b116c9 H' L' ds' => Has L' [cPa0l8] ∧ ((!(cmp_Less_Id_m (xPa0l8.getD n10l8.toNat (0 : Int)) (xPa0l8.getD (((n10l8 - 1)).toNat) (0 : Int)))) : Bool) = b116c9) (fun b116c9 => [(0, .slice Aa0 a0.length pa0), (1, .int .i64 a1), (2, .int .i64 a2), (7, .int .i64 n7l2), (8, .int .i64 n8l1), (10, .int .i64 n10l8), (116, .bool (b116c9))]) ?_ ?_
                          · refine T.draw Try_mixed (by kernel_rfl) ?_
                            refine Plan.v 0 [1, 2, 3, 4, 5, 6, 7, 8, 9, 10] (by kernel_rfl) (by kernel_rfl) (by kernel_rfl) (by kernel_rfl) rfl (fun _ _ h_ => R.mvE rfl (by conv => lhs; whnf) (TL.nil h_)) ?_
                            refine Plan.v 1 [2, 3, 4, 5, 6, 7, 8, 9, 10] (by kernel_rfl) (by kernel_rfl) (by kernel_rfl) (by kernel_rfl) rfl (fun _ _ h_ => R.mvE rfl (by conv => lhs; whnf) (TL.nil h_)) ?_
                            have hl108 : n10l8.toNat < a0.length := by first | omega | (simp; done) | (simp; omega) | (simp at *; omega)
                            obtain ⟨y108, e108, h108⟩ : ∃ y, y = (xPa0l8.getD n10l8.toNat (0 : Int)) ∧ xPa0l8[n10l8.toNat]? = some y := ⟨_, rfl, getD_get (by first | exact hl108 | simpa using hl108 | (simp only [List.length_set]; omega) | omega | (rw [(sortI_perm _).length_eq]; exact hl108))⟩
                            obtain ⟨b108, u108, cs108, l108, f108, j108, i108, g108, k108⟩ := OwnS.elem wPa0l8 h108
                            obtain rfl : l108 = [.int .u64 y108] := g108
                            refine Plan.v 2 [3, 4, 5, 6, 7, 8, 9, 10] (by kernel_rfl) (by kernel_rfl) (by kernel_rfl) (by kernel_rfl) rfl (fun _ _ h_ => R.ixp (sz := ((intE .u64)).size) Try.underlying22 Try.sizeOf26 rfl rfl rfl (by first | omega | (simp; done) | (simp; omega) | (simp at *; omega)) i108 (TL.nil h_)) ?_
                            refine Plan.v 4 [3, 5, 6, 7, 8, 9, 10] (by kernel_rfl) (by kernel_rfl) (by kernel_rfl) (by kernel_rfl) rfl (fun _ _ h_ => R.mvE rfl (by conv => lhs; whnf) (TL.nil h_)) ?_
                            refine Plan.v 5 [3, 6, 7, 8, 9, 10] (by kernel_rfl) (by kernel_rfl) (by kernel_rfl) (by kernel_rfl) rfl (fun _ _ h_ => R.mvE rfl (by conv => lhs; whnf) (TL.nil h_)) ?_
                            refine Plan.v 6 [3, 7, 8, 9, 10] (by kernel_rfl) (by kernel_rfl) (by kernel_rfl) (by kernel_rfl) rfl (fun _ _ h_ => R.subI rfl rfl rfl (by omega) (TL.nil h_)) ?_
                            have hl113 : ((n10l8 - 1)).toNat < a0.length := by first | omega | (simp; done) | (simp; omega) | (simp at *; omega)
                            obtain ⟨y113, e113, h113⟩ : ∃ y, y = (xPa0l8.getD (((n10l8 - 1)).toNat) (0 : Int)) ∧ xPa0l8[((n10l8 - 1)).toNat]? = some y := ⟨_, rfl, getD_get (by first | exact hl113 | simpa using hl113 | (simp only [List.length_set]; omega) | omega | (rw [(sortI_perm _).length_eq]; exact hl113))⟩
                            obtain ⟨b113, u113, cs113, l113, f113, j113, i113, g113, k113⟩ := OwnS.elem wPa0l8 h113
                            obtain rfl : l113 = [.int .u64 y113] := g113
                            refine Plan.v 7 [3, 8, 9, 10] (by kernel_rfl) (by kernel_rfl) (by kernel_rfl) (by kernel_rfl) rfl (fun _ _ h_ => R.ixp (sz := ((intE .u64)).size) Try.underlying22 Try.sizeOf26 rfl rfl rfl (by first | omega | (simp; done) | (simp; omega) | (simp at *; omega)) i113 (TL.nil h_)) ?_
                            refine Plan.s2 3 8 [8, 9, 10] [3, 9, 10] (by kernel_rfl) (by kernel_rfl) (by kernel_rfl) rfl rfl ?_ ?_
                            · refine R.ld Try.isAgg26 rfl rfl (by rw [← f108]; exact .hd) (k108 0 _ rfl) ?_
                              refine TL.nil (Plan.e1 (HLe.refl _) ?_)
                              refine Plan.s1 8 [9, 10] (by kernel_rfl) (by kernel_rfl) rfl ?_
                              refine R.ld Try.isAgg26 rfl rfl (by rw [← f113]; exact .hd) (k113 0 _ rfl) ?_
                              refine TL.nil (Plan.e1 (HLe.refl _) ?_)
                              refine Plan.v 9 [10] (by kernel_rfl) (by kernel_rfl) (by kernel_rfl) (by kernel_rfl) rfl (fun _ _ h_ => R.callv rfl rfl rfl (cmp_Less_Id_c _ (y108) (y113)) (TL.nil h_)) ?_
                              refine Plan.v 10 [] (by kernel_rfl) (by kernel_rfl) (by kernel_rfl) (by kernel_rfl) rfl (fun _ _ h_ => R.not rfl rfl (TL.nil h_)) ?_
                              refine Plan.done (Post.thnN ?_)
                              exact ⟨(!(cmp_Less_Id_m y108 y113)), HLe.refl _, ⟨(Has.cons .hd Has.nil), (by subst e113; subst e108; rfl)⟩, rfl, rfl, rfl, rfl, rfl, rfl, rfl, trivial⟩
                            · refine R.ld Try.isAgg26 rfl rfl (by rw [← f113]; exact .hd) (k113 0 _ rfl) ?_
                              refine TL.nil (Plan.e1 (HLe.refl _) ?_)
                              refine Plan.s1 3 [9, 10] (by kernel_rfl) (by kernel_rfl) rfl ?_
                              refine R.ld Try.isAgg26 rfl rfl (by rw [← f108]; exact .hd) (k108 0 _ rfl) ?_
                              refine TL.nil (Plan.e1 (HLe.refl _) ?_)
                              refine Plan.v 9 [10] (by kernel_rfl) (by kernel_rfl) (by kernel_rfl) (by kernel_rfl) rfl (fun _ _ h_ => R.callv rfl rfl rfl (cmp_Less_Id_c _ (y108) (y113)) (TL.nil h_)) ?_
                              refine Plan.v 10 [] (by kernel_rfl) (by kernel_rfl) (by kernel_rfl) (by kernel_rfl) rfl (fun _ _ h_ => R.not rfl rfl (TL.nil h_)) ?_
                              refine Plan.done (Post.thnN ?_)
                              exact ⟨(!(cmp_Less_Id_m y108 y113)), HLe.refl _, ⟨(Has.cons .hd Has.nil), (by subst e113; subst e108; rfl)⟩, rfl, rfl, rfl, rfl, rfl, rfl, rfl, trivial⟩
                          · intro b116c9 σ_c9 H_c9 L_c9 ds_c9 s_c9 hI_c9
                            obtain ⟨hLc9, hTc9⟩ := hI_c9
                            refine T.has hLc9 ?_
                            refine T.cond rfl (fun c116 => ?_) (fun c116 => ?_)
                            · refine T.set 116 (.bool true) (congrArg Value.bool c116) ?_
                              have hZ116 := hTc9.trans c116
                              try simp only [or_f, or_t, and_f, and_t, decide_eq_true_eq, decide_eq_false_iff_not, Bool.not_eq_true'] at hZ116
                              refine T.exit (Post.thnE (Post.blkE rfl (Post.thnE (Post.thnE (Post.blkX ?_)))))
                              have hEl8 : slices_partialInsertionSortOrdered_Id_l8 a2 ((a2 - ((n7l2 + 1))).toNat + 1) (((n7l2 + 1), xPa0c5)) = (n10l8, xPa0l8) := (by rw [← hQl8, slices_partialInsertionSortOrdered_Id_l8]; rw [if_pos c103, hTc9, LR.seq_go, if_t c116])
                              refine id (Post.blkN ?_)
                              refine id (Post.thnN ?_)
                              refine T.region ?_
                              refine R.mvE rfl (by conv => lhs; whnf) ?_
                              refine R.addI rfl rfl rfl (by omega) ?_
                              refine R.asE rfl (by conv => lhs; whnf) ?_
                              refine TL.nil (Post.thnN ?_)
                              exact ⟨(ml1, n7l2, (n8l1 + 1), xPa0l8, cPa0l8), (s_l1.trans (s_l2.trans (s_c3.trans (s_c4.trans (s_c5.trans (s_l8.trans s_c9)))))), ⟨(by first | omega | (simp; omega) | (simp at *; omega)), (Has.cons .hd Has.nil), (OwnS.mono wPa0l8 s_c9), (by first | omega | (simp; done) | (simp; omega) | (simp at *; omega)), (by first | omega | (simp; done) | (simp; omega) | (simp at *; omega)), (by first | omega | (simp; done) | (simp; omega) | (simp at *; omega)), (by first | omega | (simp; done) | (simp; omega) | (simp at *; omega)), (by rw [← hQl1, slices_partialInsertionSortOrdered_Id_l1]; rw [if_pos c14, hEl2, LR.seq_go, if_neg c37, if_neg c41, hTc4, LR.seq_go, hTc5, LR.seq_go, if_pos c98, hEl8, LR.seq_go])⟩, by show ml1 < ml1 + 1; omega, rfl, rfl, rfl, rfl, rfl, trivial⟩
                            · refine T.set 116 (.bool false) (congrArg Value.bool c116) ?_
                              have hZ116 := hTc9.trans c116
                              try simp only [or_f, or_t, and_f, and_t, decide_eq_true_eq, decide_eq_false_iff_not, Bool.not_eq_true'] at hZ116
                              refine T.skip (Post.thnN ?_)
                              refine T.draw Try_mixed (by kernel_rfl) ?_
                              refine Plan.v 0 [1, 2, 3, 4, 5, 6, 7, 8, 9, 10, 11, 12, 13, 14, 15, 16, 17] (by kernel_rfl) (by kernel_rfl) (by kernel_rfl) (by kernel_rfl) rfl (fun _ _ h_ => R.mvE rfl (by conv => lhs; whnf) (TL.nil h_)) ?_
                              refine Plan.v 1 [2, 3, 4, 5, 6, 7, 8, 9, 10, 11, 12, 13, 14, 15, 16, 17] (by kernel_rfl) (by kernel_rfl) (by kernel_rfl) (by kernel_rfl) rfl (fun _ _ h_ => R.mvE rfl (by conv => lhs; whnf) (TL.nil h_)) ?_
                              refine Plan.v 2 [3, 4, 5, 6, 7, 8, 9, 10, 11, 12, 13, 14, 15, 16, 17] (by kernel_rfl) (by kernel_rfl) (by kernel_rfl) (by kernel_rfl) rfl (fun _ _ h_ => R.mvE rfl (by conv => lhs; whnf) (TL.nil h_)) ?_
                              refine Plan.v 3 [4, 5, 6, 7, 8, 9, 10, 11, 12, 13, 14, 15, 16, 17] (by kernel_rfl) (by kernel_rfl) (by kernel_rfl) (by kernel_rfl) rfl (fun _ _ h_ => R.mvE rfl (by conv => lhs; whnf) (TL.nil h_)) ?_
                              refine Plan.v 4 [5, 6, 7, 8, 9, 10, 11, 12, 13, 14, 15, 16, 17] (by kernel_rfl) (by kernel_rfl) (by kernel_rfl) (by kernel_rfl) rfl (fun _ _ h_ => R.subI rfl rfl rfl (by omega) (TL.nil h_)) ?_
                              refine Plan.v 5 [6, 7, 8, 9, 10, 11, 12, 13, 14, 15, 16, 17] (by kernel_rfl) (by kernel_rfl) (by kernel_rfl) (by kernel_rfl) rfl (fun _ _ h_ => R.mvE rfl (by conv => lhs; whnf) (TL.nil h_)) ?_
                              refine Plan.v 6 [7, 8, 9, 10, 11, 12, 13, 14, 15, 16, 17] (by kernel_rfl) (by kernel_rfl) (by kernel_rfl) (by kernel_rfl) rfl (fun _ _ h_ => R.mvE rfl (by conv => lhs; whnf) (TL.nil h_)) ?_
                              refine Plan.v 7 [8, 9, 10, 11, 12, 13, 14, 15, 16, 17] (by kernel_rfl) (by kernel_rfl) (by kernel_rfl) (by kernel_rfl) rfl (fun _ _ h_ => R.subI rfl rfl rfl (by omega) (TL.nil h_)) ?_
                              have hl125 : ((n10l8 - 1)).toNat < a0.length := by first | omega | (simp; done) | (simp; omega) | (simp at *; omega)
                              obtain ⟨y125, e125, h125⟩ : ∃ y, y = (xPa0l8.getD (((n10l8 - 1)).toNat) (0 : Int)) ∧ xPa0l8[((n10l8 - 1)).toNat]? = some y := ⟨_, rfl, getD_get (by first | exact hl125 | simpa using hl125 | (simp only [List.length_set]; omega) | omega | (rw [(sortI_perm _).length_eq]; exact hl125))⟩
                              obtain ⟨b125, u125, cs125, l125, f125, j125, i125, g125, k125⟩ := OwnS.elem (OwnS.mono wPa0l8 s_c9) h125
                              obtain rfl : l125 = [.int .u64 y125] := g125
                              refine Plan.v 8 [9, 10, 11, 12, 13, 14, 15, 16, 17] (by kernel_rfl) (by kernel_rfl) (by kernel_rfl) (by kernel_rfl) rfl (fun _ _ h_ => R.ixp (sz := ((intE .u64)).size) Try.underlying22 Try.sizeOf26 rfl rfl rfl (by first | omega | (simp; done) | (simp; omega) | (simp at *; omega)) i125 (TL.nil h_)) ?_
                              refine Plan.v 10 [9, 11, 12, 13, 14, 15, 16, 17] (by kernel_rfl) (by kernel_rfl) (by kernel_rfl) (by kernel_rfl) rfl (fun _ _ h_ => R.mvE rfl (by conv => lhs; whnf) (TL.nil h_)) ?_
                              refine Plan.v 11 [9, 12, 13, 14, 15, 16, 17] (by kernel_rfl) (by kernel_rfl) (by kernel_rfl) (by kernel_rfl) rfl (fun _ _ h_ => R.mvE rfl (by conv => lhs; whnf) (TL.nil h_)) ?_
                              have hl129 : n10l8.toNat < a0.length := by first | omega | (simp; done) | (simp; omega) | (simp at *; omega)
                              obtain ⟨y129, e129, h129⟩ : ∃ y, y = (xPa0l8.getD n10l8.toNat (0 : Int)) ∧ xPa0l8[n10l8.toNat]? = some y := ⟨_, rfl, getD_get (by first | exact hl129 | simpa using hl129 | (simp only [List.length_set]; omega) | omega | (rw [(sortI_perm _).length_eq]; exact hl129))⟩
                              obtain ⟨b129, u129, cs129, l129, f129, j129, i129, g129, k129⟩ := OwnS.elem (OwnS.mono wPa0l8 s_c9) h129
                              obtain rfl : l129 = [.int .u64 y129] := g129
                              refine Plan.v 12 [9, 13, 14, 15, 16, 17] (by kernel_rfl) (by kernel_rfl) (by kernel_rfl) (by kernel_rfl) rfl (fun _ _ h_ => R.ixp (sz := ((intE .u64)).size) Try.underlying22 Try.sizeOf26 rfl rfl rfl (by first | omega | (simp; done) | (simp; omega) | (simp at *; omega)) i129 (TL.nil h_)) ?_
                              refine Plan.s2 9 13 [13, 14, 15, 16, 17] [9, 14, 15, 16, 17] (by kernel_rfl) (by kernel_rfl) (by kernel_rfl) rfl rfl ?_ ?_
                              · refine R.ld Try.isAgg26 rfl rfl (by rw [← f125]; exact .hd) (k125 0 _ rfl) ?_
                                refine TL.nil (Plan.e1 (HLe.refl _) ?_)
                                refine Plan.s1 13 [14, 15, 16, 17] (by kernel_rfl) (by kernel_rfl) rfl ?_
                                refine R.ld Try.isAgg26 rfl rfl (by rw [← f129]; exact .hd) (k129 0 _ rfl) ?_
                                refine TL.nil (Plan.e1 (HLe.refl _) ?_)
                                have hl131 : n10l8.toNat < a0.length := by first | omega | (simp; done) | (simp; omega) | (simp at *; omega)
                                obtain ⟨y131, e131, h131⟩ : ∃ y, y = (xPa0l8.getD n10l8.toNat (0 : Int)) ∧ xPa0l8[n10l8.toNat]? = some y := ⟨_, rfl, getD_get (by first | exact hl131 | simpa using hl131 | (simp only [List.length_set]; omega) | omega | (rw [(sortI_perm _).length_eq]; exact hl131))⟩
                                obtain ⟨b131, u131, cs131, l131, f131, j131, i131, g131, k131⟩ := OwnS.elem (OwnS.mono wPa0l8 s_c9) h131
                                obtain rfl : l131 = [.int .u64 y131] := g131
                                refine Plan.v 14 [15, 16, 17] (by kernel_rfl) (by kernel_rfl) (by kernel_rfl) (by kernel_rfl) rfl (fun _ _ h_ => R.ixp (sz := ((intE .u64)).size) Try.underlying22 Try.sizeOf26 rfl rfl rfl (by first | omega | (simp; done) | (simp; omega) | (simp at *; omega)) i131 (TL.nil h_)) ?_
                                refine Plan.s1 15 [16, 17] (by kernel_rfl) (by kernel_rfl) rfl ?_
                                refine R.stEF (E := (intE .u64)) (e := 26) (v := (.slice Aa0 a0.length pa0)) (m := [.int .u64 y125]) (o := 0) (y := y131) (y' := y125) (j := n10l8.toNat) Try.sizeOf26 rfl (OwnS.mono wPa0l8 s_c9) .hd i131 rfl rfl (cells1 rfl) (all_one rfl) h131 (by show 0 + 1 ≤ 1; decide) (fun l hl => by have e0 : l = [.int .u64 y131] := hl; subst e0; exact rfl) ?_
                                intro cst167 wst167
                                refine TL.nil (Plan.e0 (HLe.refl _) ?_)
                                have hl132 : ((n10l8 - 1)).toNat < a0.length := by first | omega | (simp; done) | (simp; omega) | (simp at *; omega)
                                obtain ⟨y132, e132, h132⟩ : ∃ y, y = (((xPa0l8.set n10l8.toNat y125)).getD (((n10l8 - 1)).toNat) (0 : Int)) ∧ ((xPa0l8.set n10l8.toNat y125))[((n10l8 - 1)).toNat]? = some y := ⟨_, rfl, getD_get (by first | exact hl132 | simpa using hl132 | (simp only [List.length_set]; omega) | omega | (rw [(sortI_perm _).length_eq]; exact hl132))⟩
                                obtain ⟨b132, u132, cs132, l132, f132, j132, i132, g132, k132⟩ := OwnS.elem wst167 h132
                                obtain rfl : l132 = [.int .u64 y132] := g132
                                refine Plan.v 16 [17] (by kernel_rfl) (by kernel_rfl) (by kernel_rfl) (by kernel_rfl) rfl (fun _ _ h_ => R.ixp (sz := ((intE .u64)).size) Try.underlying22 Try.sizeOf26 rfl rfl rfl (by first | omega | (simp; done) | (simp; omega) | (simp at *; omega)) i132 (TL.nil h_)) ?_
                                refine Plan.s1 17 [] (by kernel_rfl) (by kernel_rfl) rfl ?_
                                refine R.stEF (E := (intE .u64)) (e := 26) (v := (.slice Aa0 a0.length pa0)) (m := [.int .u64 y129]) (o := 0) (y := y132) (y' := y129) (j := ((n10l8 - 1)).toNat) Try.sizeOf26 rfl wst167 .hd i132 rfl rfl (cells1 rfl) (all_one rfl) h132 (by show 0 + 1 ≤ 1; decide) (fun l hl => by have e0 : l = [.int .u64 y132] := hl; subst e0; exact rfl) ?_
                                intro cst168 wst168
                                refine TL.nil (Plan.e0 (HLe.refl _) ?_)
                                refine Plan.done (Post.blkN ?_)
                                refine id (Post.thnN ?_)
                                refine T.region ?_
                                refine R.mvE rfl (by conv => lhs; whnf) ?_
                                refine R.addI rfl rfl rfl (by omega) ?_
                                refine R.asE rfl (by conv => lhs; whnf) ?_
                                refine TL.nil (Post.thnN ?_)
                                exact ⟨(ml8, (n10l8 + 1), (((xPa0l8.set n10l8.toNat y125)).set (((n10l8 - 1)).toNat) y129), cst168), (s_l8.trans s_c9), ⟨(by first | omega | (simp; omega) | (simp at *; omega)), (Has.cons .hd Has.nil), wst168, (by first | omega | (simp; done) | (simp; omega) | (simp at *; omega)), (by first | omega | (simp; done) | (simp; omega) | (simp at *; omega)), (by subst e132; subst e131; subst e129; subst e125; rw [← hQl8, slices_partialInsertionSortOrdered_Id_l8]; rw [if_pos c103, hTc9, LR.seq_go, if_f c116])⟩, by show ml8 < ml8 + 1; omega, rfl, rfl, rfl, rfl, rfl, rfl, trivial⟩
                              · refine R.ld Try.isAgg26 rfl rfl (by rw [← f129]; exact .hd) (k129 0 _ rfl) ?_
                                refine TL.nil (Plan.e1 (HLe.refl _) ?_)
                                refine Plan.s1 9 [14, 15, 16, 17] (by kernel_rfl) (by kernel_rfl) rfl ?_
                                refine R.ld Try.isAgg26 rfl rfl (by rw [← f125]; exact .hd) (k125 0 _ rfl) ?_
                                refine TL.nil (Plan.e1 (HLe.refl _) ?_)
                                have hl131 : n10l8.toNat < a0.length := by first | omega | (simp; done) | (simp; omega) | (simp at *; omega)
                                obtain ⟨y131, e131, h131⟩ : ∃ y, y = (xPa0l8.getD n10l8.toNat (0 : Int)) ∧ xPa0l8[n10l8.toNat]? = some y := ⟨_, rfl, getD_get (by first | exact hl131 | simpa using hl131 | (simp only [List.length_set]; omega) | omega | (rw [(sortI_perm _).length_eq]; exact hl131))⟩
                                obtain ⟨b131, u131, cs131, l131, f131, j131, i131, g131, k131⟩ := OwnS.elem (OwnS.mono wPa0l8 s_c9) h131
                                obtain rfl : l131 = [.int .u64 y131] := g131
                                refine Plan.v 14 [15, 16, 17] (by kernel_rfl) (by kernel_rfl) (by kernel_rfl) (by kernel_rfl) rfl (fun _ _ h_ => R.ixp (sz := ((intE .u64)).size) Try.underlying22 Try.sizeOf26 rfl rfl rfl (by first | omega | (simp; done) | (simp; omega) | (simp at *; omega)) i131 (TL.nil h_)) ?_
                                refine Plan.s1 15 [16, 17] (by kernel_rfl) (by kernel_rfl) rfl ?_
                                refine R.stEF (E := (intE .u64)) (e := 26) (v := (.slice Aa0 a0.length pa0)) (m := [.int .u64 y125]) (o := 0) (y := y131) (y' := y125) (j := n10l8.toNat) Try.sizeOf26 rfl (OwnS.mono wPa0l8 s_c9) .hd i131 rfl rfl (cells1 rfl) (all_one rfl) h131 (by show 0 + 1 ≤ 1; decide) (fun l hl => by have e0 : l = [.int .u64 y131] := hl; subst e0; exact rfl) ?_
                                intro cst169 wst169
                                refine TL.nil (Plan.e0 (HLe.refl _) ?_)
                                have hl132 : ((n10l8 - 1)).toNat < a0.length := by first | omega | (simp; done) | (simp; omega) | (simp at *; omega)
                                obtain ⟨y132, e132, h132⟩ : ∃ y, y = (((xPa0l8.set n10l8.toNat y125)).getD (((n10l8 - 1)).toNat) (0 : Int)) ∧ ((xPa0l8.set n10l8.toNat y125))[((n10l8 - 1)).toNat]? = some y := ⟨_, rfl, getD_get (by first | exact hl132 | simpa using hl132 | (simp only [List.length_set]; omega) | omega | (rw [(sortI_perm _).length_eq]; exact hl132))⟩
                                obtain ⟨b132, u132, cs132, l132, f132, j132, i132, g132, k132⟩ := OwnS.elem wst169 h132
                                obtain rfl : l132 = [.int .u64 y132] := g132
                                refine Plan.v 16 [17] (by kernel_rfl) (by kernel_rfl) (by kernel_rfl) (by kernel_rfl) rfl (fun _ _ h_ => R.ixp (sz := ((intE .u64)).size) Try.underlying22 Try.sizeOf26 rfl rfl rfl (by first | omega | (simp; done) | (simp; omega) | (simp at *; omega)) i132 (TL.nil h_)) ?_
                                refine Plan.s1 17 [] (by kernel_rfl) (by kernel_rfl) rfl ?_
                                refine R.stEF (E := (intE .u64)) (e := 26) (v := (.slice Aa0 a0.length pa0)) (m := [.int .u64 y129]) (o := 0) (y := y132) (y' := y129) (j := ((n10l8 - 1)).toNat) Try.sizeOf26 rfl wst169 .hd i132 rfl rfl (cells1 rfl) (all_one rfl) h132 (by show 0 + 1 ≤ 1; decide) (fun l hl => by have e0 : l = [.int .u64 y132] := hl; subst e0; exact rfl) ?_
                                intro cst170 wst170
                                refine TL.nil (Plan.e0 (HLe.refl _) ?_)
                                refine Plan.done (Post.blkN ?_)
                                refine id (Post.thnN ?_)
                                refine T.region ?_
                                refine R.mvE rfl (by conv => lhs; whnf) ?_
                                refine R.addI rfl rfl rfl (by omega) ?_
                                refine R.asE rfl (by conv => lhs; whnf) ?_
                                refine TL.nil (Post.thnN ?_)
                                exact ⟨(ml8, (n10l8 + 1), (((xPa0l8.set n10l8.toNat y125)).set (((n10l8 - 1)).toNat) y129), cst170), (s_l8.trans s_c9), ⟨(by first | omega | (simp; omega) | (simp at *; omega)), (Has.cons .hd Has.nil), wst170, (by first | omega | (simp; done) | (simp; omega) | (simp at *; omega)), (by first | omega | (simp; done) | (simp; omega) | (simp at *; omega)), (by subst e132; subst e131; subst e129; subst e125; rw [← hQl8, slices_partialInsertionSortOrdered_Id_l8]; rw [if_pos c103, hTc9, LR.seq_go, if_f c116])⟩, by show ml8 < ml8 + 1; omega, rfl, rfl, rfl, rfl, rfl, rfl, trivial⟩
                        · refine T.set 103 (.bool false) (congrArg Value.bool (decide_eq_false c103)) ?_
                          refine T.exit (Post.thnE (Post.thnE (Post.blkX ?_)))
                          have hEl8 : slices_partialInsertionSortOrdered_Id_l8 a2 ((a2 - ((n7l2 + 1))).toNat + 1) (((n7l2 + 1), xPa0c5)) = (n10l8, xPa0l8) := (by rw [← hQl8, slices_partialInsertionSortOrdered_Id_l8]; rw [if_neg c103])
                          refine id (Post.blkN ?_)
                          refine id (Post.thnN ?_)
                          refine T.region ?_
                          refine R.mvE rfl (by conv => lhs; whnf) ?_
                          refine R.addI rfl rfl rfl (by omega) ?_
                          refine R.asE rfl (by conv => lhs; whnf) ?_
                          refine TL.nil (Post.thnN ?_)
                          exact ⟨(ml1, n7l2, (n8l1 + 1), xPa0l8, cPa0l8), (s_l1.trans (s_l2.trans (s_c3.trans (s_c4.trans (s_c5.trans s_l8))))), ⟨(by first | omega | (simp; omega) | (simp at *; omega)), (Has.cons .hd Has.nil), wPa0l8, (by first | omega | (simp; done) | (simp; omega) | (simp at *; omega)), (by first | omega | (simp; done) | (simp; omega) | (simp at *; omega)), (by first | omega | (simp; done) | (simp; omega) | (simp at *; omega)), (by first | omega | (simp; done) | (simp; omega) | (simp at *; omega)), (by rw [← hQl1, slices_partialInsertionSortOrdered_Id_l1]; rw [if_pos c14, hEl2, LR.seq_go, if_neg c37, if_neg c41, hTc4, LR.seq_go, hTc5, LR.seq_go, if_pos c98, hEl8, LR.seq_go])⟩, by show ml1 < ml1 + 1; omega, rfl, rfl, rfl, rfl, rfl, trivial⟩
                    · refine T.set 98 (.bool false) (congrArg Value.bool (decide_eq_false c98)) ?_
                      refine T.skip (Post.blkN ?_)
                      refine id (Post.thnN ?_)
                      refine T.region ?_
                      refine R.mvE rfl (by conv => lhs; whnf) ?_
                      refine R.addI rfl rfl rfl (by omega) ?_
                      refine R.asE rfl (by conv => lhs; whnf) ?_
                      refine TL.nil (Post.thnN ?_)
                      exact ⟨(ml1, n7l2, (n8l1 + 1), xPa0c5, cPa0c5), (s_l1.trans (s_l2.trans (s_c3.trans (s_c4.trans s_c5)))), ⟨(by first | omega | (simp; omega) | (simp at *; omega)), (Has.cons .hd Has.nil), wPa0c5, (by first | omega | (simp; done) | (simp; omega) | (simp at *; omega)), (by first | omega | (simp; done) | (simp; omega) | (simp at *; omega)), (by first | omega | (simp; done) | (simp; omega) | (simp at *; omega)), (by first | omega | (simp; done) | (simp; omega) | (simp at *; omega)), (by rw [← hQl1, slices_partialInsertionSortOrdered_Id_l1]; rw [if_pos c14, hEl2, LR.seq_go, if_neg c37, if_neg c41, hTc4, LR.seq_go, hTc5, LR.seq_go, if_neg c98])⟩, by show ml1 < ml1 + 1; omega, rfl, rfl, rfl, rfl, rfl, trivial⟩
    · refine T.set 14 (.bool false) (congrArg Value.bool (decide_eq_false c14)) ?_
      refine T.exit (Post.thnE (Post.thnE (Post.blkX ?_)))
      have hEl1 : slices_partialInsertionSortOrdered_Id_l1 a1 a2 ((5 - 0 : Int).toNat + 1) (((a1 + 1), 0, a0)) = .go ((n7l1, n8l1, xPa0l1)) := (by rw [← hQl1, slices_partialInsertionSortOrdered_Id_l1]; rw [if_neg c14])
      refine id (Post.thnN ?_)
      refine T.seq ?_
      refine T.region ?_
      refine R.asE rfl (by conv => lhs; whnf) ?_
      refine TL.nil (Post.thnN ?_)
      refine T.has (Has.cons .hd Has.nil) ?_
      refine T.ret ?_
      have hM : slices_partialInsertionSortOrdered_Id_m a0 a1 a2 = (false, xPa0l1) := by rw [slices_partialInsertionSortOrdered_Id_m, hEl1, LR.on_go]
      exact fin1L (v := .bool false) [cPa0l1] rfl rfl (List.Sublist.refl _) ⟨cPa0l1, by first | rw [hM] | rfl, by first | rw [hM] | rfl, by rw [hM]; exact wPa0l1⟩

end Go.SX

set_option linter.unusedVariables false
set_option linter.unusedSimpArgs false
namespace Go.SX
open Go
theorem so_less (x y : Int) : cmp_Less_Id_m x y = Sort.ltInt x y := by
  unfold cmp_Less_Id_m cmp_isNaN_Id_m Sort.ltInt; simp
theorem so_get (xs : List Int) (i : Nat) : xs.toArray[i]! = xs.getD i 0 := by
  simp [getElem!_def, List.getD_eq_getElem?_getD]
  cases xs[i]? <;> rfl
def sw (xs : List Int) (i j : Nat) : List Int := (xs.set i (xs.getD j 0)).set j (xs.getD i 0)
theorem so_swp (xs : List Int) (i j : Nat) : Sort.swp xs.toArray i j = (sw xs i j).toArray := by
  unfold Sort.swp sw; rw [so_get, so_get]; simp
theorem tn1 (j : Nat) : (((j + 1 : Nat) : Int) - 1).toNat = j := by omega
theorem tn1i (j : Nat) : (((j + 1 : Nat) : Int) - 1) = (j : Int) := by omega
theorem so_ifd (p : Prop) [Decidable p] (b : Bool) : (if p then b else false) = (decide p && b) := by by_cases h : p <;> simp [h]
theorem so_lt (i b : Nat) : decide ((i : Int) < (b : Int)) = decide (i < b) := by rw [decide_eq_decide]; omega
theorem so_le (i b : Nat) : decide ((i : Int) ≤ (b : Int)) = decide (i ≤ b) := by rw [decide_eq_decide]; omega
theorem so_ins_in (a : Nat) : ∀ (j m : Nat) (xs : List Int), j < a + m → 0 < m → (slices_insertionSortOrdered_Id_l2 (a : Int) m ((j : Int), xs)).2 = (Sort.insInner Sort.ltInt a j xs.toArray).toList
  | j, 0, xs, _, h => absurd h (Nat.lt_irrefl _)
  | 0, m + 1, xs, _, _ => by
    simp only [slices_insertionSortOrdered_Id_l2, LR.seq_go]
    rw [if_neg (by omega : ¬ (a : Int) < ((0 : Nat) : Int)), if_neg Bool.false_ne_true, Sort.insInner]
  | j + 1, m + 1, xs, h, _ => by
    simp only [slices_insertionSortOrdered_Id_l2, LR.seq_go, Sort.insInner, so_get, so_less, tn1, tn1i, Int.toNat_natCast, so_swp]
    by_cases ha : a < j + 1
    · rw [if_pos (show (a : Int) < ((j + 1 : Nat) : Int) by omega), decide_eq_true (show j + 1 > a from ha), Bool.true_and]
      cases Sort.ltInt (xs.getD (j + 1) 0) (xs.getD j 0) with
      | true => rw [if_pos rfl, if_pos rfl]; exact so_ins_in a j m (sw xs (j + 1) j) (by omega) (by omega)
      | false => rw [if_neg Bool.false_ne_true, if_neg Bool.false_ne_true]
    · rw [if_neg (show ¬ (a : Int) < ((j + 1 : Nat) : Int) by omega), decide_eq_false (show ¬ j + 1 > a from ha), Bool.false_and, if_neg Bool.false_ne_true, if_neg Bool.false_ne_true]
theorem so_ins_out (a b : Nat) : ∀ (k i m : Nat) (xs : List Int), b - i ≤ k → k < m → a ≤ i → (slices_insertionSortOrdered_Id_l1 (a : Int) (b : Int) m ((i : Int), xs)).2 = (Sort.insOuter Sort.ltInt a b i xs.toArray).toList
  | k, i, 0, xs, _, h, _ => by omega
  | k, i, m + 1, xs, h1, h2, h3 => by
    simp only [slices_insertionSortOrdered_Id_l1, LR.seq_go]
    rw [Sort.insOuter]
    by_cases hb : i < b
    · rw [if_pos (show (i : Int) < (b : Int) by omega), if_pos hb, so_ins_in a i _ xs (by omega) (by omega)]
      cases k with
      | zero => omega
      | succ k =>
        have := so_ins_out a b k (i + 1) m (Sort.insInner Sort.ltInt a i xs.toArray).toList (by omega) (by omega) (by omega)
        rw [Array.toArray_toList] at this
        exact this
    · rw [if_neg (show ¬ (i : Int) < (b : Int) by omega), if_neg hb]
theorem so_ins (xs : List Int) (a b : Nat) : slices_insertionSortOrdered_Id_m xs (a : Int) (b : Int) = (Sort.insertionSort Sort.ltInt xs.toArray a b).toList := by
  unfold slices_insertionSortOrdered_Id_m Sort.insertionSort
  rw [LR.seq_go]
  exact so_ins_out a b (b - (a + 1)) (a + 1) _ xs (Nat.le_refl _) (by omega) (by omega)
theorem so_sift_l (hi first : Nat) : ∀ (k root m : Nat) (xs : List Int), hi - root ≤ k → k < m → LR.on (slices_siftDownOrdered_Id_l1 (hi : Int) (first : Int) m ((root : Int), xs)) (fun r => r) (fun o => o.2) = (Sort.siftDown Sort.ltInt hi first root xs.toArray).toList
  | k, root, 0, xs, _, h => by omega
  | k, root, m + 1, xs, h1, h2 => by
    simp only [slices_siftDownOrdered_Id_l1, LR.seq_go]
    rw [Sort.siftDown]
    by_cases hc : 2 * root + 1 ≥ hi
    · rw [if_pos (show (hi : Int) ≤ 2 * (root : Int) + 1 by omega), dif_pos hc, LR.on_go]
    rw [if_neg (show ¬ (hi : Int) ≤ 2 * (root : Int) + 1 by omega), dif_neg hc]
    simp only [so_get, so_less, so_swp]
    have e1 : ((first : Int) + (2 * (root : Int) + 1)).toNat = first + (2 * root + 1) := by omega
    have e2 : ((first : Int) + (2 * (root : Int) + 1) + 1).toNat = first + (2 * root + 1) + 1 := by omega
    have e3 : ((first : Int) + (root : Int)).toNat = first + root := by omega
    rw [e1, e2, e3]
    have key : ∀ c : Nat, root < c → c < hi → LR.on (if (!(Sort.ltInt (xs.getD (first + root) 0) (xs.getD ((first : Int) + (c : Int)).toNat 0))) = true then LR.ret xs else slices_siftDownOrdered_Id_l1 (hi : Int) (first : Int) m ((c : Int), (xs.set (first + root) (xs.getD ((first : Int) + (c : Int)).toNat 0)).set ((first : Int) + (c : Int)).toNat (xs.getD (first + root) 0))) (fun r => r) (fun o => o.2)
        = (if (!(Sort.ltInt (xs.getD (first + root) 0) (xs.getD (first + c) 0))) = true then xs.toArray else Sort.siftDown Sort.ltInt hi first c (sw xs (first + root) (first + c)).toArray).toList := fun c hc1 hc2 => by
      rw [show ((first : Int) + (c : Int)).toNat = first + c by omega]
      cases Sort.ltInt (xs.getD (first + root) 0) (xs.getD (first + c) 0) with
      | false => rfl
      | true =>
        rw [if_neg (by decide), if_neg (by decide)]
        cases k with
        | zero => omega
        | succ k => exact so_sift_l hi first k c m (sw xs (first + root) (first + c)) (by omega) (by omega)
    have hb : (if 2 * (root : Int) + 1 + 1 < (hi : Int) then Sort.ltInt (xs.getD (first + (2 * root + 1)) 0) (xs.getD (first + (2 * root + 1) + 1) 0) else false) = (decide (2 * root + 1 + 1 < hi) && Sort.ltInt (xs.getD (first + (2 * root + 1)) 0) (xs.getD (first + (2 * root + 1) + 1) 0)) := by
      by_cases h : 2 * root + 1 + 1 < hi
      · rw [if_pos (by omega), decide_eq_true h, Bool.true_and]
      · rw [if_neg (by omega), decide_eq_false h, Bool.false_and]
    rw [hb]
    by_cases hx : (decide (2 * root + 1 + 1 < hi) && Sort.ltInt (xs.getD (first + (2 * root + 1)) 0) (xs.getD (first + (2 * root + 1) + 1) 0)) = true
    · rw [hx, if_pos rfl, if_pos rfl]
      have hlt : 2 * root + 1 + 1 < hi := of_decide_eq_true (Bool.and_eq_true_iff.1 hx).1
      have := key (2 * root + 2) (by omega) (by omega)
      rw [show (((2 * root + 2 : Nat) : Int)) = 2 * (root : Int) + 1 + 1 by omega] at this
      rw [this]
      split
      · rfl
      · first | rfl | rw [dif_pos (show 2 * root + 2 < hi by omega)]
    · rw [Bool.eq_false_iff.2 hx, if_neg Bool.false_ne_true, if_neg Bool.false_ne_true]
      have := key (2 * root + 1) (by omega) (by omega)
      rw [show (((2 * root + 1 : Nat) : Int)) = 2 * (root : Int) + 1 by omega] at this
      exact this
theorem so_sift (xs : List Int) (lo hi first : Nat) : slices_siftDownOrdered_Id_m xs (lo : Int) (hi : Int) (first : Int) = (Sort.siftDown Sort.ltInt hi first lo xs.toArray).toList := by
  unfold slices_siftDownOrdered_Id_m
  exact so_sift_l hi first (hi - lo) lo _ xs (Nat.le_refl _) (by omega)
theorem so_build (a b : Nat) (hab : a ≤ b) : ∀ (k m : Nat) (xs : List Int), k < m → (slices_heapSortOrdered_Id_l1 (a : Int) (b : Int) m ((k : Int) - 1, xs)).2 = (Sort.heapBuild Sort.ltInt (b - a) a k xs.toArray).toList
  | k, 0, xs, h => by omega
  | 0, m + 1, xs, h => by
    simp only [slices_heapSortOrdered_Id_l1]
    rw [if_neg (by omega), Sort.heapBuild]
  | k + 1, m + 1, xs, h => by
    simp only [slices_heapSortOrdered_Id_l1, LR.seq_go, tn1i]
    rw [if_pos (by omega), Sort.heapBuild, show (b : Int) - (a : Int) = ((b - a : Nat) : Int) by omega, so_sift]
    have := so_build a b hab k m (Sort.siftDown Sort.ltInt (b - a) a k xs.toArray).toList (by omega)
    rw [Array.toArray_toList] at this
    exact this
theorem so_pop (a : Nat) : ∀ (k m : Nat) (xs : List Int), k < m → (slices_heapSortOrdered_Id_l2 (a : Int) m ((k : Int) - 1, xs)).2 = (Sort.heapPop Sort.ltInt a k xs.toArray).toList
  | k, 0, xs, h => by omega
  | 0, m + 1, xs, h => by
    simp only [slices_heapSortOrdered_Id_l2]
    rw [if_neg (by omega), Sort.heapPop]
  | k + 1, m + 1, xs, h => by
    simp only [slices_heapSortOrdered_Id_l2, LR.seq_go, tn1i, Int.toNat_natCast]
    rw [if_pos (by omega), Sort.heapPop, show ((a : Int) + (k : Int)).toNat = a + k by omega, show (0 : Int) = ((0 : Nat) : Int) from rfl, so_sift, so_swp]
    have := so_pop a k m (Sort.siftDown Sort.ltInt k a 0 (sw xs a (a + k)).toArray).toList (by omega)
    rw [Array.toArray_toList] at this
    exact this
theorem so_heap (xs : List Int) (a b : Nat) (hab : a < b) : slices_heapSortOrdered_Id_m xs (a : Int) (b : Int) = (Sort.heapSort Sort.ltInt xs.toArray a b).toList := by
  unfold slices_heapSortOrdered_Id_m Sort.heapSort
  rw [LR.seq_go, LR.seq_go]
  have e1 : ((b : Int) - (a : Int) - 1) / 2 = (((b - a - 1) / 2 + 1 : Nat) : Int) - 1 := by omega
  have e2 : (b : Int) - (a : Int) - 1 = ((b - a : Nat) : Int) - 1 := by omega
  rw [e1, so_build a b (by omega) _ _ xs (by omega), e2]
  have := so_pop a (b - a) ((((b - a : Nat) : Int) - 1 + 1).toNat + 1) (Sort.heapBuild Sort.ltInt (b - a) a ((b - a - 1) / 2 + 1) xs.toArray).toList (by omega)
  rw [Array.toArray_toList] at this
  exact this
theorem so_rev_l : ∀ (k i j m : Nat) (xs : List Int), j - i ≤ k → k < m → (slices_reverseRangeOrdered_Id_l1 m ((i : Int), (j : Int), xs)).2.2 = (Sort.reverseLoop i j xs.toArray).toList
  | k, i, j, 0, xs, _, h => by omega
  | k, i, j, m + 1, xs, h1, h2 => by
    simp only [slices_reverseRangeOrdered_Id_l1, LR.seq_go, Int.toNat_natCast]
    rw [Sort.reverseLoop]
    by_cases h : i < j
    · rw [if_pos (by omega), if_pos h, so_swp, show (j : Int) - 1 = ((j - 1 : Nat) : Int) by omega]
      cases k with
      | zero => omega
      | succ k => exact so_rev_l k (i + 1) (j - 1) m (sw xs i j) (by omega) (by omega)
    · rw [if_neg (by omega), if_neg h]
theorem so_rev (xs : List Int) (a b : Nat) (hab : a < b) : slices_reverseRangeOrdered_Id_m xs (a : Int) (b : Int) = (Sort.reverseRange xs.toArray a b).toList := by
  unfold slices_reverseRangeOrdered_Id_m Sort.reverseRange
  rw [LR.seq_go, show (b : Int) - 1 = ((b - 1 : Nat) : Int) by omega]
  exact so_rev_l (b - 1 - a) a (b - 1) _ xs (Nat.le_refl _) (by omega)
end Go.SX

set_option linter.unusedVariables false
set_option linter.unusedSimpArgs false
namespace Go.SX
open Go Go.Proofs

def slices_partitionEqualOrdered_Id_l5 (a1 : Int) (n9l3 : Int) (xPa0l2 : List Int) : Nat → Int → Int
  | 0, _ => default
  | ml5 + 1, sl5 => LR.seq (if n9l3 ≤ sl5 then ((cmp_Less_Id_m (xPa0l2.getD a1.toNat (0 : Int)) (xPa0l2.getD sl5.toNat (0 : Int)))) else false : Bool) (fun sc6 => if sc6 = true then (slices_partitionEqualOrdered_Id_l5 a1 n9l3 xPa0l2 ml5 ((sl5 - 1))) else sl5)
def slices_partitionEqualOrdered_Id_l3 (a1 : Int) (n10l2 : Int) (xPa0l2 : List Int) : Nat → Int → Int
  | 0, _ => default
  | ml3 + 1, sl3 => LR.seq (if sl3 ≤ n10l2 then ((!(cmp_Less_Id_m (xPa0l2.getD a1.toNat (0 : Int)) (xPa0l2.getD sl3.toNat (0 : Int))))) else false : Bool) (fun sc4 => if sc4 = true then (slices_partitionEqualOrdered_Id_l3 a1 n10l2 xPa0l2 ml3 ((sl3 + 1))) else sl3)
def slices_partitionEqualOrdered_Id_l2 (a1 : Int) : Nat → (Int × Int × (List Int)) → Int × (List Int)
  | 0, _ => default
  | ml2 + 1, sl2 => LR.seq (slices_partitionEqualOrdered_Id_l3 a1 sl2.2.1 sl2.2.2 ((sl2.2.1 - sl2.1 + 1).toNat + 1) sl2.1) (fun ol3 => LR.seq (slices_partitionEqualOrdered_Id_l5 a1 ol3 sl2.2.2 ((sl2.2.1 - ol3 + 1).toNat + 1) sl2.2.1) (fun ol5 => if ol5 < ol3 then ((ol3, sl2.2.2)) else (LR.seq ((((sl2.2.2.set ol3.toNat (sl2.2.2.getD ol5.toNat (0 : Int)))).set ol5.toNat (sl2.2.2.getD ol3.toNat (0 : Int))) : (List Int)) (fun sc8 => slices_partitionEqualOrdered_Id_l2 a1 ml2 (((ol3 + 1), (ol5 - 1), sc8))))))
def slices_partitionEqualOrdered_Id_m (a0 : List Int) (a1 : Int) (a2 : Int) (a3 : Int) : Int × (List Int) :=
  LR.seq ((((a0.set a1.toNat (a0.getD a3.toNat (0 : Int)))).set a3.toNat (a0.getD a1.toNat (0 : Int))) : (List Int)) (fun sc1 => LR.seq (LR.seq (slices_partitionEqualOrdered_Id_l2 a1 ((((a2 - 1)) - ((a1 + 1)) + 2).toNat + 1) (((a1 + 1), (a2 - 1), sc1))) (fun ol2 => ol2) : Int × (List Int)) (fun sc7 => (sc7.1, sc7.2)))
set_option maxHeartbeats 3200000 in
theorem slices_partitionEqualOrdered_Id_c (H : Heap) (va0 : Value) (a0 : List Int) (Ca0 : Chunk) (ha0 : OwnS (intE .u64) 26 H va0 a0 Ca0) (a1 : Int) (a2 : Int) (a3 : Int) (h1 : 0 ≤ a1) (h2 : a1 ≤ a3) (h3 : a3 < a2) (h4 : a2 ≤ (a0.length : Int)) (hl : a0.length ≤ 4000000) : Fc Try.prog (fnv 116) [va0, .int .i64 a1, .int .i64 a2, .int .i64 a3] H [Ca0] (fun v' H' L' => ∃ Da0, v' = .int .i64 (slices_partitionEqualOrdered_Id_m a0 a1 a2 a3).1 ∧ L' = [Da0] ∧ OwnS (intE .u64) 26 H' va0 (slices_partitionEqualOrdered_Id_m a0 a1 a2 a3).2 Da0) := by
  refine Fc.of_body (N := 84) Try.func116 rfl (by kernel_rfl) rfl rfl ?_
  intro w0
  obtain ⟨Aa0, pa0, rfl, ma0, na0⟩ := OwnS.shape ha0
  refine T.seq ?_
  refine T.region ?_
  refine R.asE rfl (by conv => lhs; whnf) ?_
  refine TL.nil (Post.thnN ?_)
  refine T.seq ?_
  refine T.cutK (ι := (List Int) × Chunk) (fun ⟨xPa0c1, cPa0c1⟩ H' L' ds' => Has L' [cPa0c1] ∧ OwnS (intE .u64) 26 H' (.slice Aa0 a0.length pa0) xPa0c1 cPa0c1 ∧ ((((a0.set a1.toNat (a0.getD a3.toNat (0 : Int)))).set a3.toNat (a0.getD a1.toNat (0 : Int))) : (List Int)) = xPa0c1) (fun ⟨xPa0c1, cPa0c1⟩ => [(0, .slice Aa0 a0.length pa0), (1, .int .i64 a1), (2, .int .i64 a2)]) ?_ ?_
  · refine T.draw Try_mixed (by kernel_rfl) ?_
    refine Plan.v 0 [1, 2, 3, 4, 5, 6, 7, 8, 9, 10, 11, 12, 13, 14, 15] (by kernel_rfl) (by kernel_rfl) (by kernel_rfl) (by kernel_rfl) rfl (fun _ _ h_ => R.mvE rfl (by conv => lhs; whnf) (TL.nil h_)) ?_
    refine Plan.v 1 [2, 3, 4, 5, 6, 7, 8, 9, 10, 11, 12, 13, 14, 15] (by kernel_rfl) (by kernel_rfl) (by kernel_rfl) (by kernel_rfl) rfl (fun _ _ h_ => R.mvE rfl (by conv => lhs; whnf) (TL.nil h_)) ?_
    refine Plan.v 2 [3, 4, 5, 6, 7, 8, 9, 10, 11, 12, 13, 14, 15] (by kernel_rfl) (by kernel_rfl) (by kernel_rfl) (by kernel_rfl) rfl (fun _ _ h_ => R.mvE rfl (by conv => lhs; whnf) (TL.nil h_)) ?_
    refine Plan.v 3 [4, 5, 6, 7, 8, 9, 10, 11, 12, 13, 14, 15] (by kernel_rfl) (by kernel_rfl) (by kernel_rfl) (by kernel_rfl) rfl (fun _ _ h_ => R.mvE rfl (by conv => lhs; whnf) (TL.nil h_)) ?_
    refine Plan.v 4 [5, 6, 7, 8, 9, 10, 11, 12, 13, 14, 15] (by kernel_rfl) (by kernel_rfl) (by kernel_rfl) (by kernel_rfl) rfl (fun _ _ h_ => R.mvE rfl (by conv => lhs; whnf) (TL.nil h_)) ?_
    refine Plan.v 5 [6, 7, 8, 9, 10, 11, 12, 13, 14, 15] (by kernel_rfl) (by kernel_rfl) (by kernel_rfl) (by kernel_rfl) rfl (fun _ _ h_ => R.mvE rfl (by conv => lhs; whnf) (TL.nil h_)) ?_
    have hl17 : a3.toNat < a0.length := by first | omega | (simp; done) | (simp; omega) | (simp at *; omega)
    obtain ⟨y17, e17, h17⟩ : ∃ y, y = (a0.getD a3.toNat (0 : Int)) ∧ a0[a3.toNat]? = some y := ⟨_, rfl, getD_get (by first | exact hl17 | simpa using hl17 | (simp only [List.length_set]; omega) | omega | (rw [(sortI_perm _).length_eq]; exact hl17))⟩
    obtain ⟨b17, u17, cs17, l17, f17, j17, i17, g17, k17⟩ := OwnS.elem ha0 h17
    obtain rfl : l17 = [.int .u64 y17] := g17
    refine Plan.v 6 [7, 8, 9, 10, 11, 12, 13, 14, 15] (by kernel_rfl) (by kernel_rfl) (by kernel_rfl) (by kernel_rfl) rfl (fun _ _ h_ => R.ixp (sz := ((intE .u64)).size) Try.underlying22 Try.sizeOf26 rfl rfl rfl (by first | omega | (simp; done) | (simp; omega) | (simp at *; omega)) i17 (TL.nil h_)) ?_
    refine Plan.v 8 [7, 9, 10, 11, 12, 13, 14, 15] (by kernel_rfl) (by kernel_rfl) (by kernel_rfl) (by kernel_rfl) rfl (fun _ _ h_ => R.mvE rfl (by conv => lhs; whnf) (TL.nil h_)) ?_
    refine Plan.v 9 [7, 10, 11, 12, 13, 14, 15] (by kernel_rfl) (by kernel_rfl) (by kernel_rfl) (by kernel_rfl) rfl (fun _ _ h_ => R.mvE rfl (by conv => lhs; whnf) (TL.nil h_)) ?_
    have hl21 : a1.toNat < a0.length := by first | omega | (simp; done) | (simp; omega) | (simp at *; omega)
    obtain ⟨y21, e21, h21⟩ : ∃ y, y = (a0.getD a1.toNat (0 : Int)) ∧ a0[a1.toNat]? = some y := ⟨_, rfl, getD_get (by first | exact hl21 | simpa using hl21 | (simp only [List.length_set]; omega) | omega | (rw [(sortI_perm _).length_eq]; exact hl21))⟩
    obtain ⟨b21, u21, cs21, l21, f21, j21, i21, g21, k21⟩ := OwnS.elem ha0 h21
    obtain rfl : l21 = [.int .u64 y21] := g21
    refine Plan.v 10 [7, 11, 12, 13, 14, 15] (by kernel_rfl) (by kernel_rfl) (by kernel_rfl) (by kernel_rfl) rfl (fun _ _ h_ => R.ixp (sz := ((intE .u64)).size) Try.underlying22 Try.sizeOf26 rfl rfl rfl (by first | omega | (simp; done) | (simp; omega) | (simp at *; omega)) i21 (TL.nil h_)) ?_
    refine Plan.s2 7 11 [11, 12, 13, 14, 15] [7, 12, 13, 14, 15] (by kernel_rfl) (by kernel_rfl) (by kernel_rfl) rfl rfl ?_ ?_
    · refine R.ld Try.isAgg26 rfl rfl (by rw [← f17]; exact .hd) (k17 0 _ rfl) ?_
      refine TL.nil (Plan.e1 (HLe.refl _) ?_)
      refine Plan.s1 11 [12, 13, 14, 15] (by kernel_rfl) (by kernel_rfl) rfl ?_
      refine R.ld Try.isAgg26 rfl rfl (by rw [← f21]; exact .hd) (k21 0 _ rfl) ?_
      refine TL.nil (Plan.e1 (HLe.refl _) ?_)
      have hl23 : a1.toNat < a0.length := by first | omega | (simp; done) | (simp; omega) | (simp at *; omega)
      obtain ⟨y23, e23, h23⟩ : ∃ y, y = (a0.getD a1.toNat (0 : Int)) ∧ a0[a1.toNat]? = some y := ⟨_, rfl, getD_get (by first | exact hl23 | simpa using hl23 | (simp only [List.length_set]; omega) | omega | (rw [(sortI_perm _).length_eq]; exact hl23))⟩
      obtain ⟨b23, u23, cs23, l23, f23, j23, i23, g23, k23⟩ := OwnS.elem ha0 h23
      obtain rfl : l23 = [.int .u64 y23] := g23
      refine Plan.v 12 [13, 14, 15] (by kernel_rfl) (by kernel_rfl) (by kernel_rfl) (by kernel_rfl) rfl (fun _ _ h_ => R.ixp (sz := ((intE .u64)).size) Try.underlying22 Try.sizeOf26 rfl rfl rfl (by first | omega | (simp; done) | (simp; omega) | (simp at *; omega)) i23 (TL.nil h_)) ?_
      refine Plan.s1 13 [14, 15] (by kernel_rfl) (by kernel_rfl) rfl ?_
      refine R.stEF (E := (intE .u64)) (e := 26) (v := (.slice Aa0 a0.length pa0)) (m := [.int .u64 y17]) (o := 0) (y := y23) (y' := y17) (j := a1.toNat) Try.sizeOf26 rfl ha0 .hd i23 rfl rfl (cells1 rfl) (all_one rfl) h23 (by show 0 + 1 ≤ 1; decide) (fun l hl => by have e0 : l = [.int .u64 y23] := hl; subst e0; exact rfl) ?_
      intro cst113 wst113
      refine TL.nil (Plan.e0 (HLe.refl _) ?_)
      have hl24 : a3.toNat < a0.length := by first | omega | (simp; done) | (simp; omega) | (simp at *; omega)
      obtain ⟨y24, e24, h24⟩ : ∃ y, y = (((a0.set a1.toNat y17)).getD a3.toNat (0 : Int)) ∧ ((a0.set a1.toNat y17))[a3.toNat]? = some y := ⟨_, rfl, getD_get (by first | exact hl24 | simpa using hl24 | (simp only [List.length_set]; omega) | omega | (rw [(sortI_perm _).length_eq]; exact hl24))⟩
      obtain ⟨b24, u24, cs24, l24, f24, j24, i24, g24, k24⟩ := OwnS.elem wst113 h24
      obtain rfl : l24 = [.int .u64 y24] := g24
      refine Plan.v 14 [15] (by kernel_rfl) (by kernel_rfl) (by kernel_rfl) (by kernel_rfl) rfl (fun _ _ h_ => R.ixp (sz := ((intE .u64)).size) Try.underlying22 Try.sizeOf26 rfl rfl rfl (by first | omega | (simp; done) | (simp; omega) | (simp at *; omega)) i24 (TL.nil h_)) ?_
      refine Plan.s1 15 [] (by kernel_rfl) (by kernel_rfl) rfl ?_
      refine R.stEF (E := (intE .u64)) (e := 26) (v := (.slice Aa0 a0.length pa0)) (m := [.int .u64 y21]) (o := 0) (y := y24) (y' := y21) (j := a3.toNat) Try.sizeOf26 rfl wst113 .hd i24 rfl rfl (cells1 rfl) (all_one rfl) h24 (by show 0 + 1 ≤ 1; decide) (fun l hl => by have e0 : l = [.int .u64 y24] := hl; subst e0; exact rfl) ?_
      intro cst114 wst114
      refine TL.nil (Plan.e0 (HLe.refl _) ?_)
      refine Plan.done (Post.thnN ?_)
      exact ⟨((((a0.set a1.toNat y17)).set a3.toNat y21), cst114), HLe.refl _, ⟨(Has.cons .hd Has.nil), wst114, (by subst e24; subst e23; subst e21; subst e17; rfl)⟩, rfl, rfl, rfl, trivial⟩
    · refine R.ld Try.isAgg26 rfl rfl (by rw [← f21]; exact .hd) (k21 0 _ rfl) ?_
      refine TL.nil (Plan.e1 (HLe.refl _) ?_)
      refine Plan.s1 7 [12, 13, 14, 15] (by kernel_rfl) (by kernel_rfl) rfl ?_
      refine R.ld Try.isAgg26 rfl rfl (by rw [← f17]; exact .hd) (k17 0 _ rfl) ?_
      refine TL.nil (Plan.e1 (HLe.refl _) ?_)
      have hl23 : a1.toNat < a0.length := by first | omega | (simp; done) | (simp; omega) | (simp at *; omega)
      obtain ⟨y23, e23, h23⟩ : ∃ y, y = (a0.getD a1.toNat (0 : Int)) ∧ a0[a1.toNat]? = some y := ⟨_, rfl, getD_get (by first | exact hl23 | simpa using hl23 | (simp only [List.length_set]; omega) | omega | (rw [(sortI_perm _).length_eq]; exact hl23))⟩
      obtain ⟨b23, u23, cs23, l23, f23, j23, i23, g23, k23⟩ := OwnS.elem ha0 h23
      obtain rfl : l23 = [.int .u64 y23] := g23
      refine Plan.v 12 [13, 14, 15] (by kernel_rfl) (by kernel_rfl) (by kernel_rfl) (by kernel_rfl) rfl (fun _ _ h_ => R.ixp (sz := ((intE .u64)).size) Try.underlying22 Try.sizeOf26 rfl rfl rfl (by first | omega | (simp; done) | (simp; omega) | (simp at *; omega)) i23 (TL.nil h_)) ?_
      refine Plan.s1 13 [14, 15] (by kernel_rfl) (by kernel_rfl) rfl ?_
      refine R.stEF (E := (intE .u64)) (e := 26) (v := (.slice Aa0 a0.length pa0)) (m := [.int .u64 y17]) (o := 0) (y := y23) (y' := y17) (j := a1.toNat) Try.sizeOf26 rfl ha0 .hd i23 rfl rfl (cells1 rfl) (all_one rfl) h23 (by show 0 + 1 ≤ 1; decide) (fun l hl => by have e0 : l = [.int .u64 y23] := hl; subst e0; exact rfl) ?_
      intro cst115 wst115
      refine TL.nil (Plan.e0 (HLe.refl _) ?_)
      have hl24 : a3.toNat < a0.length := by first | omega | (simp; done) | (simp; omega) | (simp at *; omega)
      obtain ⟨y24, e24, h24⟩ : ∃ y, y = (((a0.set a1.toNat y17)).getD a3.toNat (0 : Int)) ∧ ((a0.set a1.toNat y17))[a3.toNat]? = some y := ⟨_, rfl, getD_get (by first | exact hl24 | simpa using hl24 | (simp only [List.length_set]; omega) | omega | (rw [(sortI_perm _).length_eq]; exact hl24))⟩
      obtain ⟨b24, u24, cs24, l24, f24, j24, i24, g24, k24⟩ := OwnS.elem wst115 h24
      obtain rfl : l24 = [.int .u64 y24] := g24
      refine Plan.v 14 [15] (by kernel_rfl) (by kernel_rfl) (by kernel_rfl) (by kernel_rfl) rfl (fun _ _ h_ => R.ixp (sz := ((intE .u64)).size) Try.underlying22 Try.sizeOf26 rfl rfl rfl (by first | omega | (simp; done) | (simp; omega) | (simp at *; omega)) i24 (TL.nil h_)) ?_
      refine Plan.s1 15 [] (by kernel_rfl) (by kernel_rfl) rfl ?_
      refine R.stEF (E := (intE .u64)) (e := 26) (v := (.slice Aa0 a0.length pa0)) (m := [.int .u64 y21]) (o := 0) (y := y24) (y' := y21) (j := a3.toNat) Try.sizeOf26 rfl wst115 .hd i24 rfl rfl (cells1 rfl) (all_one rfl) h24 (by show 0 + 1 ≤ 1; decide) (fun l hl => by have e0 : l = [.int .u64 y24] := hl; subst e0; exact rfl) ?_
      intro cst116 wst116
      refine TL.nil (Plan.e0 (HLe.refl _) ?_)
      refine Plan.done (Post.thnN ?_)
      exact ⟨((((a0.set a1.toNat y17)).set a3.toNat y21), cst116), HLe.refl _, ⟨(Has.cons .hd Has.nil), wst116, (by subst e24; subst e23; subst e21; subst e17; rfl)⟩, rfl, rfl, rfl, trivial⟩
  · intro ⟨xPa0c1, cPa0c1⟩ σ_c1 H_c1 L_c1 ds_c1 s_c1 hI_c1
    obtain ⟨hLc1, wPa0c1, hTc1⟩ := hI_c1
    have nPa0c1_ := OwnS.len wPa0c1
    refine T.has hLc1 ?_
    refine T.seq ?_
    refine T.region ?_
    refine R.mvE rfl (by conv => lhs; whnf) ?_
    refine R.addI rfl rfl rfl (by omega) ?_
    refine R.mvE rfl (by conv => lhs; whnf) ?_
    refine R.subI rfl rfl rfl (by omega) ?_
    refine R.asE rfl (by conv => lhs; whnf) ?_
    refine R.asE rfl (by conv => lhs; whnf) ?_
    refine TL.nil (Post.thnN ?_)
    refine T.seq ?_
    refine T.cutK (ι := Int × (List Int) × Chunk) (fun ⟨n9c7, xPa0c7, cPa0c7⟩ H' L' ds' => Has L' [cPa0c7] ∧ OwnS (intE .u64) 26 H' (.slice Aa0 a0.length pa0) xPa0c7 cPa0c7 ∧ (LR.seq (slices_partitionEqualOrdered_Id_l2 a1 ((((a2 - 1)) - ((a1 + 1)) + 2).toNat + 1) (((a1 + 1), (a2 - 1), xPa0c1))) (fun ol2 => ol2) : Int × (List Int)) = (n9c7, xPa0c7)) (fun ⟨n9c7, xPa0c7, cPa0c7⟩ => [(9, .int .i64 n9c7)]) ?_ ?_
    · refine T.block ?_
      refine T.loop (ι := Nat × Int × Int × (List Int) × Chunk) (fun ⟨kl2, n9l2, n10l2, xPa0l2, cPa0l2⟩ H' L' ds' => (n10l2 - n9l2 + 2).toNat < kl2 ∧ Has L' [cPa0l2] ∧ OwnS (intE .u64) 26 H' (.slice Aa0 a0.length pa0) xPa0l2 cPa0l2 ∧ a1 + 1 ≤ n9l2 ∧ n9l2 ≤ a2 ∧ a1 ≤ n10l2 ∧ n10l2 < a2 ∧ slices_partitionEqualOrdered_Id_l2 a1 kl2 ((n9l2, n10l2, xPa0l2)) = slices_partitionEqualOrdered_Id_l2 a1 ((((a2 - 1)) - ((a1 + 1)) + 2).toNat + 1) (((a1 + 1), (a2 - 1), xPa0c1))) (fun ⟨kl2, n9l2, n10l2, xPa0l2, cPa0l2⟩ => [(0, .slice Aa0 a0.length pa0), (1, .int .i64 a1), (9, .int .i64 n9l2), (10, .int .i64 n10l2)]) (fun ⟨kl2, n9l2, n10l2, xPa0l2, cPa0l2⟩ => kl2) (((((a2 - 1)) - ((a1 + 1)) + 2).toNat + 1), (a1 + 1), (a2 - 1), xPa0c1, cPa0c1) ?_ ?_ ?_
      · exact ⟨(by omega), (Has.cons .hd Has.nil), wPa0c1, (by first | omega | (simp; done) | (simp; omega) | (simp at *; omega)), (by first | omega | (simp; done) | (simp; omega) | (simp at *; omega)), (by first | omega | (simp; done) | (simp; omega) | (simp at *; omega)), (by first | omega | (simp; done) | (simp; omega) | (simp at *; omega)), (by rfl)⟩
      · exact ⟨rfl, rfl, rfl, rfl, trivial⟩
      · intro ⟨kl2, n9l2, n10l2, xPa0l2, cPa0l2⟩ σ_l2 H_l2 L_l2 ds_l2 s_l2 hI_l2
        obtain ⟨hkl2, hI_l2⟩ := hI_l2
        obtain ⟨ml2, rfl⟩ : ∃ m, kl2 = m + 1 := ⟨kl2 - 1, by omega⟩
        obtain ⟨hLl2, wPa0l2, hBl2_0, hBl2_1, hBl2_2, hBl2_3, hQl2⟩ := hI_l2
        have nPa0l2_ := OwnS.len wPa0l2
        refine T.has hLl2 ?_
        refine T.block ?_
        refine T.seq ?_
        refine T.block ?_
        refine T.loop (ι := Nat × Int) (fun ⟨kl3, n9l3⟩ H' L' ds' => (n10l2 - n9l3 + 1).toNat < kl3 ∧ Has L' [cPa0l2] ∧ a1 + 1 ≤ n9l3 ∧ n9l3 ≤ a2 ∧ n9l2 ≤ n9l3 ∧ slices_partitionEqualOrdered_Id_l3 a1 n10l2 xPa0l2 kl3 n9l3 = slices_partitionEqualOrdered_Id_l3 a1 n10l2 xPa0l2 ((n10l2 - n9l2 + 1).toNat + 1) n9l2) (fun ⟨kl3, n9l3⟩ => [(0, .slice Aa0 a0.length pa0), (1, .int .i64 a1), (9, .int .i64 n9l3), (10, .int .i64 n10l2)]) (fun ⟨kl3, n9l3⟩ => kl3) (((n10l2 - n9l2 + 1).toNat + 1), n9l2) ?_ ?_ ?_
        · exact ⟨(by omega), (Has.cons .hd Has.nil), (by first | omega | (simp; done) | (simp; omega) | (simp at *; omega)), (by first | omega | (simp; done) | (simp; omega) | (simp at *; omega)), (by first | omega | (simp; done) | (simp; omega) | (simp at *; omega)), (by rfl)⟩
        · exact ⟨rfl, rfl, rfl, rfl, trivial⟩
        · intro ⟨kl3, n9l3⟩ σ_l3 H_l3 L_l3 ds_l3 s_l3 hI_l3
          obtain ⟨hkl3, hI_l3⟩ := hI_l3
          obtain ⟨ml3, rfl⟩ : ∃ m, kl3 = m + 1 := ⟨kl3 - 1, by omega⟩
          obtain ⟨hLl3, hBl3_0, hBl3_1, hBl3_2, hQl3⟩ := hI_l3
          refine T.has hLl3 ?_
          refine T.seq ?_
          refine T.seq ?_
          refine T.cutK (ι := Bool) (fun b43c4 H' L' ds' => Has L' [cPa0l2] ∧ (if n9l3 ≤ n10l2 then ((!(cmp_Less_Id_m (xPa0l2.getD a1.toNat (0 : Int)) (xPa0l2.getD n9l3.toNat (0 : Int))))) else false : Bool) = b43c4) (fun b43c4 => [(0, .slice Aa0 a0.length pa0), (1, .int .i64 a1), (9, .int .i64 n9l3), (10, .int .i64 n10l2), (43, .bool (b43c4))]) ?_ ?_
          · refine T.draw Try_mixed (by kernel_rfl) ?_
            refine Plan.v 0 [1, 2, 3, 4, 5, 6, 7, 8, 9, 10, 11, 12, 13, 14] (by kernel_rfl) (by kernel_rfl) (by kernel_rfl) (by kernel_rfl) rfl (fun _ _ h_ => R.mvE rfl (by conv => lhs; whnf) (TL.nil h_)) ?_
            refine Plan.v 1 [2, 3, 4, 5, 6, 7, 8, 9, 10, 11, 12, 13, 14] (by kernel_rfl) (by kernel_rfl) (by kernel_rfl) (by kernel_rfl) rfl (fun _ _ h_ => R.mvE rfl (by conv => lhs; whnf) (TL.nil h_)) ?_
            refine Plan.v 2 [3, 4, 5, 6, 7, 8, 9, 10, 11, 12, 13, 14] (by kernel_rfl) (by kernel_rfl) (by kernel_rfl) (by kernel_rfl) rfl (fun _ _ h_ => R.leq rfl rfl rfl (TL.nil h_)) ?_
            refine Plan.v 3 [4, 5, 6, 7, 8, 9, 10, 11, 12, 13, 14] (by kernel_rfl) (by kernel_rfl) (by kernel_rfl) (by kernel_rfl) rfl (fun _ _ h_ => R.mvE rfl (by conv => lhs; whnf) (TL.nil h_)) ?_
            refine Plan.gsplitD 32 rfl (fun g32 => ?_) (fun g32 => ?_)
            · refine Plan.v 4 [5, 6, 7, 8, 9, 10, 11, 12, 13, 14] (by kernel_rfl) (by kernel_rfl) (by kernel_rfl) (by kernel_rfl) rfl (fun _ _ h_ => R.mvE rfl (by conv => lhs; whnf) (TL.nil h_)) ?_
              refine Plan.v 5 [6, 7, 8, 9, 10, 11, 12, 13, 14] (by kernel_rfl) (by kernel_rfl) (by kernel_rfl) (by kernel_rfl) rfl (fun _ _ h_ => R.mvE rfl (by conv => lhs; whnf) (TL.nil h_)) ?_
              have hl35 : a1.toNat < a0.length := by first | omega | (simp; done) | (simp; omega) | (simp at *; omega)
              obtain ⟨y35, e35, h35⟩ : ∃ y, y = (xPa0l2.getD a1.toNat (0 : Int)) ∧ xPa0l2[a1.toNat]? = some y := ⟨_, rfl, getD_get (by first | exact hl35 | simpa using hl35 | (simp only [List.length_set]; omega) | omega | (rw [(sortI_perm _).length_eq]; exact hl35))⟩
              obtain ⟨b35, u35, cs35, l35, f35, j35, i35, g35, k35⟩ := OwnS.elem (OwnS.mono wPa0l2 s_l3) h35
              obtain rfl : l35 = [.int .u64 y35] := g35
              refine Plan.v 6 [7, 8, 9, 10, 11, 12, 13, 14] (by kernel_rfl) (by kernel_rfl) (by kernel_rfl) (by kernel_rfl) rfl (fun _ _ h_ => R.ixp (sz := ((intE .u64)).size) Try.underlying22 Try.sizeOf26 rfl rfl rfl (by first | omega | (simp; done) | (simp; omega) | (simp at *; omega)) i35 (TL.nil h_)) ?_
              refine Plan.v 8 [7, 9, 10, 11, 12, 13, 14] (by kernel_rfl) (by kernel_rfl) (by kernel_rfl) (by kernel_rfl) rfl (fun _ _ h_ => R.mvE rfl (by conv => lhs; whnf) (TL.nil h_)) ?_
              refine Plan.v 9 [7, 10, 11, 12, 13, 14] (by kernel_rfl) (by kernel_rfl) (by kernel_rfl) (by kernel_rfl) rfl (fun _ _ h_ => R.mvE rfl (by conv => lhs; whnf) (TL.nil h_)) ?_
              have hl39 : n9l3.toNat < a0.length := by first | omega | (simp; done) | (simp; omega) | (simp at *; omega)
              obtain ⟨y39, e39, h39⟩ : ∃ y, y = (xPa0l2.getD n9l3.toNat (0 : Int)) ∧ xPa0l2[n9l3.toNat]? = some y := ⟨_, rfl, getD_get (by first | exact hl39 | simpa using hl39 | (simp only [List.length_set]; omega) | omega | (rw [(sortI_perm _).length_eq]; exact hl39))⟩
              obtain ⟨b39, u39, cs39, l39, f39, j39, i39, g39, k39⟩ := OwnS.elem (OwnS.mono wPa0l2 s_l3) h39
              obtain rfl : l39 = [.int .u64 y39] := g39
              refine Plan.v 10 [7, 11, 12, 13, 14] (by kernel_rfl) (by kernel_rfl) (by kernel_rfl) (by kernel_rfl) rfl (fun _ _ h_ => R.ixp (sz := ((intE .u64)).size) Try.underlying22 Try.sizeOf26 rfl rfl rfl (by first | omega | (simp; done) | (simp; omega) | (simp at *; omega)) i39 (TL.nil h_)) ?_
              refine Plan.s2 7 11 [11, 12, 13, 14] [7, 12, 13, 14] (by kernel_rfl) (by kernel_rfl) (by kernel_rfl) rfl rfl ?_ ?_
              · refine R.ld Try.isAgg26 rfl rfl (by rw [← f35]; exact .hd) (k35 0 _ rfl) ?_
                refine TL.nil (Plan.e1 (HLe.refl _) ?_)
                refine Plan.s1 11 [12, 13, 14] (by kernel_rfl) (by kernel_rfl) rfl ?_
                refine R.ld Try.isAgg26 rfl rfl (by rw [← f39]; exact .hd) (k39 0 _ rfl) ?_
                refine TL.nil (Plan.e1 (HLe.refl _) ?_)
                refine Plan.v 12 [13, 14] (by kernel_rfl) (by kernel_rfl) (by kernel_rfl) (by kernel_rfl) rfl (fun _ _ h_ => R.callv rfl rfl rfl (cmp_Less_Id_c _ (y35) (y39)) (TL.nil h_)) ?_
                refine Plan.v 13 [14] (by kernel_rfl) (by kernel_rfl) (by kernel_rfl) (by kernel_rfl) rfl (fun _ _ h_ => R.not rfl rfl (TL.nil h_)) ?_
                refine Plan.v 14 [] (by kernel_rfl) (by kernel_rfl) (by kernel_rfl) (by kernel_rfl) rfl (fun _ _ h_ => R.pkTE rfl rfl (by conv => lhs; whnf) (TL.nil h_)) ?_
                refine Plan.done (Post.thnN ?_)
                exact ⟨(!(cmp_Less_Id_m y35 y39)), HLe.refl _, ⟨(Has.cons .hd Has.nil), (by subst e39; subst e35; rw [if_pos g32])⟩, rfl, rfl, rfl, rfl, rfl, trivial⟩
              · refine R.ld Try.isAgg26 rfl rfl (by rw [← f39]; exact .hd) (k39 0 _ rfl) ?_
                refine TL.nil (Plan.e1 (HLe.refl _) ?_)
                refine Plan.s1 7 [12, 13, 14] (by kernel_rfl) (by kernel_rfl) rfl ?_
                refine R.ld Try.isAgg26 rfl rfl (by rw [← f35]; exact .hd) (k35 0 _ rfl) ?_
                refine TL.nil (Plan.e1 (HLe.refl _) ?_)
                refine Plan.v 12 [13, 14] (by kernel_rfl) (by kernel_rfl) (by kernel_rfl) (by kernel_rfl) rfl (fun _ _ h_ => R.callv rfl rfl rfl (cmp_Less_Id_c _ (y35) (y39)) (TL.nil h_)) ?_
                refine Plan.v 13 [14] (by kernel_rfl) (by kernel_rfl) (by kernel_rfl) (by kernel_rfl) rfl (fun _ _ h_ => R.not rfl rfl (TL.nil h_)) ?_
                refine Plan.v 14 [] (by kernel_rfl) (by kernel_rfl) (by kernel_rfl) (by kernel_rfl) rfl (fun _ _ h_ => R.pkTE rfl rfl (by conv => lhs; whnf) (TL.nil h_)) ?_
                refine Plan.done (Post.thnN ?_)
                exact ⟨(!(cmp_Less_Id_m y35 y39)), HLe.refl _, ⟨(Has.cons .hd Has.nil), (by subst e39; subst e35; rw [if_pos g32])⟩, rfl, rfl, rfl, rfl, rfl, trivial⟩
            · refine Plan.v 4 [5, 6, 7, 8, 9, 10, 11, 12, 13, 14] (by kernel_rfl) (by kernel_rfl) (by kernel_rfl) (by kernel_rfl) rfl (fun _ _ h_ => TL.off rfl rfl rfl (TL.nil h_)) ?_
              refine Plan.v 5 [6, 7, 8, 9, 10, 11, 12, 13, 14] (by kernel_rfl) (by kernel_rfl) (by kernel_rfl) (by kernel_rfl) rfl (fun _ _ h_ => TL.off rfl rfl rfl (TL.nil h_)) ?_
              refine Plan.v 6 [7, 8, 9, 10, 11, 12, 13, 14] (by kernel_rfl) (by kernel_rfl) (by kernel_rfl) (by kernel_rfl) rfl (fun _ _ h_ => TL.off rfl rfl rfl (TL.nil h_)) ?_
              refine Plan.v 7 [8, 9, 10, 11, 12, 13, 14] (by kernel_rfl) (by kernel_rfl) (by kernel_rfl) (by kernel_rfl) rfl (fun _ _ h_ => TL.off rfl rfl rfl (TL.nil h_)) ?_
              refine Plan.v 8 [9, 10, 11, 12, 13, 14] (by kernel_rfl) (by kernel_rfl) (by kernel_rfl) (by kernel_rfl) rfl (fun _ _ h_ => TL.off rfl rfl rfl (TL.nil h_)) ?_
              refine Plan.v 9 [10, 11, 12, 13, 14] (by kernel_rfl) (by kernel_rfl) (by kernel_rfl) (by kernel_rfl) rfl (fun _ _ h_ => TL.off rfl rfl rfl (TL.nil h_)) ?_
              refine Plan.v 10 [11, 12, 13, 14] (by kernel_rfl) (by kernel_rfl) (by kernel_rfl) (by kernel_rfl) rfl (fun _ _ h_ => TL.off rfl rfl rfl (TL.nil h_)) ?_
              refine Plan.v 11 [12, 13, 14] (by kernel_rfl) (by kernel_rfl) (by kernel_rfl) (by kernel_rfl) rfl (fun _ _ h_ => TL.off rfl rfl rfl (TL.nil h_)) ?_
              refine Plan.v 12 [13, 14] (by kernel_rfl) (by kernel_rfl) (by kernel_rfl) (by kernel_rfl) rfl (fun _ _ h_ => TL.off rfl rfl rfl (TL.nil h_)) ?_
              refine Plan.v 13 [14] (by kernel_rfl) (by kernel_rfl) (by kernel_rfl) (by kernel_rfl) rfl (fun _ _ h_ => TL.off rfl rfl rfl (TL.nil h_)) ?_
              refine Plan.v 14 [] (by kernel_rfl) (by kernel_rfl) (by kernel_rfl) (by kernel_rfl) rfl (fun _ _ h_ => R.pkFE rfl rfl (by conv => lhs; whnf) (TL.nil h_)) ?_
              refine Plan.done (Post.thnN ?_)
              exact ⟨false, HLe.refl _, ⟨(Has.cons .hd Has.nil), (by rw [if_neg g32])⟩, rfl, rfl, rfl, rfl, rfl, trivial⟩
          · intro b43c4 σ_c4 H_c4 L_c4 ds_c4 s_c4 hI_c4
            obtain ⟨hLc4, hTc4⟩ := hI_c4
            refine T.has hLc4 ?_
            refine T.cond rfl (fun c43 => ?_) (fun c43 => ?_)
            · refine T.set 43 (.bool true) (congrArg Value.bool c43) ?_
              have hZ43 := hTc4.trans c43
              try simp only [or_f, or_t, and_f, and_t, decide_eq_true_eq, decide_eq_false_iff_not, Bool.not_eq_true'] at hZ43
              refine T.skip (Post.thnN ?_)
              refine T.block ?_
              refine T.region ?_
              refine R.mvE rfl (by conv => lhs; whnf) ?_
              refine R.addI rfl rfl rfl (by omega) ?_
              refine R.asE rfl (by conv => lhs; whnf) ?_
              refine TL.nil (Post.blkN ?_)
              refine id (Post.thnN ?_)
              exact ⟨(ml3, (n9l3 + 1)), (s_l3.trans s_c4), ⟨(by first | omega | (simp; omega) | (simp at *; omega)), (Has.cons .hd Has.nil), (by first | omega | (simp; done) | (simp; omega) | (simp at *; omega)), (by first | omega | (simp; done) | (simp; omega) | (simp at *; omega)), (by first | omega | (simp; done) | (simp; omega) | (simp at *; omega)), (by rw [← hQl3, slices_partitionEqualOrdered_Id_l3]; rw [hTc4, LR.seq_go, if_t c43])⟩, by show ml3 < ml3 + 1; omega, rfl, rfl, rfl, rfl, trivial⟩
            · refine T.set 43 (.bool false) (congrArg Value.bool c43) ?_
              have hZ43 := hTc4.trans c43
              try simp only [or_f, or_t, and_f, and_t, decide_eq_true_eq, decide_eq_false_iff_not, Bool.not_eq_true'] at hZ43
              refine T.exit (Post.thnE (Post.thnE (Post.blkX ?_)))
              have hEl3 : slices_partitionEqualOrdered_Id_l3 a1 n10l2 xPa0l2 ((n10l2 - n9l2 + 1).toNat + 1) n9l2 = n9l3 := (by rw [← hQl3, slices_partitionEqualOrdered_Id_l3]; rw [hTc4, LR.seq_go, if_f c43])
              refine id (Post.thnN ?_)
              refine T.seq ?_
              refine T.block ?_
              refine T.loop (ι := Nat × Int) (fun ⟨kl5, n10l5⟩ H' L' ds' => (n10l5 - n9l3 + 1).toNat < kl5 ∧ Has L' [cPa0l2] ∧ a1 ≤ n10l5 ∧ n10l5 < a2 ∧ n10l5 ≤ n10l2 ∧ slices_partitionEqualOrdered_Id_l5 a1 n9l3 xPa0l2 kl5 n10l5 = slices_partitionEqualOrdered_Id_l5 a1 n9l3 xPa0l2 ((n10l2 - n9l3 + 1).toNat + 1) n10l2) (fun ⟨kl5, n10l5⟩ => [(0, .slice Aa0 a0.length pa0), (1, .int .i64 a1), (9, .int .i64 n9l3), (10, .int .i64 n10l5)]) (fun ⟨kl5, n10l5⟩ => kl5) (((n10l2 - n9l3 + 1).toNat + 1), n10l2) ?_ ?_ ?_
              · exact ⟨(by omega), (Has.cons .hd Has.nil), (by first | omega | (simp; done) | (simp; omega) | (simp at *; omega)), (by first | omega | (simp; done) | (simp; omega) | (simp at *; omega)), (by first | omega | (simp; done) | (simp; omega) | (simp at *; omega)), (by rfl)⟩
              · exact ⟨rfl, rfl, rfl, rfl, trivial⟩
              · intro ⟨kl5, n10l5⟩ σ_l5 H_l5 L_l5 ds_l5 s_l5 hI_l5
                obtain ⟨hkl5, hI_l5⟩ := hI_l5
                obtain ⟨ml5, rfl⟩ : ∃ m, kl5 = m + 1 := ⟨kl5 - 1, by omega⟩
                obtain ⟨hLl5, hBl5_0, hBl5_1, hBl5_2, hQl5⟩ := hI_l5
                refine T.has hLl5 ?_
                refine T.seq ?_
                refine T.seq ?_
                refine T.cutK (ι := Bool) (fun b59c6 H' L' ds' => Has L' [cPa0l2] ∧ (if n9l3 ≤ n10l5 then ((cmp_Less_Id_m (xPa0l2.getD a1.toNat (0 : Int)) (xPa0l2.getD n10l5.toNat (0 : Int)))) else false : Bool) = b59c6) (fun b59c6 => [(0, .slice Aa0 a0.length pa0), (1, .int .i64 a1), (9, .int .i64 n9l3), (10, .int .i64 n10l5), (59, .bool (b59c6))]) ?_ ?_
                · refine T.draw Try_mixed (by kernel_rfl) ?_
                  refine Plan.v 0 [1, 2, 3, 4, 5, 6, 7, 8, 9, 10, 11, 12, 13] (by kernel_rfl) (by kernel_rfl) (by kernel_rfl) (by kernel_rfl) rfl (fun _ _ h_ => R.mvE rfl (by conv => lhs; whnf) (TL.nil h_)) ?_
                  refine Plan.v 1 [2, 3, 4, 5, 6, 7, 8, 9, 10, 11, 12, 13] (by kernel_rfl) (by kernel_rfl) (by kernel_rfl) (by kernel_rfl) rfl (fun _ _ h_ => R.mvE rfl (by conv => lhs; whnf) (TL.nil h_)) ?_
                  refine Plan.v 2 [3, 4, 5, 6, 7, 8, 9, 10, 11, 12, 13] (by kernel_rfl) (by kernel_rfl) (by kernel_rfl) (by kernel_rfl) rfl (fun _ _ h_ => R.leq rfl rfl rfl (TL.nil h_)) ?_
                  refine Plan.v 3 [4, 5, 6, 7, 8, 9, 10, 11, 12, 13] (by kernel_rfl) (by kernel_rfl) (by kernel_rfl) (by kernel_rfl) rfl (fun _ _ h_ => R.mvE rfl (by conv => lhs; whnf) (TL.nil h_)) ?_
                  refine Plan.gsplitD 49 rfl (fun g49 => ?_) (fun g49 => ?_)
                  · refine Plan.v 4 [5, 6, 7, 8, 9, 10, 11, 12, 13] (by kernel_rfl) (by kernel_rfl) (by kernel_rfl) (by kernel_rfl) rfl (fun _ _ h_ => R.mvE rfl (by conv => lhs; whnf) (TL.nil h_)) ?_
                    refine Plan.v 5 [6, 7, 8, 9, 10, 11, 12, 13] (by kernel_rfl) (by kernel_rfl) (by kernel_rfl) (by kernel_rfl) rfl (fun _ _ h_ => R.mvE rfl (by conv => lhs; whnf) (TL.nil h_)) ?_
                    have hl52 : a1.toNat < a0.length := by first | omega | (simp; done) | (simp; omega) | (simp at *; omega)
                    obtain ⟨y52, e52, h52⟩ : ∃ y, y = (xPa0l2.getD a1.toNat (0 : Int)) ∧ xPa0l2[a1.toNat]? = some y := ⟨_, rfl, getD_get (by first | exact hl52 | simpa using hl52 | (simp only [List.length_set]; omega) | omega | (rw [(sortI_perm _).length_eq]; exact hl52))⟩
                    obtain ⟨b52, u52, cs52, l52, f52, j52, i52, g52, k52⟩ := OwnS.elem (OwnS.mono wPa0l2 (s_l3.trans (s_c4.trans s_l5))) h52
                    obtain rfl : l52 = [.int .u64 y52] := g52
                    refine Plan.v 6 [7, 8, 9, 10, 11, 12, 13] (by kernel_rfl) (by kernel_rfl) (by kernel_rfl) (by kernel_rfl) rfl (fun _ _ h_ => R.ixp (sz := ((intE .u64)).size) Try.underlying22 Try.sizeOf26 rfl rfl rfl (by first | omega | (simp; done) | (simp; omega) | (simp at *; omega)) i52 (TL.nil h_)) ?_
                    refine Plan.v 8 [7, 9, 10, 11, 12, 13] (by kernel_rfl) (by kernel_rfl) (by kernel_rfl) (by kernel_rfl) rfl (fun _ _ h_ => R.mvE rfl (by conv => lhs; whnf) (TL.nil h_)) ?_
                    refine Plan.v 9 [7, 10, 11, 12, 13] (by kernel_rfl) (by kernel_rfl) (by kernel_rfl) (by kernel_rfl) rfl (fun _ _ h_ => R.mvE rfl (by conv => lhs; whnf) (TL.nil h_)) ?_
                    have hl56 : n10l5.toNat < a0.length := by first | omega | (simp; done) | (simp; omega) | (simp at *; omega)
                    obtain ⟨y56, e56, h56⟩ : ∃ y, y = (xPa0l2.getD n10l5.toNat (0 : Int)) ∧ xPa0l2[n10l5.toNat]? = some y := ⟨_, rfl, getD_get (by first | exact hl56 | simpa using hl56 | (simp only [List.length_set]; omega) | omega | (rw [(sortI_perm _).length_eq]; exact hl56))⟩
                    obtain ⟨b56, u56, cs56, l56, f56, j56, i56, g56, k56⟩ := OwnS.elem (OwnS.mono wPa0l2 (s_l3.trans (s_c4.trans s_l5))) h56
                    obtain rfl : l56 = [.int .u64 y56] := g56
                    refine Plan.v 10 [7, 11, 12, 13] (by kernel_rfl) (by kernel_rfl) (by kernel_rfl) (by kernel_rfl) rfl (fun _ _ h_ => R.ixp (sz := ((intE .u64)).size) Try.underlying22 Try.sizeOf26 rfl rfl rfl (by first | omega | (simp; done) | (simp; omega) | (simp at *; omega)) i56 (TL.nil h_)) ?_
                    refine Plan.s2 7 11 [11, 12, 13] [7, 12, 13] (by kernel_rfl) (by kernel_rfl) (by kernel_rfl) rfl rfl ?_ ?_
                    · refine R.ld Try.isAgg26 rfl rfl (by rw [← f52]; exact .hd) (k52 0 _ rfl) ?_
                      refine TL.nil (Plan.e1 (HLe.refl _) ?_)
                      refine Plan.s1 11 [12, 13] (by kernel_rfl) (by kernel_rfl) rfl ?_
                      refine R.ld Try.isAgg26 rfl rfl (by rw [← f56]; exact .hd) (k56 0 _ rfl) ?_
                      refine TL.nil (Plan.e1 (HLe.refl _) ?_)
                      refine Plan.v 12 [13] (by kernel_rfl) (by kernel_rfl) (by kernel_rfl) (by kernel_rfl) rfl (fun _ _ h_ => R.callv rfl rfl rfl (cmp_Less_Id_c _ (y52) (y56)) (TL.nil h_)) ?_
                      refine Plan.v 13 [] (by kernel_rfl) (by kernel_rfl) (by kernel_rfl) (by kernel_rfl) rfl (fun _ _ h_ => R.pkTE rfl rfl (by conv => lhs; whnf) (TL.nil h_)) ?_
                      refine Plan.done (Post.thnN ?_)
                      exact ⟨(cmp_Less_Id_m y52 y56), HLe.refl _, ⟨(Has.cons .hd Has.nil), (by subst e56; subst e52; rw [if_pos g49])⟩, rfl, rfl, rfl, rfl, rfl, trivial⟩
                    · refine R.ld Try.isAgg26 rfl rfl (by rw [← f56]; exact .hd) (k56 0 _ rfl) ?_
                      refine TL.nil (Plan.e1 (HLe.refl _) ?_)
                      refine Plan.s1 7 [12, 13] (by kernel_rfl) (by kernel_rfl) rfl ?_
                      refine R.ld Try.isAgg26 rfl rfl (by rw [← f52]; exact .hd) (k52 0 _ rfl) ?_
                      refine TL.nil (Plan.e1 (HLe.refl _) ?_)
                      refine Plan.v 12 [13] (by kernel_rfl) (by kernel_rfl) (by kernel_rfl) (by kernel_rfl) rfl (fun _ _ h_ => R.callv rfl rfl rfl (cmp_Less_Id_c _ (y52) (y56)) (TL.nil h_)) ?_
                      refine Plan.v 13 [] (by kernel_rfl) (by kernel_rfl) (by kernel_rfl) (by kernel_rfl) rfl (fun _ _ h_ => R.pkTE rfl rfl (by conv => lhs; whnf) (TL.nil h_)) ?_
                      refine Plan.done (Post.thnN ?_)
                      exact ⟨(cmp_Less_Id_m y52 y56), HLe.refl _, ⟨(Has.cons .hd Has.nil), (by subst e56; subst e52; rw [if_pos g49])⟩, rfl, rfl, rfl, rfl, rfl, trivial⟩
                  · refine Plan.v 4 [5, 6, 7, 8, 9, 10, 11, 12, 13] (by kernel_rfl) (by kernel_rfl) (by kernel_rfl) (by kernel_rfl) rfl (fun _ _ h_ => TL.off rfl rfl rfl (TL.nil h_)) ?_
                    refine Plan.v 5 [6, 7, 8, 9, 10, 11, 12, 13] (by kernel_rfl) (by kernel_rfl) (by kernel_rfl) (by kernel_rfl) rfl (fun _ _ h_ => TL.off rfl rfl rfl (TL.nil h_)) ?_
                    refine Plan.v 6 [7, 8, 9, 10, 11, 12, 13] (by kernel_rfl) (by kernel_rfl) (by kernel_rfl) (by kernel_rfl) rfl (fun _ _ h_ => TL.off rfl rfl rfl (TL.nil h_)) ?_
                    refine Plan.v 7 [8, 9, 10, 11, 12, 13] (by kernel_rfl) (by kernel_rfl) (by kernel_rfl) (by kernel_rfl) rfl (fun _ _ h_ => TL.off rfl rfl rfl (TL.nil h_)) ?_
                    refine Plan.v 8 [9, 10, 11, 12, 13] (by kernel_rfl) (by kernel_rfl) (by kernel_rfl) (by kernel_rfl) rfl (fun _ _ h_ => TL.off rfl rfl rfl (TL.nil h_)) ?_
                    refine Plan.v 9 [10, 11, 12, 13] (by kernel_rfl) (by kernel_rfl) (by kernel_rfl) (by kernel_rfl) rfl (fun _ _ h_ => TL.off rfl rfl rfl (TL.nil h_)) ?_
                    refine Plan.v 10 [11, 12, 13] (by kernel_rfl) (by kernel_rfl) (by kernel_rfl) (by kernel_rfl) rfl (fun _ _ h_ => TL.off rfl rfl rfl (TL.nil h_)) ?_
                    refine Plan.v 11 [12, 13] (by kernel_rfl) (by kernel_rfl) (by kernel_rfl) (by kernel_rfl) rfl (fun _ _ h_ => TL.off rfl rfl rfl (TL.nil h_)) ?_
                    refine Plan.v 12 [13] (by kernel_rfl) (by kernel_rfl) (by kernel_rfl) (by kernel_rfl) rfl (fun _ _ h_ => TL.off rfl rfl rfl (TL.nil h_)) ?_
                    refine Plan.v 13 [] (by kernel_rfl) (by kernel_rfl) (by kernel_rfl) (by kernel_rfl) rfl (fun _ _ h_ => R.pkFE rfl rfl (by conv => lhs; whnf) (TL.nil h_)) ?_
                    refine Plan.done (Post.thnN ?_)
                    exact ⟨false, HLe.refl _, ⟨(Has.cons .hd Has.nil), (by rw [if_neg g49])⟩, rfl, rfl, rfl, rfl, rfl, trivial⟩
                · intro b59c6 σ_c6 H_c6 L_c6 ds_c6 s_c6 hI_c6
                  obtain ⟨hLc6, hTc6⟩ := hI_c6
                  refine T.has hLc6 ?_
                  refine T.cond rfl (fun c59 => ?_) (fun c59 => ?_)
                  · refine T.set 59 (.bool true) (congrArg Value.bool c59) ?_
                    have hZ59 := hTc6.trans c59
                    try simp only [or_f, or_t, and_f, and_t, decide_eq_true_eq, decide_eq_false_iff_not, Bool.not_eq_true'] at hZ59
                    refine T.skip (Post.thnN ?_)
                    refine T.block ?_
                    refine T.region ?_
                    refine R.mvE rfl (by conv => lhs; whnf) ?_
                    refine R.subI rfl rfl rfl (by omega) ?_
                    refine R.asE rfl (by conv => lhs; whnf) ?_
                    refine TL.nil (Post.blkN ?_)
                    refine id (Post.thnN ?_)
                    exact ⟨(ml5, (n10l5 - 1)), (s_l5.trans s_c6), ⟨(by first | omega | (simp; omega) | (simp at *; omega)), (Has.cons .hd Has.nil), (by first | omega | (simp; done) | (simp; omega) | (simp at *; omega)), (by first | omega | (simp; done) | (simp; omega) | (simp at *; omega)), (by first | omega | (simp; done) | (simp; omega) | (simp at *; omega)), (by rw [← hQl5, slices_partitionEqualOrdered_Id_l5]; rw [hTc6, LR.seq_go, if_t c59])⟩, by show ml5 < ml5 + 1; omega, rfl, rfl, rfl, rfl, trivial⟩
                  · refine T.set 59 (.bool false) (congrArg Value.bool c59) ?_
                    have hZ59 := hTc6.trans c59
                    try simp only [or_f, or_t, and_f, and_t, decide_eq_true_eq, decide_eq_false_iff_not, Bool.not_eq_true'] at hZ59
                    refine T.exit (Post.thnE (Post.thnE (Post.blkX ?_)))
                    have hEl5 : slices_partitionEqualOrdered_Id_l5 a1 n9l3 xPa0l2 ((n10l2 - n9l3 + 1).toNat + 1) n10l2 = n10l5 := (by rw [← hQl5, slices_partitionEqualOrdered_Id_l5]; rw [hTc6, LR.seq_go, if_f c59])
                    refine id (Post.thnN ?_)
                    refine T.seq ?_
                    refine T.seq ?_
                    refine T.region ?_
                    refine R.mvE rfl (by conv => lhs; whnf) ?_
                    refine R.mvE rfl (by conv => lhs; whnf) ?_
                    refine R.gtr rfl rfl rfl ?_
                    refine TL.nil (Post.thnN ?_)
                    refine T.condD rfl (fun c64 => ?_) (fun c64 => ?_)
                    · refine T.set 64 (.bool true) (congrArg Value.bool (decide_eq_true c64)) ?_
                      refine T.exit (Post.thnE (Post.blkE rfl (Post.thnE (Post.blkX ?_))))
                      have hEl2 : slices_partitionEqualOrdered_Id_l2 a1 ((((a2 - 1)) - ((a1 + 1)) + 2).toNat + 1) (((a1 + 1), (a2 - 1), xPa0c1)) = (n9l3, xPa0l2) := (by rw [← hQl2, slices_partitionEqualOrdered_Id_l2]; rw [hEl3, LR.seq_go, hEl5, LR.seq_go, if_pos c64])
                      refine id (Post.thnN ?_)
                      exact ⟨(n9l3, xPa0l2, cPa0l2), (s_l2.trans (s_l3.trans (s_c4.trans (s_l5.trans s_c6)))), ⟨(Has.cons .hd Has.nil), (OwnS.mono wPa0l2 (s_l3.trans (s_c4.trans (s_l5.trans s_c6)))), (by rw [hEl2, LR.seq_go])⟩, rfl, trivial⟩
                    · refine T.set 64 (.bool false) (congrArg Value.bool (decide_eq_false c64)) ?_
                      refine T.skip (Post.thnN ?_)
                      refine T.seq ?_
                      refine T.cutK (ι := (List Int) × Chunk) (fun ⟨xPa0c8, cPa0c8⟩ H' L' ds' => Has L' [cPa0c8] ∧ OwnS (intE .u64) 26 H' (.slice Aa0 a0.length pa0) xPa0c8 cPa0c8 ∧ ((((xPa0l2.set n9l3.toNat (xPa0l2.getD n10l5.toNat (0 : Int)))).set n10l5.toNat (xPa0l2.getD n9l3.toNat (0 : Int))) : (List Int)) = xPa0c8) (fun ⟨xPa0c8, cPa0c8⟩ => [(0, .slice Aa0 a0.length pa0), (1, .int .i64 a1), (9, .int .i64 n9l3), (10, .int .i64 n10l5)]) ?_ ?_
                      · refine T.draw Try_mixed (by kernel_rfl) ?_
                        refine Plan.v 0 [1, 2, 3, 4, 5, 6, 7, 8, 9, 10, 11, 12, 13, 14, 15] (by kernel_rfl) (by kernel_rfl) (by kernel_rfl) (by kernel_rfl) rfl (fun _ _ h_ => R.mvE rfl (by conv => lhs; whnf) (TL.nil h_)) ?_
                        refine Plan.v 1 [2, 3, 4, 5, 6, 7, 8, 9, 10, 11, 12, 13, 14, 15] (by kernel_rfl) (by kernel_rfl) (by kernel_rfl) (by kernel_rfl) rfl (fun _ _ h_ => R.mvE rfl (by conv => lhs; whnf) (TL.nil h_)) ?_
                        refine Plan.v 2 [3, 4, 5, 6, 7, 8, 9, 10, 11, 12, 13, 14, 15] (by kernel_rfl) (by kernel_rfl) (by kernel_rfl) (by kernel_rfl) rfl (fun _ _ h_ => R.mvE rfl (by conv => lhs; whnf) (TL.nil h_)) ?_
                        refine Plan.v 3 [4, 5, 6, 7, 8, 9, 10, 11, 12, 13, 14, 15] (by kernel_rfl) (by kernel_rfl) (by kernel_rfl) (by kernel_rfl) rfl (fun _ _ h_ => R.mvE rfl (by conv => lhs; whnf) (TL.nil h_)) ?_
                        refine Plan.v 4 [5, 6, 7, 8, 9, 10, 11, 12, 13, 14, 15] (by kernel_rfl) (by kernel_rfl) (by kernel_rfl) (by kernel_rfl) rfl (fun _ _ h_ => R.mvE rfl (by conv => lhs; whnf) (TL.nil h_)) ?_
                        refine Plan.v 5 [6, 7, 8, 9, 10, 11, 12, 13, 14, 15] (by kernel_rfl) (by kernel_rfl) (by kernel_rfl) (by kernel_rfl) rfl (fun _ _ h_ => R.mvE rfl (by conv => lhs; whnf) (TL.nil h_)) ?_
                        have hl71 : n10l5.toNat < a0.length := by first | omega | (simp; done) | (simp; omega) | (simp at *; omega)
                        obtain ⟨y71, e71, h71⟩ : ∃ y, y = (xPa0l2.getD n10l5.toNat (0 : Int)) ∧ xPa0l2[n10l5.toNat]? = some y := ⟨_, rfl, getD_get (by first | exact hl71 | simpa using hl71 | (simp only [List.length_set]; omega) | omega | (rw [(sortI_perm _).length_eq]; exact hl71))⟩
                        obtain ⟨b71, u71, cs71, l71, f71, j71, i71, g71, k71⟩ := OwnS.elem (OwnS.mono wPa0l2 (s_l3.trans (s_c4.trans (s_l5.trans s_c6)))) h71
                        obtain rfl : l71 = [.int .u64 y71] := g71
                        refine Plan.v 6 [7, 8, 9, 10, 11, 12, 13, 14, 15] (by kernel_rfl) (by kernel_rfl) (by kernel_rfl) (by kernel_rfl) rfl (fun _ _ h_ => R.ixp (sz := ((intE .u64)).size) Try.underlying22 Try.sizeOf26 rfl rfl rfl (by first | omega | (simp; done) | (simp; omega) | (simp at *; omega)) i71 (TL.nil h_)) ?_
                        refine Plan.v 8 [7, 9, 10, 11, 12, 13, 14, 15] (by kernel_rfl) (by kernel_rfl) (by kernel_rfl) (by kernel_rfl) rfl (fun _ _ h_ => R.mvE rfl (by conv => lhs; whnf) (TL.nil h_)) ?_
                        refine Plan.v 9 [7, 10, 11, 12, 13, 14, 15] (by kernel_rfl) (by kernel_rfl) (by kernel_rfl) (by kernel_rfl) rfl (fun _ _ h_ => R.mvE rfl (by conv => lhs; whnf) (TL.nil h_)) ?_
                        have hl75 : n9l3.toNat < a0.length := by first | omega | (simp; done) | (simp; omega) | (simp at *; omega)
                        obtain ⟨y75, e75, h75⟩ : ∃ y, y = (xPa0l2.getD n9l3.toNat (0 : Int)) ∧ xPa0l2[n9l3.toNat]? = some y := ⟨_, rfl, getD_get (by first | exact hl75 | simpa using hl75 | (simp only [List.length_set]; omega) | omega | (rw [(sortI_perm _).length_eq]; exact hl75))⟩
                        obtain ⟨b75, u75, cs75, l75, f75, j75, i75, g75, k75⟩ := OwnS.elem (OwnS.mono wPa0l2 (s_l3.trans (s_c4.trans (s_l5.trans s_c6)))) h75
                        obtain rfl : l75 = [.int .u64 y75] := g75
                        refine Plan.v 10 [7, 11, 12, 13, 14, 15] (by kernel_rfl) (by kernel_rfl) (by kernel_rfl) (by kernel_rfl) rfl (fun _ _ h_ => R.ixp (sz := ((intE .u64)).size) Try.underlying22 Try.sizeOf26 rfl rfl rfl (by first | omega | (simp; done) | (simp; omega) | (simp at *; omega)) i75 (TL.nil h_)) ?_
                        refine Plan.s2 7 11 [11, 12, 13, 14, 15] [7, 12, 13, 14, 15] (by kernel_rfl) (by kernel_rfl) (by kernel_rfl) rfl rfl ?_ ?_
                        · refine R.ld Try.isAgg26 rfl rfl (by rw [← f71]; exact .hd) (k71 0 _ rfl) ?_
                          refine TL.nil (Plan.e1 (HLe.refl _) ?_)
                          refine Plan.s1 11 [12, 13, 14, 15] (by kernel_rfl) (by kernel_rfl) rfl ?_
                          refine R.ld Try.isAgg26 rfl rfl (by rw [← f75]; exact .hd) (k75 0 _ rfl) ?_
                          refine TL.nil (Plan.e1 (HLe.refl _) ?_)
                          have hl77 : n9l3.toNat < a0.length := by first | omega | (simp; done) | (simp; omega) | (simp at *; omega)
                          obtain ⟨y77, e77, h77⟩ : ∃ y, y = (xPa0l2.getD n9l3.toNat (0 : Int)) ∧ xPa0l2[n9l3.toNat]? = some y := ⟨_, rfl, getD_get (by first | exact hl77 | simpa using hl77 | (simp only [List.length_set]; omega) | omega | (rw [(sortI_perm _).length_eq]; exact hl77))⟩
                          obtain ⟨b77, u77, cs77, l77, f77, j77, i77, g77, k77⟩ := OwnS.elem (OwnS.mono wPa0l2 (s_l3.trans (s_c4.trans (s_l5.trans s_c6)))) h77
                          obtain rfl : l77 = [.int .u64 y77] := g77
                          refine Plan.v 12 [13, 14, 15] (by kernel_rfl) (by kernel_rfl) (by kernel_rfl) (by kernel_rfl) rfl (fun _ _ h_ => R.ixp (sz := ((intE .u64)).size) Try.underlying22 Try.sizeOf26 rfl rfl rfl (by first | omega | (simp; done) | (simp; omega) | (simp at *; omega)) i77 (TL.nil h_)) ?_
                          refine Plan.s1 13 [14, 15] (by kernel_rfl) (by kernel_rfl) rfl ?_
                          refine R.stEF (E := (intE .u64)) (e := 26) (v := (.slice Aa0 a0.length pa0)) (m := [.int .u64 y71]) (o := 0) (y := y77) (y' := y71) (j := n9l3.toNat) Try.sizeOf26 rfl (OwnS.mono wPa0l2 (s_l3.trans (s_c4.trans (s_l5.trans s_c6)))) .hd i77 rfl rfl (cells1 rfl) (all_one rfl) h77 (by show 0 + 1 ≤ 1; decide) (fun l hl => by have e0 : l = [.int .u64 y77] := hl; subst e0; exact rfl) ?_
                          intro cst117 wst117
                          refine TL.nil (Plan.e0 (HLe.refl _) ?_)
                          have hl78 : n10l5.toNat < a0.length := by first | omega | (simp; done) | (simp; omega) | (simp at *; omega)
                          obtain ⟨y78, e78, h78⟩ : ∃ y, y = (((xPa0l2.set n9l3.toNat y71)).getD n10l5.toNat (0 : Int)) ∧ ((xPa0l2.set n9l3.toNat y71))[n10l5.toNat]? = some y := ⟨_, rfl, getD_get (by first | exact hl78 | simpa using hl78 | (simp only [List.length_set]; omega) | omega | (rw [(sortI_perm _).length_eq]; exact hl78))⟩
                          obtain ⟨b78, u78, cs78, l78, f78, j78, i78, g78, k78⟩ := OwnS.elem wst117 h78
                          obtain rfl : l78 = [.int .u64 y78] := g78
                          refine Plan.v 14 [15] (by kernel_rfl) (by kernel_rfl) (by kernel_rfl) (by kernel_rfl) rfl (fun _ _ h_ => R.ixp (sz := ((intE .u64)).size) Try.underlying22 Try.sizeOf26 rfl rfl rfl (by first | omega | (simp; done) | (simp; omega) | (simp at *; omega)) i78 (TL.nil h_)) ?_
                          refine Plan.s1 15 [] (by kernel_rfl) (by kernel_rfl) rfl ?_
                          refine R.stEF (E := (intE .u64)) (e := 26) (v := (.slice Aa0 a0.length pa0)) (m := [.int .u64 y75]) (o := 0) (y := y78) (y' := y75) (j := n10l5.toNat) Try.sizeOf26 rfl wst117 .hd i78 rfl rfl (cells1 rfl) (all_one rfl) h78 (by show 0 + 1 ≤ 1; decide) (fun l hl => by have e0 : l = [.int .u64 y78] := hl; subst e0; exact rfl) ?_
                          intro cst118 wst118
                          refine TL.nil (Plan.e0 (HLe.refl _) ?_)
                          refine Plan.done (Post.thnN ?_)
                          exact ⟨((((xPa0l2.set n9l3.toNat y71)).set n10l5.toNat y75), cst118), HLe.refl _, ⟨(Has.cons .hd Has.nil), wst118, (by subst e78; subst e77; subst e75; subst e71; rfl)⟩, rfl, rfl, rfl, rfl, trivial⟩
                        · refine R.ld Try.isAgg26 rfl rfl (by rw [← f75]; exact .hd) (k75 0 _ rfl) ?_
                          refine TL.nil (Plan.e1 (HLe.refl _) ?_)
                          refine Plan.s1 7 [12, 13, 14, 15] (by kernel_rfl) (by kernel_rfl) rfl ?_
                          refine R.ld Try.isAgg26 rfl rfl (by rw [← f71]; exact .hd) (k71 0 _ rfl) ?_
                          refine TL.nil (Plan.e1 (HLe.refl _) ?_)
                          have hl77 : n9l3.toNat < a0.length := by first | omega | (simp; done) | (simp; omega) | (simp at *; omega)
                          obtain ⟨y77, e77, h77⟩ : ∃ y, y = (xPa0l2.getD n9l3.toNat (0 : Int)) ∧ xPa0l2[n9l3.toNat]? = some y := ⟨_, rfl, getD_get (by first | exact hl77 | simpa using hl77 | (simp only [List.length_set]; omega) | omega | (rw [(sortI_perm _).length_eq]; exact hl77))⟩
                          obtain ⟨b77, u77, cs77, l77, f77, j77, i77, g77, k77⟩ := OwnS.elem (OwnS.mono wPa0l2 (s_l3.trans (s_c4.trans (s_l5.trans s_c6)))) h77
                          obtain rfl : l77 = [.int .u64 y77] := g77
                          refine Plan.v 12 [13, 14, 15] (by kernel_rfl) (by kernel_rfl) (by kernel_rfl) (by kernel_rfl) rfl (fun _ _ h_ => R.ixp (sz := ((intE .u64)).size) Try.underlying22 Try.sizeOf26 rfl rfl rfl (by first | omega | (simp; done) | (simp; omega) | (simp at *; omega)) i77 (TL.nil h_)) ?_
                          refine Plan.s1 13 [14, 15] (by kernel_rfl) (by kernel_rfl) rfl ?_
                          refine R.stEF (E := (intE .u64)) (e := 26) (v := (.slice Aa0 a0.length pa0)) (m := [.int .u64 y71]) (o := 0) (y := y77) (y' := y71) (j := n9l3.toNat) Try.sizeOf26 rfl (OwnS.mono wPa0l2 (s_l3.trans (s_c4.trans (s_l5.trans s_c6)))) .hd i77 rfl rfl (cells1 rfl) (all_one rfl) h77 (by show 0 + 1 ≤ 1; decide) (fun l hl => by have e0 : l = [.int .u64 y77] := hl; subst e0; exact rfl) ?_
                          intro cst119 wst119
                          refine TL.nil (Plan.e0 (HLe.refl _) ?_)
                          have hl78 : n10l5.toNat < a0.length := by first | omega | (simp; done) | (simp; omega) | (simp at *; omega)
                          obtain ⟨y78, e78, h78⟩ : ∃ y, y = (((xPa0l2.set n9l3.toNat y71)).getD n10l5.toNat (0 : Int)) ∧ ((xPa0l2.set n9l3.toNat y71))[n10l5.toNat]? = some y := ⟨_, rfl, getD_get (by first | exact hl78 | simpa using hl78 | (simp only [List.length_set]; omega) | omega | (rw [(sortI_perm _).length_eq]; exact hl78))⟩
                          obtain ⟨b78, u78, cs78, l78, f78, j78, i78, g78, k78⟩ := OwnS.elem wst119 h78
                          obtain rfl : l78 = [.int .u64 y78] := g78
                          refine Plan.v 14 [15] (by kernel_rfl) (by kernel_rfl) (by kernel_rfl) (by kernel_rfl) rfl (fun _ _ h_ => R.ixp (sz := ((intE .u64)).size) Try.underlying22 Try.sizeOf26 rfl rfl rfl (by first | omega | (simp; done) | (simp; omega) | (simp at *; omega)) i78 (TL.nil h_)) ?_
                          refine Plan.s1 15 [] (by kernel_rfl) (by kernel_rfl) rfl ?_
                          refine R.stEF (E := (intE .u64)) (e := 26) (v := (.slice Aa0 a0.length pa0)) (m := [.int .u64 y75]) (o := 0) (y := y78) (y' := y75) (j := n10l5.toNat) Try.sizeOf26 rfl wst119 .hd i78 rfl rfl (cells1 rfl) (all_one rfl) h78 (by show 0 + 1 ≤ 1; decide) (fun l hl => by have e0 : l = [.int .u64 y78] := hl; subst e0; exact rfl) ?_
                          intro cst120 wst120
                          refine TL.nil (Plan.e0 (HLe.refl _) ?_)
                          refine Plan.done (Post.thnN ?_)
                          exact ⟨((((xPa0l2.set n9l3.toNat y71)).set n10l5.toNat y75), cst120), HLe.refl _, ⟨(Has.cons .hd Has.nil), wst120, (by subst e78; subst e77; subst e75; subst e71; rfl)⟩, rfl, rfl, rfl, rfl, trivial⟩
                      · intro ⟨xPa0c8, cPa0c8⟩ σ_c8 H_c8 L_c8 ds_c8 s_c8 hI_c8
                        obtain ⟨hLc8, wPa0c8, hTc8⟩ := hI_c8
                        have nPa0c8_ := OwnS.len wPa0c8
                        refine T.has hLc8 ?_
                        refine T.seq ?_
                        refine T.region ?_
                        refine R.mvE rfl (by conv => lhs; whnf) ?_
                        refine R.addI rfl rfl rfl (by omega) ?_
                        refine R.asE rfl (by conv => lhs; whnf) ?_
                        refine TL.nil (Post.thnN ?_)
                        refine T.region ?_
                        refine R.mvE rfl (by conv => lhs; whnf) ?_
                        refine R.subI rfl rfl rfl (by omega) ?_
                        refine R.asE rfl (by conv => lhs; whnf) ?_
                        refine TL.nil (Post.blkN ?_)
                        refine id (Post.thnN ?_)
                        exact ⟨(ml2, (n9l3 + 1), (n10l5 - 1), xPa0c8, cPa0c8), (s_l2.trans (s_l3.trans (s_c4.trans (s_l5.trans (s_c6.trans s_c8))))), ⟨(by first | omega | (simp; omega) | (simp at *; omega)), (Has.cons .hd Has.nil), wPa0c8, (by first | omega | (simp; done) | (simp; omega) | (simp at *; omega)), (by first | omega | (simp; done) | (simp; omega) | (simp at *; omega)), (by first | omega | (simp; done) | (simp; omega) | (simp at *; omega)), (by first | omega | (simp; done) | (simp; omega) | (simp at *; omega)), (by rw [← hQl2, slices_partitionEqualOrdered_Id_l2]; rw [hEl3, LR.seq_go, hEl5, LR.seq_go, if_neg c64, hTc8, LR.seq_go])⟩, by show ml2 < ml2 + 1; omega, rfl, rfl, rfl, rfl, trivial⟩
    · intro ⟨n9c7, xPa0c7, cPa0c7⟩ σ_c7 H_c7 L_c7 ds_c7 s_c7 hI_c7
      obtain ⟨hLc7, wPa0c7, hTc7⟩ := hI_c7
      have nPa0c7_ := OwnS.len wPa0c7
      refine T.has hLc7 ?_
      refine T.seq ?_
      refine T.region ?_
      refine R.mvE rfl (by conv => lhs; whnf) ?_
      refine R.asE rfl (by conv => lhs; whnf) ?_
      refine TL.nil (Post.thnN ?_)
      refine T.has (Has.cons .hd Has.nil) ?_
      refine T.ret ?_
      have hM : slices_partitionEqualOrdered_Id_m a0 a1 a2 a3 = (n9c7, xPa0c7) := by rw [slices_partitionEqualOrdered_Id_m, hTc1, LR.seq_go, hTc7, LR.seq_go]
      exact fin1L (v := .int .i64 n9c7) [cPa0c7] rfl rfl (List.Sublist.refl _) ⟨cPa0c7, by first | rw [hM] | rfl, by first | rw [hM] | rfl, by rw [hM]; exact wPa0c7⟩

end Go.SX
