/- 'IndexTurns' answers true, whatever it is handed, and what it is handed reads behind it as it did. -/
import Derived.RangeFuncNested
import Derived.RangeFuncBound
import Derived.RangeFuncCalls
import Derived.RangeFuncLeaves
import Derived.Shelf.Abstract
import Derived.Laws.AppendOwn
import Derived.Laws.OwnMore
import Derived.KernelRfl
import Derived.IntWalk
import Derived.Laws.Append
import Derived.WideLaws
import Derived.Laws.Slices
import Derived.Laws.MakeOwn
import Derived.OrdersIn
import Derived.Laws.Cover3
import Derived.Test.YtmigaagkfglabaaGreatProg
import Derived.Laws.StructEq
import Derived.Shelf.Sort.Plain
import Derived.Sort.OwnSortedInts
import Derived.Shelf.Slices.In.SortNone
import Derived.Maps.RangeRun
import Derived.Lib.AppendZeros
import Derived.Sort.AssemblyPlain
import Derived.Shelf.Small.Bits
import Derived.Sort.Walk7a
import Derived.Laws.Bits64
import Derived.Laws.Bits64b
import Derived.Shelf.Spec.SlicesInsert
import Derived.Shelf.Spec.SlicesInsertGrow
import Derived.ProofKit
import Derived.ChangeSlices
import Derived.Carry
import Derived.Deep.Slices
import Derived.OpenShut
import Derived.Test.YtmigaagkfglabaaGreatRows
import Derived.Test.YtmigaagkfglabaaGreatKT3
set_option linter.unusedVariables false
set_option linter.unusedSimpArgs false
namespace Go.SX
open Go Go.Proofs

def k_95 (srt : List Int → Int → Int → Int → List Int) : Nat → (Int × Int × Int × Bool × Bool × (List Int)) → LR ((List Int)) (Unit)
  | 0, _ => .go default
  | ml1 + 1, sl1 => if ((sl1.2.1 - sl1.1) : Int) ≤ 12 then (LR.seq (k_56 sl1.2.2.2.2.2 sl1.1 sl1.2.1) (fun r27 => .ret r27)) else (if sl1.2.2.1 = 0 then (LR.seq (k_75 sl1.2.2.2.2.2 sl1.1 sl1.2.1) (fun r33 => .ret r33)) else (LR.seq (if (!sl1.2.2.2.1) = true then (LR.seq (k_19 sl1.2.2.2.2.2 sl1.1 sl1.2.1) (fun r39 => ((sl1.2.2.1 - 1), r39))) else ((sl1.2.2.1, sl1.2.2.2.2.2)) : Int × (List Int)) (fun sc2 => LR.seq (k_13 sc2.2 sl1.1 sl1.2.1) (fun r46 => LR.seq (if r46.2.1 = 2 then (LR.seq (k_3b r46.2.2 sl1.1 sl1.2.1) (fun r54 => (((sl1.2.1 - 1) - (r46.1 - sl1.1)), 1, r54))) else ((r46.1, r46.2.1, r46.2.2)) : Int × Int × (List Int)) (fun sc3 => LR.seq (if sl1.2.2.2.1 = true then (if sl1.2.2.2.2.1 = true then ((decide (sc3.2.1 = 1))) else false) else false : Bool) (fun sc4 => LR.on (if sc4 = true then (LR.seq (k_e sc3.2.2 sl1.1 sl1.2.1) (fun r72 => if r72.1 = true then (.ret (.ret r72.2)) else (.go r72.2))) else (.go sc3.2.2) : LR (LR ((List Int)) (Unit)) ((List Int))) (fun r => r) (fun sc5 => LR.seq (if (0 : Int) < sl1.1 then ((!(k_8 (sc5.getD (((sl1.1 - 1)).toNat) (0 : Int)) (sc5.getD sc3.1.toNat (0 : Int))))) else false : Bool) (fun sc6 => if sc6 = true then (LR.seq (k_23 sc5 sl1.1 sl1.2.1 sc3.1) (fun r92 => k_95 srt ml1 ((r92.1, sl1.2.1, sc2.1, sl1.2.2.2.1, sl1.2.2.2.2.1, r92.2)))) else (LR.seq (k_3 sc5 sl1.1 sl1.2.1 sc3.1) (fun r99 => if ((r99.1 - sl1.1) : Int) < (sl1.2.1 - r99.1) then (LR.seq (srt r99.2.2 sl1.1 r99.1 sc2.1) (fun r121 => k_95 srt ml1 (((r99.1 + 1), sl1.2.1, sc2.1, (decide ((((sl1.2.1 - sl1.1) / 8) : Int) ≤ (r99.1 - sl1.1))), r99.2.1, r121)))) else (LR.seq (srt r99.2.2 ((r99.1 + 1)) sl1.2.1 sc2.1) (fun r132 => k_95 srt ml1 ((sl1.1, r99.1, sc2.1, (decide ((((sl1.2.1 - sl1.1) / 8) : Int) ≤ (sl1.2.1 - r99.1))), r99.2.1, r132))))))))))))))
def pdqStep_m (srt : List Int → Int → Int → Int → List Int) (a0 : List Int) (a1 : Int) (a2 : Int) (a3 : Int) : (List Int) :=
  LR.on (k_95 srt ((a2 - a1).toNat + 1) ((a1, a2, a3, true, true, a0))) (fun r => r) (fun _ => default)
set_option maxHeartbeats 3200000 in
theorem pdqStep_c (H : Heap) (va0 : Value) (a0 : List Int) (Ca0 : Chunk) (ha0 : OwnS (intE .u64) 43 H va0 a0 Ca0) (a1 : Int) (a2 : Int) (a3 : Int) (N : Nat) (srt : List Int → Int → Int → Int → List Int) (ih : ∀ (H : Heap) (v0 : Value) (xs : List Int) (C : Chunk), OwnS (intE .u64) 43 H v0 xs C → ∀ (a b lim : Int), 0 ≤ a → a ≤ b → b ≤ (xs.length : Int) → xs.length ≤ 4000000 → 0 ≤ lim → lim ≤ 100 → b - a < (N : Int) → Fc Tryz.prog (fnv 97) [v0, .int .i64 a, .int .i64 b, .int .i64 lim] H [C] (fun v1 H1 L1 => ∃ D, v1 = .tuple #[] ∧ L1 = [D] ∧ OwnS (intE .u64) 43 H1 v0 (srt xs a b lim) D)) (h1 : 0 ≤ a1) (h2 : a1 ≤ a2) (h3 : a2 ≤ (a0.length : Int)) (hl : a0.length ≤ 4000000) (h5 : 0 ≤ a3) (h6 : a3 ≤ 100) (hN : a2 - a1 ≤ (N : Int)) : Fc Tryz.prog (fnv 97) [va0, .int .i64 a1, .int .i64 a2, .int .i64 a3] H [Ca0] (fun v' H' L' => ∃ Da0, v' = .tuple #[] ∧ L' = [Da0] ∧ OwnS (intE .u64) 43 H' va0 (pdqStep_m srt a0 a1 a2 a3) Da0) := by
 refine Fc.of_body (N := 134) Tryz.func97 rfl kA rfl rfl ?_
 intro w0
 obtain ⟨Aa0, pa0, rfl, ma0, na0⟩ := OwnS.shape ha0
 refine sR ?_
 refine R.asE rfl cA ?_
 refine nN ?_
 refine sR ?_
 refine R.asE rfl cA ?_
 refine nN ?_
 refine T.block ?_
 refine T.loop (ι := Nat × Int × Int × Int × Bool × Bool × (List Int) × Chunk) (fun ⟨kl1, n1l1, n2l1, n3l1, b8l1, b9l1, xPa0l1, cPa0l1⟩ H' L' ds' => (n2l1 - n1l1).toNat < kl1 ∧ Has L' [cPa0l1] ∧ OwnS (intE .u64) 43 H' (.slice Aa0 a0.length pa0) xPa0l1 cPa0l1 ∧ 0 ≤ n1l1 ∧ n1l1 ≤ n2l1 ∧ n2l1 ≤ (a0.length : Int) ∧ 0 ≤ n3l1 ∧ n3l1 ≤ 100 ∧ n2l1 - n1l1 ≤ (N : Int) ∧ k_95 srt kl1 ((n1l1, n2l1, n3l1, b8l1, b9l1, xPa0l1)) = k_95 srt ((a2 - a1).toNat + 1) ((a1, a2, a3, true, true, a0))) (fun ⟨kl1, n1l1, n2l1, n3l1, b8l1, b9l1, xPa0l1, cPa0l1⟩ => [(0, .slice Aa0 a0.length pa0), (1, .int .i64 n1l1), (2, .int .i64 n2l1), (3, .int .i64 n3l1), (8, .bool (b8l1)), (9, .bool (b9l1))]) (fun ⟨kl1, n1l1, n2l1, n3l1, b8l1, b9l1, xPa0l1, cPa0l1⟩ => kl1) (((a2 - a1).toNat + 1), a1, a2, a3, true, true, a0, Ca0) ?_ ?_ ?_
 ·exact ⟨oA, (Has.cons .hd Has.nil), ha0, bA, bA, bA, bA, bA, bA, (by rfl)⟩
 ·exact ⟨rfl, rfl, rfl, rfl, rfl, rfl, trivial⟩
 intro ⟨kl1, n1l1, n2l1, n3l1, b8l1, b9l1, xPa0l1, cPa0l1⟩ σ_l1 H_l1 L_l1 ds_l1 s_l1 hI_l1
 obtain ⟨hkl1, hI_l1⟩ := hI_l1
 obtain ⟨ml1, rfl⟩ : ∃ m, kl1 = m + 1 := ⟨kl1 - 1, by omega⟩
 obtain ⟨hLl1, wPa0l1, hBl1_0, hBl1_1, hBl1_2, hBl1_3, hBl1_4, hBl1_5, hQl1⟩ := hI_l1
 have nPa0l1_ := OwnS.len wPa0l1
 refine T.has hLl1 ?_
 refine T.block ?_
 refine sR ?_
 refine R.mvE rfl cA ?_
 refine R.mvE rfl cA ?_
 refine R.subI rfl rfl rfl oA ?_
 refine R.asE rfl cA ?_
 refine nN ?_
 refine T.seq ?_
 refine sR ?_
 refine R.mvE rfl cA ?_
 refine R.leq rfl rfl rfl ?_
 refine nN ?_
 refine T.condD rfl (fun c23 => ?_) (fun c23 => ?_)
 ·refine T.set 23 (.bool true) (congrArg Value.bool (decide_eq_true c23)) ?_
  refine sR ?_
  refine R.mvE rfl cA ?_
  refine R.mvE rfl cA ?_
  refine R.mvE rfl cA ?_
  obtain ⟨r27, er27⟩ : ∃ r, r = (k_56 xPa0l1 n1l1 n2l1) := ⟨_, rfl⟩
  refine TL.call [true] rfl rfl rfl (slices_insertionSortOrdered_Id_c _ _ xPa0l1 _ wPa0l1 (n1l1) (n2l1) bA bA bA bA) ?_
  intro v27 H27 L27 s27 q27
  rw [← er27] at q27
  obtain ⟨D27_a0, rfl, rfl, w27_a0⟩ := q27
  have n27_a0_ := OwnS.len w27_a0
  refine nN ?_
  refine T.has (Has.cons .hd Has.nil) ?_
  refine T.ret (Post.thnR (Post.blkR (Post.thnR (Post.blkR ?_))))
  have hXl1 : k_95 srt ((a2 - a1).toNat + 1) ((a1, a2, a3, true, true, a0)) = .ret r27 := by subst er27; rw [← hQl1, k_95]; rw [if_pos c23, LR.seq_go]
  have hM : pdqStep_m srt a0 a1 a2 a3 = r27 := by rw [pdqStep_m, hXl1, LR.on_ret]
  exact fin0L [D27_a0] rfl (List.Sublist.refl _) ⟨D27_a0, by first | rw [hM] | rfl, by first | rw [hM] | rfl, by rw [hM]; exact w27_a0⟩
 refine T.set 23 (.bool false) (congrArg Value.bool (decide_eq_false c23)) ?_
 refine T.skip (Post.thnN ?_)
 refine T.seq ?_
 refine sR ?_
 refine R.mvE rfl cA ?_
 refine R.eql rfl rfl rfl ?_
 refine nN ?_
 refine T.condD rfl (fun c29 => ?_) (fun c29 => ?_)
 ·refine T.set 29 (.bool true) (congrArg Value.bool (decide_eq_true c29)) ?_
  refine sR ?_
  refine R.mvE rfl cA ?_
  refine R.mvE rfl cA ?_
  refine R.mvE rfl cA ?_
  obtain ⟨r33, er33⟩ : ∃ r, r = (k_75 xPa0l1 n1l1 n2l1) := ⟨_, rfl⟩
  refine TL.call [true] rfl rfl rfl (slices_heapSortOrdered_Id_c _ _ xPa0l1 _ wPa0l1 (n1l1) (n2l1) bA bA bA bA) ?_
  intro v33 H33 L33 s33 q33
  rw [← er33] at q33
  obtain ⟨D33_a0, rfl, rfl, w33_a0⟩ := q33
  have n33_a0_ := OwnS.len w33_a0
  refine nN ?_
  refine T.has (Has.cons .hd Has.nil) ?_
  refine T.ret (Post.thnR (Post.blkR (Post.thnR (Post.blkR ?_))))
  have hXl1 : k_95 srt ((a2 - a1).toNat + 1) ((a1, a2, a3, true, true, a0)) = .ret r33 := by subst er33; rw [← hQl1, k_95]; rw [if_neg c23, if_pos c29, LR.seq_go]
  have hM : pdqStep_m srt a0 a1 a2 a3 = r33 := by rw [pdqStep_m, hXl1, LR.on_ret]
  exact fin0L [D33_a0] rfl (List.Sublist.refl _) ⟨D33_a0, by first | rw [hM] | rfl, by first | rw [hM] | rfl, by rw [hM]; exact w33_a0⟩
 refine T.set 29 (.bool false) (congrArg Value.bool (decide_eq_false c29)) ?_
 refine T.skip (Post.thnN ?_)
 refine T.seq ?_
 refine sR ?_
 refine R.mvE rfl cA ?_
 refine R.not rfl rfl ?_
 refine nN ?_
 refine T.cutK (ι := Int × (List Int) × Chunk) (fun ⟨n3c2, xPa0c2, cPa0c2⟩ H' L' ds' => Has L' [cPa0c2] ∧ OwnS (intE .u64) 43 H' (.slice Aa0 a0.length pa0) xPa0c2 cPa0c2 ∧ 0 ≤ n3c2 ∧ n3c2 ≤ 100 ∧ (if (!b8l1) = true then (LR.seq (k_19 xPa0l1 n1l1 n2l1) (fun r39 => ((n3l1 - 1), r39))) else ((n3l1, xPa0l1)) : Int × (List Int)) = (n3c2, xPa0c2)) (fun ⟨n3c2, xPa0c2, cPa0c2⟩ => [(0, .slice Aa0 a0.length pa0), (1, .int .i64 n1l1), (2, .int .i64 n2l1), (3, .int .i64 n3c2), (8, .bool (b8l1)), (9, .bool (b9l1)), (10, .int .i64 (n2l1 - n1l1))]) ?_ ?_
 ·refine T.cond rfl (fun c35 => ?_) (fun c35 => ?_)
  ·refine T.set 35 (.bool true) (congrArg Value.bool c35) ?_
   refine sR ?_
   refine R.mvE rfl cA ?_
   refine R.mvE rfl cA ?_
   refine R.mvE rfl cA ?_
   obtain ⟨r39, er39⟩ : ∃ r, r = (k_19 xPa0l1 n1l1 n2l1) := ⟨_, rfl⟩
   refine TL.call [true] rfl rfl rfl (slices_breakPatternsOrdered_Id_c _ _ xPa0l1 _ wPa0l1 (n1l1) (n2l1) bA bA bA bA) ?_
   intro v39 H39 L39 s39 q39
   rw [← er39] at q39
   obtain ⟨D39_a0, rfl, rfl, w39_a0⟩ := q39
   have n39_a0_ := OwnS.len w39_a0
   refine nN ?_
   refine T.region ?_
   refine R.mvE rfl cA ?_
   refine R.subI rfl rfl rfl oA ?_
   refine R.asE rfl cA ?_
   refine nN ?_
   exact ⟨((n3l1 - 1), r39, D39_a0), s39, ⟨(Has.cons .hd Has.nil), w39_a0, bA, bA, (by subst er39; rw [if_t c35, LR.seq_go])⟩, rfl, rfl, rfl, rfl, rfl, rfl, rfl, trivial⟩
  refine T.set 35 (.bool false) (congrArg Value.bool c35) ?_
  refine T.skip (Post.thnN ?_)
  exact ⟨(n3l1, xPa0l1, cPa0l1), HLe.refl _, ⟨(Has.cons .hd Has.nil), wPa0l1, bA, bA, (by rw [if_f c35])⟩, rfl, rfl, rfl, rfl, rfl, rfl, rfl, trivial⟩
 intro ⟨n3c2, xPa0c2, cPa0c2⟩ σ_c2 H_c2 L_c2 ds_c2 s_c2 hI_c2
 obtain ⟨hLc2, wPa0c2, hBc2_0, hBc2_1, hTc2⟩ := hI_c2
 have nPa0c2_ := OwnS.len wPa0c2
 refine T.has hLc2 ?_
 refine sR ?_
 refine R.mvE rfl cA ?_
 refine R.mvE rfl cA ?_
 refine R.mvE rfl cA ?_
 obtain ⟨r46, er46⟩ : ∃ r, r = (k_13 xPa0c2 n1l1 n2l1) := ⟨_, rfl⟩
 refine TL.call [true] rfl rfl rfl (slices_choosePivotOrdered_Id_c _ _ xPa0c2 _ wPa0c2 (n1l1) (n2l1) bA bA bA bA) ?_
 intro v46 H46 L46 s46 q46
 rw [← er46] at q46
 obtain ⟨D46_a0, rfl, rfl, w46_a0⟩ := q46
 have n46_a0_ := OwnS.len w46_a0
 have tf46 := choose_f _ _ _ _ er46 bA
 refine R.mvE rfl cA ?_
 refine R.ext rfl rfl rfl ?_
 refine R.ext rfl rfl rfl ?_
 refine R.asE rfl cA ?_
 refine R.asE rfl cA ?_
 refine nN ?_
 refine T.seq ?_
 refine sR ?_
 refine R.mvE rfl cA ?_
 refine R.eql rfl rfl rfl ?_
 refine nN ?_
 refine T.cutK (ι := Int × Int × (List Int) × Chunk) (fun ⟨n11c3, n12c3, xPa0c3, cPa0c3⟩ H' L' ds' => Has L' [cPa0c3] ∧ OwnS (intE .u64) 43 H' (.slice Aa0 a0.length pa0) xPa0c3 cPa0c3 ∧ n1l1 ≤ n11c3 ∧ n11c3 < n2l1 ∧ (if r46.2.1 = 2 then (LR.seq (k_3b r46.2.2 n1l1 n2l1) (fun r54 => (((n2l1 - 1) - (r46.1 - n1l1)), 1, r54))) else ((r46.1, r46.2.1, r46.2.2)) : Int × Int × (List Int)) = (n11c3, n12c3, xPa0c3)) (fun ⟨n11c3, n12c3, xPa0c3, cPa0c3⟩ => [(0, .slice Aa0 a0.length pa0), (1, .int .i64 n1l1), (2, .int .i64 n2l1), (3, .int .i64 n3c2), (8, .bool (b8l1)), (9, .bool (b9l1)), (10, .int .i64 (n2l1 - n1l1)), (11, .int .i64 n11c3), (12, .int .i64 n12c3)]) ?_ ?_
 ·refine T.condD rfl (fun c50 => ?_) (fun c50 => ?_)
  ·refine T.set 50 (.bool true) (congrArg Value.bool (decide_eq_true c50)) ?_
   refine sR ?_
   refine R.mvE rfl cA ?_
   refine R.mvE rfl cA ?_
   refine R.mvE rfl cA ?_
   obtain ⟨r54, er54⟩ : ∃ r, r = (k_3b r46.2.2 n1l1 n2l1) := ⟨_, rfl⟩
   refine TL.call [true] rfl rfl rfl (slices_reverseRangeOrdered_Id_c _ _ r46.2.2 _ w46_a0 (n1l1) (n2l1) bA bA bA bA) ?_
   intro v54 H54 L54 s54 q54
   rw [← er54] at q54
   obtain ⟨D54_a0, rfl, rfl, w54_a0⟩ := q54
   have n54_a0_ := OwnS.len w54_a0
   refine nN ?_
   refine sR ?_
   refine R.mvE rfl cA ?_
   refine R.subI rfl rfl rfl oA ?_
   refine R.mvE rfl cA ?_
   refine R.mvE rfl cA ?_
   refine R.subI rfl rfl rfl oA ?_
   refine R.subI rfl rfl rfl oA ?_
   refine R.asE rfl cA ?_
   refine nN ?_
   refine T.region ?_
   refine R.asE rfl cA ?_
   refine nN ?_
   exact ⟨(((n2l1 - 1) - (r46.1 - n1l1)), 1, r54, D54_a0), s54, ⟨(Has.cons .hd Has.nil), w54_a0, bA, bA, (by subst er54; rw [if_pos c50, LR.seq_go])⟩, rfl, rfl, rfl, rfl, rfl, rfl, rfl, rfl, rfl, trivial⟩
  refine T.set 50 (.bool false) (congrArg Value.bool (decide_eq_false c50)) ?_
  refine T.skip (Post.thnN ?_)
  exact ⟨(r46.1, r46.2.1, r46.2.2, D46_a0), HLe.refl _, ⟨(Has.cons .hd Has.nil), w46_a0, bA, bA, (by rw [if_neg c50])⟩, rfl, rfl, rfl, rfl, rfl, rfl, rfl, rfl, rfl, trivial⟩
 intro ⟨n11c3, n12c3, xPa0c3, cPa0c3⟩ σ_c3 H_c3 L_c3 ds_c3 s_c3 hI_c3
 obtain ⟨hLc3, wPa0c3, hBc3_0, hBc3_1, hTc3⟩ := hI_c3
 have nPa0c3_ := OwnS.len wPa0c3
 refine T.has hLc3 ?_
 refine T.seq ?_
 refine T.seq ?_
 refine T.cutK (ι := Bool) (fun b68c4 H' L' ds' => Has L' [cPa0c3] ∧ (if b8l1 = true then (if b9l1 = true then ((decide (n12c3 = 1))) else false) else false : Bool) = b68c4) (fun b68c4 => [(0, .slice Aa0 a0.length pa0), (1, .int .i64 n1l1), (2, .int .i64 n2l1), (3, .int .i64 n3c2), (8, .bool (b8l1)), (9, .bool (b9l1)), (10, .int .i64 (n2l1 - n1l1)), (11, .int .i64 n11c3), (68, .bool (b68c4))]) ?_ ?_
 ·refine T.region ?_
  refine R.mvE rfl cA ?_
  refine R.mvE rfl cA ?_
  refine TL.gsplit 62 rfl (fun g62 => ?_) (fun g62 => ?_)
  ·refine R.mvE rfl cA ?_
   refine R.pkTE rfl rfl cA ?_
   refine R.mvE rfl cA ?_
   refine TL.gsplit 65 rfl (fun g65 => ?_) (fun g65 => ?_)
   ·refine R.mvE rfl cA ?_
    refine R.eql rfl rfl rfl ?_
    refine R.pkTE rfl rfl cA ?_
    refine nN ?_
    exact ⟨(decide (n12c3 = 1)), HLe.refl _, ⟨(Has.cons .hd Has.nil), (by rw [if_t g62, if_t g65])⟩, rfl, rfl, rfl, rfl, rfl, rfl, rfl, rfl, rfl, trivial⟩
   refine TL.off rfl rfl rfl ?_
   refine TL.off rfl rfl rfl ?_
   refine R.pkFE rfl rfl cA ?_
   refine nN ?_
   exact ⟨false, HLe.refl _, ⟨(Has.cons .hd Has.nil), (by rw [if_t g62, if_f g65])⟩, rfl, rfl, rfl, rfl, rfl, rfl, rfl, rfl, rfl, trivial⟩
  refine TL.off rfl rfl rfl ?_
  refine R.pkFE rfl rfl cA ?_
  refine R.mvE rfl cA ?_
  refine TL.off rfl rfl rfl ?_
  refine TL.off rfl rfl rfl ?_
  refine R.pkFE rfl rfl cA ?_
  refine nN ?_
  exact ⟨false, HLe.refl _, ⟨(Has.cons .hd Has.nil), (by rw [if_f g62])⟩, rfl, rfl, rfl, rfl, rfl, rfl, rfl, rfl, rfl, trivial⟩
 intro b68c4 σ_c4 H_c4 L_c4 ds_c4 s_c4 hI_c4
 obtain ⟨hLc4, hTc4⟩ := hI_c4
 refine T.has hLc4 ?_
 refine T.cutK (ι := (List Int) × Chunk) (fun ⟨xPa0c5, cPa0c5⟩ H' L' ds' => Has L' [cPa0c5] ∧ OwnS (intE .u64) 43 H' (.slice Aa0 a0.length pa0) xPa0c5 cPa0c5 ∧ (if b68c4 = true then (LR.seq (k_e xPa0c3 n1l1 n2l1) (fun r72 => if r72.1 = true then (.ret (.ret r72.2)) else (.go r72.2))) else (.go xPa0c3) : LR (LR ((List Int)) (Unit)) ((List Int))) = .go xPa0c5) (fun ⟨xPa0c5, cPa0c5⟩ => [(0, .slice Aa0 a0.length pa0), (1, .int .i64 n1l1), (2, .int .i64 n2l1), (3, .int .i64 n3c2), (8, .bool (b8l1)), (9, .bool (b9l1)), (10, .int .i64 (n2l1 - n1l1)), (11, .int .i64 n11c3)]) ?_ ?_
 ·refine T.cond rfl (fun c68 => ?_) (fun c68 => ?_)
  ·refine T.set 68 (.bool true) (congrArg Value.bool c68) ?_
   have hZ68 := hTc4.trans c68
   try simp only [or_f, or_t, k_bf, k_c0, decide_eq_true_eq, decide_eq_false_iff_not, Bool.not_eq_true'] at hZ68
   refine sR ?_
   refine R.mvE rfl cA ?_
   refine R.mvE rfl cA ?_
   refine R.mvE rfl cA ?_
   obtain ⟨r72, er72⟩ : ∃ r, r = (k_e xPa0c3 n1l1 n2l1) := ⟨_, rfl⟩
   refine TL.call [true] rfl rfl rfl (k_c4 _ _ xPa0c3 _ (OwnS.mono wPa0c3 s_c4) (n1l1) (n2l1) bA bA bA bA) ?_
   intro v72 H72 L72 s72 q72
   rw [← er72] at q72
   obtain ⟨D72_a0, rfl, rfl, w72_a0⟩ := q72
   have n72_a0_ := OwnS.len w72_a0
   refine nN ?_
   refine T.cond rfl (fun c72 => ?_) (fun c72 => ?_)
   ·refine T.set 72 (.bool true) (congrArg Value.bool c72) ?_
    refine T.has (Has.cons .hd Has.nil) ?_
    refine T.ret (Post.thnR (Post.blkR (Post.thnR (Post.blkR ?_))))
    have hXl1 : k_95 srt ((a2 - a1).toNat + 1) ((a1, a2, a3, true, true, a0)) = .ret r72.2 := by subst er72; subst er46; rw [← hQl1, k_95]; rw [if_neg c23, if_neg c29, hTc2, LR.seq_go, LR.seq_go, hTc3, LR.seq_go, hTc4, LR.seq_go, if_t c68, LR.seq_go, if_t c72, LR.on_ret]
    have hM : pdqStep_m srt a0 a1 a2 a3 = r72.2 := by rw [pdqStep_m, hXl1, LR.on_ret]
    exact fin0L [D72_a0] rfl (List.Sublist.refl _) ⟨D72_a0, by first | rw [hM] | rfl, by first | rw [hM] | rfl, by rw [hM]; exact w72_a0⟩
   refine T.set 72 (.bool false) (congrArg Value.bool c72) ?_
   refine T.skip (Post.thnN ?_)
   exact ⟨(r72.2, D72_a0), s72, ⟨(Has.cons .hd Has.nil), w72_a0, (by subst er72; rw [if_t c68, LR.seq_go, if_f c72])⟩, rfl, rfl, rfl, rfl, rfl, rfl, rfl, rfl, trivial⟩
  refine T.set 68 (.bool false) (congrArg Value.bool c68) ?_
  have hZ68 := hTc4.trans c68
  try simp only [or_f, or_t, k_bf, k_c0, decide_eq_true_eq, decide_eq_false_iff_not, Bool.not_eq_true'] at hZ68
  refine T.skip (Post.thnN ?_)
  exact ⟨(xPa0c3, cPa0c3), HLe.refl _, ⟨(Has.cons .hd Has.nil), (OwnS.mono wPa0c3 s_c4), (by rw [if_f c68])⟩, rfl, rfl, rfl, rfl, rfl, rfl, rfl, rfl, trivial⟩
 intro ⟨xPa0c5, cPa0c5⟩ σ_c5 H_c5 L_c5 ds_c5 s_c5 hI_c5
 obtain ⟨hLc5, wPa0c5, hTc5⟩ := hI_c5
 have nPa0c5_ := OwnS.len wPa0c5
 refine T.has hLc5 ?_
 refine T.seq ?_
 refine T.seq ?_
 refine T.cutK (ι := Bool) (fun b87c6 H' L' ds' => Has L' [cPa0c5] ∧ (if (0 : Int) < n1l1 then ((!(k_8 (xPa0c5.getD (((n1l1 - 1)).toNat) (0 : Int)) (xPa0c5.getD n11c3.toNat (0 : Int))))) else false : Bool) = b87c6) (fun b87c6 => [(0, .slice Aa0 a0.length pa0), (1, .int .i64 n1l1), (2, .int .i64 n2l1), (3, .int .i64 n3c2), (8, .bool (b8l1)), (9, .bool (b9l1)), (10, .int .i64 (n2l1 - n1l1)), (11, .int .i64 n11c3), (87, .bool (b87c6))]) ?_ ?_
 ·refine T.draw k_2b kA ?_
  refine vM 0 [1, 2, 3, 4, 5, 6, 7, 8, 9, 10, 11, 12, 13, 14] rfl rfl cA ?_
  refine vA 1 [2, 3, 4, 5, 6, 7, 8, 9, 10, 11, 12, 13, 14] rfl (fun _ _ h_ => R.gtr rfl rfl rfl (TL.nil h_)) ?_
  refine vM 2 [3, 4, 5, 6, 7, 8, 9, 10, 11, 12, 13, 14] rfl rfl cA ?_
  refine Plan.gsplitD 75 rfl (fun g75 => ?_) (fun g75 => ?_)
  ·refine vM 3 [4, 5, 6, 7, 8, 9, 10, 11, 12, 13, 14] rfl rfl cA ?_
   refine vM 4 [5, 6, 7, 8, 9, 10, 11, 12, 13, 14] rfl rfl cA ?_
   refine vA 5 [6, 7, 8, 9, 10, 11, 12, 13, 14] rfl (fun _ _ h_ => R.subI rfl rfl rfl oA (TL.nil h_)) ?_
   have hl79 : ((n1l1 - 1)).toNat < a0.length := bA
   obtain ⟨y79, e79, h79⟩ : ∃ y, y = (xPa0c5.getD (((n1l1 - 1)).toNat) (0 : Int)) ∧ xPa0c5[((n1l1 - 1)).toNat]? = some y := ⟨_, rfl, k_6 (by first | exact hl79 | simpa using hl79 | (simp only [List.length_set]; omega) | omega | (rw [(k_1 _).length_eq]; exact hl79))⟩
   obtain ⟨b79, u79, cs79, l79, f79, j79, i79, g79, k79⟩ := OwnS.elem wPa0c5 h79
   obtain rfl : l79 = [.int .u64 y79] := g79
   refine vA 6 [7, 8, 9, 10, 11, 12, 13, 14] rfl (fun _ _ h_ => R.ixp (sz := ((intE .u64)).size) Tryz.underlying30 Tryz.sizeOf43 rfl rfl rfl bA i79 (TL.nil h_)) ?_
   refine vM 8 [7, 9, 10, 11, 12, 13, 14] rfl rfl cA ?_
   refine vM 9 [7, 10, 11, 12, 13, 14] rfl rfl cA ?_
   have hl83 : n11c3.toNat < a0.length := bA
   obtain ⟨y83, e83, h83⟩ : ∃ y, y = (xPa0c5.getD n11c3.toNat (0 : Int)) ∧ xPa0c5[n11c3.toNat]? = some y := ⟨_, rfl, k_6 (by first | exact hl83 | simpa using hl83 | (simp only [List.length_set]; omega) | omega | (rw [(k_1 _).length_eq]; exact hl83))⟩
   obtain ⟨b83, u83, cs83, l83, f83, j83, i83, g83, k83⟩ := OwnS.elem wPa0c5 h83
   obtain rfl : l83 = [.int .u64 y83] := g83
   refine vA 10 [7, 11, 12, 13, 14] rfl (fun _ _ h_ => R.ixp (sz := ((intE .u64)).size) Tryz.underlying30 Tryz.sizeOf43 rfl rfl rfl bA i83 (TL.nil h_)) ?_
   refine Plan.s2 7 11 [11, 12, 13, 14] [7, 12, 13, 14] kA kA kA rfl rfl ?_ ?_
   ·refine R.ld Tryz.isAgg43 rfl rfl (by rw [← f79]; exact .hd) (k79 0 _ rfl) ?_
    refine TL.nil (Plan.e1 (HLe.refl _) ?_)
    refine Plan.s1 11 [12, 13, 14] kA kA rfl ?_
    refine R.ld Tryz.isAgg43 rfl rfl (by rw [← f83]; exact .hd) (k83 0 _ rfl) ?_
    refine TL.nil (Plan.e1 (HLe.refl _) ?_)
    refine vA 12 [13, 14] rfl (fun _ _ h_ => R.callv rfl rfl rfl (k_41 _ (y79) (y83)) (TL.nil h_)) ?_
    refine vA 13 [14] rfl (fun _ _ h_ => R.not rfl rfl (TL.nil h_)) ?_
    refine vA 14 [] rfl (fun _ _ h_ => R.pkTE rfl rfl cA (TL.nil h_)) ?_
    refine Plan.done (Post.thnN ?_)
    exact ⟨(!(k_8 y79 y83)), HLe.refl _, ⟨(Has.cons .hd Has.nil), (by subst e83; subst e79; rw [if_pos g75])⟩, rfl, rfl, rfl, rfl, rfl, rfl, rfl, rfl, rfl, trivial⟩
   refine R.ld Tryz.isAgg43 rfl rfl (by rw [← f83]; exact .hd) (k83 0 _ rfl) ?_
   refine TL.nil (Plan.e1 (HLe.refl _) ?_)
   refine Plan.s1 7 [12, 13, 14] kA kA rfl ?_
   refine R.ld Tryz.isAgg43 rfl rfl (by rw [← f79]; exact .hd) (k79 0 _ rfl) ?_
   refine TL.nil (Plan.e1 (HLe.refl _) ?_)
   refine vA 12 [13, 14] rfl (fun _ _ h_ => R.callv rfl rfl rfl (k_41 _ (y79) (y83)) (TL.nil h_)) ?_
   refine vA 13 [14] rfl (fun _ _ h_ => R.not rfl rfl (TL.nil h_)) ?_
   refine vA 14 [] rfl (fun _ _ h_ => R.pkTE rfl rfl cA (TL.nil h_)) ?_
   refine Plan.done (Post.thnN ?_)
   exact ⟨(!(k_8 y79 y83)), HLe.refl _, ⟨(Has.cons .hd Has.nil), (by subst e83; subst e79; rw [if_pos g75])⟩, rfl, rfl, rfl, rfl, rfl, rfl, rfl, rfl, rfl, trivial⟩
  refine vO 3 [4, 5, 6, 7, 8, 9, 10, 11, 12, 13, 14] rfl rfl rfl rfl ?_
  refine vO 4 [5, 6, 7, 8, 9, 10, 11, 12, 13, 14] rfl rfl rfl rfl ?_
  refine vO 5 [6, 7, 8, 9, 10, 11, 12, 13, 14] rfl rfl rfl rfl ?_
  refine vO 6 [7, 8, 9, 10, 11, 12, 13, 14] rfl rfl rfl rfl ?_
  refine vO 7 [8, 9, 10, 11, 12, 13, 14] rfl rfl rfl rfl ?_
  refine vO 8 [9, 10, 11, 12, 13, 14] rfl rfl rfl rfl ?_
  refine vO 9 [10, 11, 12, 13, 14] rfl rfl rfl rfl ?_
  refine vO 10 [11, 12, 13, 14] rfl rfl rfl rfl ?_
  refine vO 11 [12, 13, 14] rfl rfl rfl rfl ?_
  refine vO 12 [13, 14] rfl rfl rfl rfl ?_
  refine vO 13 [14] rfl rfl rfl rfl ?_
  refine vA 14 [] rfl (fun _ _ h_ => R.pkFE rfl rfl cA (TL.nil h_)) ?_
  refine Plan.done (Post.thnN ?_)
  exact ⟨false, HLe.refl _, ⟨(Has.cons .hd Has.nil), (by rw [if_neg g75])⟩, rfl, rfl, rfl, rfl, rfl, rfl, rfl, rfl, rfl, trivial⟩
 intro b87c6 σ_c6 H_c6 L_c6 ds_c6 s_c6 hI_c6
 obtain ⟨hLc6, hTc6⟩ := hI_c6
 refine T.has hLc6 ?_
 refine T.cond rfl (fun c87 => ?_) (fun c87 => ?_)
 ·refine T.set 87 (.bool true) (congrArg Value.bool c87) ?_
  have hZ87 := hTc6.trans c87
  try simp only [or_f, or_t, k_bf, k_c0, decide_eq_true_eq, decide_eq_false_iff_not, Bool.not_eq_true'] at hZ87
  refine sR ?_
  refine R.mvE rfl cA ?_
  refine R.mvE rfl cA ?_
  refine R.mvE rfl cA ?_
  refine R.mvE rfl cA ?_
  obtain ⟨r92, er92⟩ : ∃ r, r = (k_23 xPa0c5 n1l1 n2l1 n11c3) := ⟨_, rfl⟩
  refine TL.call [true] rfl rfl rfl (slices_partitionEqualOrdered_Id_c _ _ xPa0c5 _ (OwnS.mono wPa0c5 s_c6) (n1l1) (n2l1) (n11c3) bA bA bA bA bA) ?_
  intro v92 H92 L92 s92 q92
  rw [← er92] at q92
  obtain ⟨D92_a0, rfl, rfl, w92_a0⟩ := q92
  have n92_a0_ := OwnS.len w92_a0
  have tf92 := peq_f _ _ _ _ _ er92 bA
  refine R.asE rfl cA ?_
  refine nN ?_
  refine sR ?_
  refine R.mvE rfl cA ?_
  refine R.asE rfl cA ?_
  refine nN ?_
  refine T.exit (Post.thnE (Post.blkX ?_))
  refine id (Post.thnN ?_)
  exact ⟨(ml1, r92.1, n2l1, n3c2, b8l1, b9l1, r92.2, D92_a0), (s_l1.trans (s_c2.trans (s46.trans (s_c3.trans (s_c4.trans (s_c5.trans (s_c6.trans s92))))))), ⟨(by first | omega | (simp; omega) | (simp at *; omega)), (Has.cons .hd Has.nil), w92_a0, bA, bA, bA, bA, bA, bA, (by subst er92; subst er46; rw [← hQl1, k_95]; rw [if_neg c23, if_neg c29, hTc2, LR.seq_go, LR.seq_go, hTc3, LR.seq_go, hTc4, LR.seq_go, hTc5, LR.on_go, hTc6, LR.seq_go, if_t c87, LR.seq_go])⟩, by show ml1 < ml1 + 1; omega, rfl, rfl, rfl, rfl, rfl, rfl, trivial⟩
 refine T.set 87 (.bool false) (congrArg Value.bool c87) ?_
 have hZ87 := hTc6.trans c87
 try simp only [or_f, or_t, k_bf, k_c0, decide_eq_true_eq, decide_eq_false_iff_not, Bool.not_eq_true'] at hZ87
 refine T.skip (Post.thnN ?_)
 refine sR ?_
 refine R.mvE rfl cA ?_
 refine R.mvE rfl cA ?_
 refine R.mvE rfl cA ?_
 refine R.mvE rfl cA ?_
 obtain ⟨r99, er99⟩ : ∃ r, r = (k_3 xPa0c5 n1l1 n2l1 n11c3) := ⟨_, rfl⟩
 refine TL.call [true] rfl rfl rfl (slices_partitionOrdered_Id_c _ _ xPa0c5 _ (OwnS.mono wPa0c5 s_c6) (n1l1) (n2l1) (n11c3) bA bA bA bA bA) ?_
 intro v99 H99 L99 s99 q99
 rw [← er99] at q99
 obtain ⟨D99_a0, rfl, rfl, w99_a0⟩ := q99
 have n99_a0_ := OwnS.len w99_a0
 have tf99 := pp_f _ _ _ _ _ er99 bA
 refine R.mvE rfl cA ?_
 refine R.ext rfl rfl rfl ?_
 refine R.ext rfl rfl rfl ?_
 refine R.asE rfl cA ?_
 refine R.asE rfl cA ?_
 refine nN ?_
 refine sR ?_
 refine R.mvE rfl cA ?_
 refine R.asE rfl cA ?_
 refine nN ?_
 refine sR ?_
 refine R.mvE rfl cA ?_
 refine R.mvE rfl cA ?_
 refine R.subI rfl rfl rfl oA ?_
 refine R.mvE rfl cA ?_
 refine R.mvE rfl cA ?_
 refine R.subI rfl rfl rfl oA ?_
 refine R.asE rfl cA ?_
 refine R.asE rfl cA ?_
 refine nN ?_
 refine sR ?_
 refine R.mvE rfl cA ?_
 refine R.quoI rfl rfl rfl oA ?_
 refine R.asE rfl cA ?_
 refine nN ?_
 refine sR ?_
 refine R.mvE rfl cA ?_
 refine R.mvE rfl cA ?_
 refine R.lss rfl rfl rfl ?_
 refine nN ?_
 refine T.condD rfl (fun c113 => ?_) (fun c113 => ?_)
 ·refine T.set 113 (.bool true) (congrArg Value.bool (decide_eq_true c113)) ?_
  refine sR ?_
  refine R.mvE rfl cA ?_
  refine R.mvE rfl cA ?_
  refine R.geq rfl rfl rfl ?_
  refine R.asE rfl cA ?_
  refine nN ?_
  refine sR ?_
  refine R.mvE rfl cA ?_
  refine R.mvE rfl cA ?_
  refine R.mvE rfl cA ?_
  refine R.mvE rfl cA ?_
  obtain ⟨r121, er121⟩ : ∃ r, r = (srt r99.2.2 n1l1 r99.1 n3c2) := ⟨_, rfl⟩
  refine TL.call [true] rfl rfl rfl (ih _ _ r99.2.2 _ w99_a0 (n1l1) (r99.1) (n3c2) bA bA bA bA bA bA bA) ?_
  intro v121 H121 L121 s121 q121
  rw [← er121] at q121
  obtain ⟨D121_a0, rfl, rfl, w121_a0⟩ := q121
  have n121_a0_ := OwnS.len w121_a0
  refine nN ?_
  refine T.region ?_
  refine R.mvE rfl cA ?_
  refine R.addI rfl rfl rfl oA ?_
  refine R.asE rfl cA ?_
  refine TL.nil (Post.blkN ?_)
  refine id (Post.thnN ?_)
  exact ⟨(ml1, (r99.1 + 1), n2l1, n3c2, (decide ((((n2l1 - n1l1) / 8) : Int) ≤ (r99.1 - n1l1))), r99.2.1, r121, D121_a0), (s_l1.trans (s_c2.trans (s46.trans (s_c3.trans (s_c4.trans (s_c5.trans (s_c6.trans (s99.trans s121)))))))), ⟨(by first | omega | (simp; omega) | (simp at *; omega)), (Has.cons .hd Has.nil), w121_a0, bA, bA, bA, bA, bA, bA, (by subst er121; subst er99; subst er46; rw [← hQl1, k_95]; rw [if_neg c23, if_neg c29, hTc2, LR.seq_go, LR.seq_go, hTc3, LR.seq_go, hTc4, LR.seq_go, hTc5, LR.on_go, hTc6, LR.seq_go, if_f c87, LR.seq_go, if_pos c113, LR.seq_go])⟩, by show ml1 < ml1 + 1; omega, rfl, rfl, rfl, rfl, rfl, rfl, trivial⟩
 refine T.set 113 (.bool false) (congrArg Value.bool (decide_eq_false c113)) ?_
 refine sR ?_
 refine R.mvE rfl cA ?_
 refine R.mvE rfl cA ?_
 refine R.geq rfl rfl rfl ?_
 refine R.asE rfl cA ?_
 refine nN ?_
 refine sR ?_
 refine R.mvE rfl cA ?_
 refine R.mvE rfl cA ?_
 refine R.addI rfl rfl rfl oA ?_
 refine R.mvE rfl cA ?_
 refine R.mvE rfl cA ?_
 obtain ⟨r132, er132⟩ : ∃ r, r = (srt r99.2.2 ((r99.1 + 1)) n2l1 n3c2) := ⟨_, rfl⟩
 refine TL.call [true] rfl rfl rfl (ih _ _ r99.2.2 _ w99_a0 ((r99.1 + 1)) (n2l1) (n3c2) bA bA bA bA bA bA bA) ?_
 intro v132 H132 L132 s132 q132
 rw [← er132] at q132
 obtain ⟨D132_a0, rfl, rfl, w132_a0⟩ := q132
 have n132_a0_ := OwnS.len w132_a0
 refine nN ?_
 refine T.region ?_
 refine R.mvE rfl cA ?_
 refine R.asE rfl cA ?_
 refine TL.nil (Post.blkN ?_)
 refine id (Post.thnN ?_)
 exact ⟨(ml1, n1l1, r99.1, n3c2, (decide ((((n2l1 - n1l1) / 8) : Int) ≤ (n2l1 - r99.1))), r99.2.1, r132, D132_a0), (s_l1.trans (s_c2.trans (s46.trans (s_c3.trans (s_c4.trans (s_c5.trans (s_c6.trans (s99.trans s132)))))))), ⟨(by first | omega | (simp; omega) | (simp at *; omega)), (Has.cons .hd Has.nil), w132_a0, bA, bA, bA, bA, bA, bA, (by subst er132; subst er99; subst er46; rw [← hQl1, k_95]; rw [if_neg c23, if_neg c29, hTc2, LR.seq_go, LR.seq_go, hTc3, LR.seq_go, hTc4, LR.seq_go, hTc5, LR.on_go, hTc6, LR.seq_go, if_f c87, LR.seq_go, if_neg c113, LR.seq_go])⟩, by show ml1 < ml1 + 1; omega, rfl, rfl, rfl, rfl, rfl, rfl, trivial⟩
end Go.SX

set_option linter.unusedVariables false
set_option linter.unusedSimpArgs false
namespace Go.SX
open Go
theorem part_rng (lt : Int → Int → Bool) (a : Nat) : ∀ (k i j : Nat) (d : Array Int), j + 1 - i ≤ k → a + 1 ≤ i → a ≤ j → a ≤ (Sort.partLoop lt a i j d).1 ∧ (Sort.partLoop lt a i j d).1 ≤ j
  | k, i, j, d, h, h1, h2 => by
    rw [Sort.partLoop]
    have hu := scanUp_le (fun x => lt x d[a]!) d j (j + 1 - i) i (Nat.le_refl _)
    generalize Sort.scanUp (fun x => lt x d[a]!) d j i = i2 at *
    have hd := scanDown_le (fun x => !lt x d[a]!) d i2 (by omega) j
    have hz : i2 > j → Sort.scanDown (fun x => !lt x d[a]!) d i2 j = j := fun hij => by
      cases j with
      | zero => rw [Sort.scanDown]
      | succ j => rw [Sort.scanDown, decide_eq_false (show ¬ i2 ≤ j + 1 by omega), Bool.false_and, if_neg Bool.false_ne_true]
    generalize Sort.scanDown (fun x => !lt x d[a]!) d i2 j = j2 at *
    have ha : a ≤ j2 := by
      by_cases hij : i2 > j
      · have := hz hij; omega
      · omega
    by_cases hc : i2 > j2
    · rw [if_pos hc]; exact ⟨ha, hd.1⟩
    · rw [if_neg hc]
      split
      · cases k with
        | zero => omega
        | succ k => have := part_rng lt a k (i2 + 1) (j2 - 1) (Sort.swp d i2 j2) (by omega) (by omega) (by omega); omega
      · exact ⟨ha, hd.1⟩
theorem partition_rng (lt : Int → Int → Bool) (d : Array Int) (a b p : Nat) (hab : a < b) : a ≤ (Sort.partition lt d a b p).1 ∧ (Sort.partition lt d a b p).1 < b := by
  unfold Sort.partition
  simp only
  generalize Sort.swp d a p = d
  have hu := scanUp_le (fun x => lt x d[a]!) d (b - 1) (b - 1 + 1 - (a + 1)) (a + 1) (Nat.le_refl _)
  generalize Sort.scanUp (fun x => lt x d[a]!) d (b - 1) (a + 1) = i at *
  have hd := scanDown_le (fun x => !lt x d[a]!) d i (by omega) (b - 1)
  generalize Sort.scanDown (fun x => !lt x d[a]!) d i (b - 1) = j at *
  by_cases hc : i > j
  · rw [if_pos hc]; simp only; omega
  · rw [if_neg hc]
    have := part_rng lt a (j - 1 + 1 - (i + 1)) (i + 1) (j - 1) (Sort.swp d i j) (Nat.le_refl _) (by omega) (by omega)
    simp only; omega
theorem hint2 (h : Sort.Hint) : (hintN h = 2) ↔ h = .decreasing := by cases h <;> simp [hintN]
theorem hint1 (h : Sort.Hint) : decide (hintN h = 1) = decide (h = .increasing) := by cases h <;> simp [hintN]
theorem so_body (srt : List Int → Int → Int → Int → List Int) (hs : ∀ (xs : List Int) (a b lim : Nat), srt xs (a : Int) (b : Int) (lim : Int) = (Sort.pdq Sort.ltInt xs.toArray a b lim true true).toList) :
    ∀ (k a b lim m : Nat) (wb wp : Bool) (xs : List Int), b - a ≤ k → k < m → a ≤ b → b ≤ 4000000 →
      LR.on (k_95 srt m ((a : Int), (b : Int), (lim : Int), wb, wp, xs)) (fun r => r) (fun _ => default) = (Sort.pdq Sort.ltInt xs.toArray a b lim wb wp).toList
  | k, a, b, lim, 0, wb, wp, xs, _, h, _, _ => by omega
  | k, a, b, lim, m + 1, wb, wp, xs, h1, h2, h3, h4 => by
    rw [k_95, Sort.pdq]
    by_cases h12 : b - a ≤ 12
    · rw [if_pos (show (b : Int) - (a : Int) ≤ 12 by omega), if_pos h12, LR.seq_go, LR.on_ret, so_ins]
    rw [if_neg (show ¬ (b : Int) - (a : Int) ≤ 12 by omega), if_neg h12]
    by_cases h0 : lim = 0
    · rw [if_pos (show (lim : Int) = 0 by omega), if_pos h0, LR.seq_go, LR.on_ret, so_heap _ _ _ (by omega)]
    rw [if_neg (show ¬ (lim : Int) = 0 by omega), if_neg h0]
    simp only [LR.seq_go]
    have e2 : (if (!wb) = true then ((lim : Int) - 1, k_19 xs (a : Int) (b : Int)) else ((lim : Int), xs)) = (((if (!wb) = true then lim - 1 else lim : Nat) : Int), (if (!wb) = true then Sort.breakPatterns xs.toArray a b else xs.toArray).toList) := by
      cases wb with
      | true => rfl
      | false =>
        show ((lim : Int) - 1, k_19 xs (a : Int) (b : Int)) = (((lim - 1 : Nat) : Int), (Sort.breakPatterns xs.toArray a b).toList)
        rw [so_break xs a b (by omega) h4]; exact Prod.ext (by simp only; omega) rfl
    rw [e2]
    generalize (if (!wb) = true then lim - 1 else lim) = lim'
    obtain ⟨ys, hys⟩ : ∃ ys : List Int, (if (!wb) = true then Sort.breakPatterns xs.toArray a b else xs.toArray) = ys.toArray := ⟨_, (Array.toArray_toList).symm⟩
    rw [hys]
    simp only
    rw [so_choose ys a b (by omega)]
    have hc := Sort.choosePivot_holds Sort.ltInt ys.toArray a b (by omega)
    generalize Sort.choosePivot Sort.ltInt ys.toArray a b = c at *
    simp only
    have e3 : (if hintN c.2 = 2 then (((b : Int) - 1 - ((c.1 : Int) - (a : Int))), (1 : Int), k_3b ys (a : Int) (b : Int)) else ((c.1 : Int), hintN c.2, ys)) = (((if c.2 = .decreasing then b - 1 - (c.1 - a) else c.1 : Nat) : Int), hintN (if c.2 = .decreasing then .increasing else c.2), (if c.2 = .decreasing then Sort.reverseRange ys.toArray a b else ys.toArray).toList) := by
      by_cases hd : c.2 = .decreasing
      · rw [if_pos ((hint2 _).2 hd), if_pos hd, if_pos hd, if_pos hd, so_rev ys a b (by omega)]
        exact Prod.ext (by simp only; omega) rfl
      · rw [if_neg (fun q => hd ((hint2 _).1 q)), if_neg hd, if_neg hd, if_neg hd]
    rw [e3]
    have hpv : a ≤ (if c.2 = .decreasing then b - 1 - (c.1 - a) else c.1) ∧ (if c.2 = .decreasing then b - 1 - (c.1 - a) else c.1) < b := by split <;> omega
    generalize (if c.2 = .decreasing then b - 1 - (c.1 - a) else c.1) = p at *
    generalize (if c.2 = .decreasing then Sort.Hint.increasing else c.2) = hh
    obtain ⟨zs, hzs⟩ : ∃ zs : List Int, (if c.2 = .decreasing then Sort.reverseRange ys.toArray a b else ys.toArray) = zs.toArray := ⟨_, (Array.toArray_toList).symm⟩
    rw [hzs]
    simp only
    have e4 : (if wb = true then (if wp = true then decide (hintN hh = 1) else false) else false) = (wb && wp && decide (hh = .increasing)) := by rw [hint1]; cases wb <;> cases wp <;> rfl
    rw [e4]
    have tail : ∀ ws : List Int, LR.on (if (if (0 : Int) < (a : Int) then (!(k_8 (ws.getD ((a : Int) - 1).toNat 0) (ws.getD (p : Int).toNat 0))) else false) = true then
          k_95 srt m ((k_23 ws (a : Int) (b : Int) (p : Int)).1, (b : Int), (lim' : Int), wb, wp, (k_23 ws (a : Int) (b : Int) (p : Int)).2)
        else if (k_3 ws (a : Int) (b : Int) (p : Int)).1 - (a : Int) < (b : Int) - (k_3 ws (a : Int) (b : Int) (p : Int)).1 then
          k_95 srt m ((k_3 ws (a : Int) (b : Int) (p : Int)).1 + 1, (b : Int), (lim' : Int), decide (((b : Int) - (a : Int)) / 8 ≤ (k_3 ws (a : Int) (b : Int) (p : Int)).1 - (a : Int)), (k_3 ws (a : Int) (b : Int) (p : Int)).2.1, srt (k_3 ws (a : Int) (b : Int) (p : Int)).2.2 (a : Int) (k_3 ws (a : Int) (b : Int) (p : Int)).1 (lim' : Int))
        else
          k_95 srt m ((a : Int), (k_3 ws (a : Int) (b : Int) (p : Int)).1, (lim' : Int), decide (((b : Int) - (a : Int)) / 8 ≤ (b : Int) - (k_3 ws (a : Int) (b : Int) (p : Int)).1), (k_3 ws (a : Int) (b : Int) (p : Int)).2.1, srt (k_3 ws (a : Int) (b : Int) (p : Int)).2.2 ((k_3 ws (a : Int) (b : Int) (p : Int)).1 + 1) (b : Int) (lim' : Int))) (fun r => r) (fun _ => default)
        = (if (decide (a > 0) && !Sort.ltInt ws.toArray[a - 1]! ws.toArray[p]!) = true then
            match Sort.partitionEqual Sort.ltInt ws.toArray a b p with
            | (mid, d4) => if _h : a < mid ∧ mid ≤ b then Sort.pdq Sort.ltInt d4 mid b lim' wb wp else d4
          else
            match Sort.partition Sort.ltInt ws.toArray a b p with
            | (mid, alreadyPartitioned, d4) =>
              if _h : a ≤ mid ∧ mid < b then
                if mid - a < b - mid then
                  Sort.pdq Sort.ltInt (Sort.pdq Sort.ltInt d4 a mid lim' true true) (mid + 1) b lim' (decide (mid - a ≥ (b - a) / 8)) alreadyPartitioned
                else
                  Sort.pdq Sort.ltInt (Sort.pdq Sort.ltInt d4 (mid + 1) b lim' true true) a mid lim' (decide (b - mid ≥ (b - a) / 8)) alreadyPartitioned
              else d4).toList := fun ws => by
      rw [so_ifd, so_less, show decide ((0 : Int) < (a : Int)) = decide (a > 0) by rw [decide_eq_decide]; omega, show ((a : Int) - 1).toNat = a - 1 by omega, Int.toNat_natCast, so_get, so_get]
      cases hq : (decide (a > 0) && !Sort.ltInt (ws.getD (a - 1) 0) (ws.getD p 0)) with
      | true =>
        rw [if_pos rfl, if_pos rfl, so_pe ws a b p (by omega)]
        have hr := partEq_rng Sort.ltInt a (b - 1 + 1 - (a + 1)) (a + 1) (b - 1) (Sort.swp ws.toArray a p) (Nat.le_refl _) (by omega)
        change a + 1 ≤ (Sort.partitionEqual Sort.ltInt ws.toArray a b p).1 ∧ (Sort.partitionEqual Sort.ltInt ws.toArray a b p).1 ≤ max (a + 1) (b - 1 + 1) at hr
        generalize Sort.partitionEqual Sort.ltInt ws.toArray a b p = q at *
        obtain ⟨mid, d4⟩ := q
        dsimp only [pairI2] at *
        rw [dif_pos (by omega)]
        cases k with
        | zero => omega
        | succ k =>
          have := so_body srt hs k mid b lim' m wb wp d4.toList (by omega) (by omega) (by omega) h4
          rw [Array.toArray_toList] at this
          exact this
      | false =>
        rw [if_neg Bool.false_ne_true, if_neg Bool.false_ne_true, so_pp ws a b p (by omega)]
        have hr := partition_rng Sort.ltInt ws.toArray a b p (by omega)
        generalize Sort.partition Sort.ltInt ws.toArray a b p = q at *
        obtain ⟨mid, al, d4⟩ := q
        dsimp only [trip] at *
        rw [dif_pos hr]
        cases k with
        | zero => omega
        | succ k =>
          change LR.on (if (mid : Int) - (a : Int) < (b : Int) - (mid : Int) then k_95 srt m ((mid : Int) + 1, (b : Int), (lim' : Int), decide (((b : Int) - (a : Int)) / 8 ≤ (mid : Int) - (a : Int)), al, srt d4.toList (a : Int) (mid : Int) (lim' : Int)) else k_95 srt m ((a : Int), (mid : Int), (lim' : Int), decide (((b : Int) - (a : Int)) / 8 ≤ (b : Int) - (mid : Int)), al, srt d4.toList ((mid : Int) + 1) (b : Int) (lim' : Int))) (fun r => r) (fun _ => default) = _
          by_cases hm : mid - a < b - mid
          · refine (congrArg (fun z => LR.on z (fun r => r) (fun _ => default)) (if_pos (show (mid : Int) - (a : Int) < (b : Int) - (mid : Int) by omega))).trans ?_
            rw [if_pos hm, hs, Array.toArray_toList, show (mid : Int) + 1 = ((mid + 1 : Nat) : Int) by omega, show decide (((b : Int) - (a : Int)) / 8 ≤ (mid : Int) - (a : Int)) = decide (mid - a ≥ (b - a) / 8) by rw [decide_eq_decide]; omega]
            have := so_body srt hs k (mid + 1) b lim' m (decide (mid - a ≥ (b - a) / 8)) al (Sort.pdq Sort.ltInt d4 a mid lim' true true).toList (by omega) (by omega) (by omega) h4
            rw [Array.toArray_toList] at this
            exact this
          · refine (congrArg (fun z => LR.on z (fun r => r) (fun _ => default)) (if_neg (show ¬ (mid : Int) - (a : Int) < (b : Int) - (mid : Int) by omega))).trans ?_
            rw [if_neg hm, show (mid : Int) + 1 = ((mid + 1 : Nat) : Int) by omega, hs, Array.toArray_toList, show decide (((b : Int) - (a : Int)) / 8 ≤ (b : Int) - (mid : Int)) = decide (b - mid ≥ (b - a) / 8) by rw [decide_eq_decide]; omega]
            have := so_body srt hs k a mid lim' m (decide (b - mid ≥ (b - a) / 8)) al (Sort.pdq Sort.ltInt d4 (mid + 1) b lim' true true).toList (by omega) (by omega) (by omega) (by omega)
            rw [Array.toArray_toList] at this
            exact this
    cases hq : (wb && wp && decide (hh = .increasing)) with
    | false =>
      rw [if_neg Bool.false_ne_true, if_neg Bool.false_ne_true, LR.on_go, if_neg Bool.false_ne_true]
      exact tail zs
    | true =>
      rw [if_pos rfl, if_pos rfl, so_part zs a b (by omega)]
      generalize Sort.partialInsertionSort Sort.ltInt zs.toArray a b = q
      obtain ⟨d3, fin⟩ := q
      simp only [pairL]
      cases fin with
      | true => rfl
      | false =>
        have := tail d3.toList
        rw [Array.toArray_toList] at this
        exact this
/-- slices.Sort's answer, by the library's plain functions -/
def pdqM (xs : List Int) (a b lim : Int) : List Int := (Sort.pdq Sort.ltInt xs.toArray a.toNat b.toNat lim.toNat true true).toList
theorem pdqM_step (xs : List Int) (a b lim : Int) (h0 : 0 ≤ a) (h1 : a ≤ b) (h2 : b ≤ 4000000) (h3 : 0 ≤ lim) : pdqStep_m pdqM xs a b lim = pdqM xs a b lim := by
  obtain ⟨a, rfl⟩ : ∃ n : Nat, a = n := ⟨a.toNat, by omega⟩
  obtain ⟨b, rfl⟩ : ∃ n : Nat, b = n := ⟨b.toNat, by omega⟩
  obtain ⟨lim, rfl⟩ : ∃ n : Nat, lim = n := ⟨lim.toNat, by omega⟩
  unfold pdqStep_m
  rw [so_body pdqM (fun xs a b lim => by unfold pdqM; simp only [Int.toNat_natCast]) (b - a) a b lim _ true true xs (Nat.le_refl _) (by omega) (by omega) (by omega)]
  unfold pdqM; simp only [Int.toNat_natCast]
theorem pdqM_sort (xs : List Int) (lim : Int) : pdqM xs 0 (xs.length : Int) lim = sortI xs := by
  unfold pdqM
  simp only [Int.toNat_natCast]
  have h := Sort.pdq_sorts Sort.ltInt Sort.swo_ltInt xs.toArray 0 xs.length lim.toNat true true (Nat.zero_le _) (by simp) (.inl rfl)
  have := Sort.sorted_unique_holds Sort.swo_ltInt (fun x y h1 h2 => by unfold Sort.ltInt at h1 h2; rw [decide_eq_false_iff_not] at h1 h2; omega) xs.toArray (Sort.pdq Sort.ltInt xs.toArray 0 xs.length lim.toNat true true) (by simpa using h.1) (by simpa using h.2)
  rw [show (0 : Int).toNat = 0 from rfl, this]
  unfold sortI
  simp only [List.toList_toArray]
  congr 1
  funext x y
  unfold Sort.ltInt
  rw [← decide_not]
  rw [decide_eq_decide]; omega
end Go.SX

set_option linter.unusedVariables false
set_option linter.unusedSimpArgs false
namespace Go.SX
open Go Go.Proofs

theorem pdqAll : ∀ (N : Nat) (H : Heap) (v0 : Value) (xs : List Int) (C : Chunk), OwnS (intE .u64) 43 H v0 xs C → ∀ (a b lim : Int), 0 ≤ a → a ≤ b → b ≤ (xs.length : Int) → xs.length ≤ 4000000 → 0 ≤ lim → lim ≤ 100 → b - a < (N : Int) →
    Fc Tryz.prog (fnv 97) [v0, .int .i64 a, .int .i64 b, .int .i64 lim] H [C] (fun v1 H1 L1 => ∃ D, v1 = .tuple #[] ∧ L1 = [D] ∧ OwnS (intE .u64) 43 H1 v0 (pdqM xs a b lim) D)
  | 0, H, v0, xs, C, ho, a, b, lim, h1, h2, h3, h4, h5, h6, h7 => by omega
  | N + 1, H, v0, xs, C, ho, a, b, lim, h1, h2, h3, h4, h5, h6, h7 => by
    rw [← pdqM_step xs a b lim h1 h2 (by omega) h5]
    exact pdqStep_c H v0 xs C ho a b lim N pdqM (pdqAll N) h1 h2 h3 h4 h5 h6 (by omega)
theorem pdqF_c (H : Heap) (v0 : Value) (xs : List Int) (C : Chunk) (ho : OwnS (intE .u64) 43 H v0 xs C) (a b lim : Int) (h1 : 0 ≤ a) (h2 : a ≤ b) (h3 : b ≤ (xs.length : Int)) (h4 : xs.length ≤ 4000000) (h5 : 0 ≤ lim) (h6 : lim ≤ 100) :
    Fc Tryz.prog (fnv 97) [v0, .int .i64 a, .int .i64 b, .int .i64 lim] H [C] (fun v1 H1 L1 => ∃ D, v1 = .tuple #[] ∧ L1 = [D] ∧ OwnS (intE .u64) 43 H1 v0 (pdqM xs a b lim) D) :=
  pdqAll ((b - a).toNat + 1) H v0 xs C ho a b lim h1 h2 h3 h4 h5 h6 (by omega)
theorem blen_le (n : Nat) (h : n ≤ 4000000) : 0 ≤ blen (n : Int) ∧ blen (n : Int) ≤ 100 := by
  have hl : Sort.bitsLen n ≤ 22 := (Sort.bitsLen_le_iff n 22).2 (by omega)
  unfold blen
  rw [Int.toNat_natCast, Go.Proofs.bitLen_eq n (by omega)]
  omega
def k_af (a0 : List Int) : (List Int) :=
  LR.seq (pdqM a0 0 ((a0.length : Int)) ((blen ((a0.length : Int))))) (fun r10 => r10)
set_option maxHeartbeats 3200000 in
theorem slices_Sort_Id_c (H : Heap) (va0 : Value) (a0 : List Int) (Ca0 : Chunk) (ha0 : OwnS (intE .u64) 43 H va0 a0 Ca0) (hl : a0.length ≤ 4000000) : Fc Tryz.prog (fnv 84) [va0] H [Ca0] (fun v' H' L' => ∃ Da0, v' = .tuple #[] ∧ L' = [Da0] ∧ OwnS (intE .u64) 43 H' va0 (k_af a0) Da0) := by
 refine Fc.of_body (N := 11) Tryz.func84 rfl kA rfl rfl ?_
 intro w0
 obtain ⟨Aa0, pa0, rfl, ma0, na0⟩ := OwnS.shape ha0
 refine sR ?_
 refine R.mvE rfl cA ?_
 refine R.len Tryz.underlying30 rfl rfl ?_
 refine R.asE rfl cA ?_
 refine nN ?_
 have hb := blen_le a0.length hl
 refine T.region ?_
 refine R.mvE rfl cA ?_
 refine R.mvE rfl cA ?_
 refine R.mvE rfl cA ?_
 refine R.convU Tryz.underlying3 Tryz.underlying86 rfl rfl oA ?_
 refine R.callv rfl rfl rfl (blen_c _ ((a0.length : Int)) bA bA) ?_
 obtain ⟨r10, er10⟩ : ∃ r, r = (pdqM a0 0 ((a0.length : Int)) ((blen ((a0.length : Int))))) := ⟨_, rfl⟩
 refine TL.call [true] rfl rfl rfl (pdqF_c _ _ a0 _ ha0 (0) ((a0.length : Int)) ((blen ((a0.length : Int)))) bA bA bA bA bA bA) ?_
 intro v10 H10 L10 s10 q10
 rw [← er10] at q10
 obtain ⟨D10_a0, rfl, rfl, w10_a0⟩ := q10
 have n10_a0_ := OwnS.len w10_a0
 refine TL.nil ?_
 have hM : k_af a0 = r10 := by subst er10; rw [k_af, LR.seq_go]
 exact fin0N [D10_a0] rfl (List.Sublist.cons_cons _ (List.nil_sublist _)) ⟨D10_a0, by first | rw [hM] | rfl, by first | rw [hM] | rfl, by rw [hM]; exact w10_a0⟩
theorem slices_Sort_Id_sort (a0 : List Int) : k_af a0 = sortI a0 := by
  unfold k_af
  simp only [LR.seq_go]
  exact pdqM_sort a0 _
end Go.SX

set_option linter.unusedVariables false
set_option linter.unusedSimpArgs false
namespace Go.SX
open Go Go.Proofs
def Y65 : Heap → List Value → (Int) → Prop := fun H vs y => vs = [.int .u64 y]

def k_74 (yl1 : Int) : Nat → Nat → Unit → List Int
  | 0, kl2, sl2 => []
  | ml2 + 1, kl2, sl2 => if ((k_67 (([(((k_40 yl1).1, 0) : Int × Int), ((0, (k_40 yl1).2) : Int × Int), ((0, 0) : Int × Int)] : List (Int × Int)).getD ((kl2 : Int)).toNat (((0, 0) : Int × Int) : Int × Int)).1 (([(((k_40 yl1).1, 0) : Int × Int), ((0, (k_40 yl1).2) : Int × Int), ((0, 0) : Int × Int)] : List (Int × Int)).getD ((kl2 : Int)).toNat (((0, 0) : Int × Int) : Int × Int)).2).2 : Int) = 0 then (((k_67 (([(((k_40 yl1).1, 0) : Int × Int), ((0, (k_40 yl1).2) : Int × Int), ((0, 0) : Int × Int)] : List (Int × Int)).getD ((kl2 : Int)).toNat (((0, 0) : Int × Int) : Int × Int)).1 (([(((k_40 yl1).1, 0) : Int × Int), ((0, (k_40 yl1).2) : Int × Int), ((0, 0) : Int × Int)] : List (Int × Int)).getD ((kl2 : Int)).toNat (((0, 0) : Int × Int) : Int × Int)).2).1) :: (k_74 yl1 ml2 (kl2 + 1) ())) else (k_74 yl1 ml2 (kl2 + 1) ())
def k_5f  : List Int → Unit → List Int
  | [], sl1 => []
  | yl1 :: ysl1, sl1 => yl1 :: (if ((kindG yl1) : Int) ≠ 3 then (k_5f ysl1 ()) else ((k_74 yl1 (3 - 0) 0 ()) ++ (k_5f ysl1 ())))
def k_93 (q0 : List Int) : List Int :=
  (k_5f q0 ()) ++ []
set_option maxHeartbeats 3200000 in
theorem index_keys_1_c (H : Heap) (b1000 : Nat) (vq0 : Value) (q0 : List Int) (hq0 : RdS (intE .u64) H vq0 q0) (hb0 : H b1000 = some (.cells #[vq0] 30)) : Iter Tryz.prog (.func (.func 82) #[] ([.pointer (some ⟨b1000, 0, none⟩)] : List Value).toArray) Y65 H (k_93 q0) := by
 intro l J Jx H1 Lc s1 hJ hJx hY h0
 obtain ⟨Aq0, cq0, rfl, hcq0, hdq0, hq0⟩ := hq0.shape
 refine Fc.of_body (N := 56) Tryz.func82 rfl kA rfl rfl ?_
 intro w0
 refine sR ?_
 refine R.ldH Tryz.isAgg30 rfl rfl (s1 _ _ hb0) rfl ?_
 refine R.len Tryz.underlying30 rfl rfl ?_
 refine R.mvE rfl cA ?_
 refine nN ?_
 refine T.block ?_
 refine T.loop (ι := Nat × (List Int) × Own) (fun ⟨kl1, accl1, Ml1⟩ H' L' ds' => kl1 ≤ q0.length ∧ Has L' (Ml1) ∧ J accl1 H' Ml1 ∧ accl1 ++ k_5f (q0.drop kl1) () = k_5f q0 ()) (fun ⟨kl1, accl1, Ml1⟩ => [(13, .int .i64 (kl1 : Int)), (0, yieldv l), (11, .slice Aq0 q0.length cq0), (12, .int .i64 (q0.length : Int))]) (fun ⟨kl1, accl1, Ml1⟩ => q0.length - kl1) (0, [], Lc) ?_ ?_ ?_
 ·exact ⟨oA, (Has.refl _), (by simpa using h0), (by rfl)⟩
 ·exact ⟨rfl, rfl, rfl, rfl, trivial⟩
 intro ⟨kl1, accl1, Ml1⟩ σ_l1 H_l1 L_l1 ds_l1 s_l1 hI_l1
 obtain ⟨hkl1, hI_l1⟩ := hI_l1
 obtain ⟨hLl1, hJl1, hQl1⟩ := hI_l1
 refine T.has hLl1 ?_
 refine sR ?_
 refine R.lss rfl rfl rfl ?_
 refine nN ?_
 refine T.seq ?_
 refine T.condD rfl (fun c14 => ?_) (fun c14 => ?_)
 ·have hltl1 : kl1 < q0.length := by omega
  obtain ⟨yl1, hyl1⟩ := getk (xs := q0) (k := kl1) oA
  refine T.skip (Post.thnN ?_)
  refine T.seq ?_
  refine T.block ?_
  refine sR ?_
  obtain ⟨b15, o15, i15, k15⟩ := RdS.elem (hq0.mono (s1.trans s_l1)) hyl1
  obtain ⟨l15, g15, k15⟩ := k15
  obtain rfl : l15 = [.int .u64 yl1] := g15
  refine R.ixp Tryz.underlying30 Tryz.sizeOf43 rfl rfl rfl oA i15 ?_
  refine R.ldC Tryz.isAgg43 rfl rfl (k15 0 _ rfl) ?_
  refine R.asE rfl cA ?_
  refine nN ?_
  refine T.seq ?_
  refine sR ?_
  refine R.mvE rfl cA ?_
  refine R.mvE rfl cA ?_
  have hP19_l1 : (accl1 ++ [yl1]) <+: k_5f q0 () := by rw [← hQl1, k_16 hyl1, k_5f]; exact (pf_app pf_one)
  have hP19_f : (accl1 ++ [yl1]) <+: k_93 q0 := by rw [k_93]; exact (pf_l hP19_l1)
  have hp19 : (accl1 ++ [yl1]) <+: k_93 q0 := by simpa [List.append_assoc] using hP19_f
  refine TL.callT 0 rfl rfl rfl (hY accl1 yl1 _ H_l1 Ml1 s_l1 hp19 hJl1 rfl) ?_
  intro v19 H19 L19 s19 q19
  rcases q19 with ⟨rfl, j19⟩ | ⟨rfl, j19⟩
  ·refine R.not rfl rfl ?_
   refine nN ?_
   refine T.condN rfl ?_
   refine T.skip (Post.thnN ?_)
   refine T.seq ?_
   refine sR ?_
   refine R.mvE rfl cA ?_
   refine R.callv rfl rfl rfl (kindG_c _ yl1) ?_
   refine R.neq rfl rfl rfl ?_
   refine nN ?_
   refine T.condD rfl (fun c23 => ?_) (fun c23 => ?_)
   ·refine T.set 23 (.bool true) (congrArg Value.bool (decide_eq_true c23)) ?_
    refine T.exit (Post.thnE (Post.blkX ?_))
    refine id (Post.thnN ?_)
    refine T.region ?_
    refine R.addI rfl rfl rfl oA ?_
    refine R.mvE rfl cA ?_
    refine nN ?_
    exact ⟨(kl1 + 1, (accl1 ++ [yl1]), L19), (s_l1.trans s19), ⟨oA, (Has.refl _), (by simpa [List.append_assoc] using j19), (by (rw [← hQl1, k_16 hyl1, k_5f]; rw [if_pos c23]) <;> simp)⟩, by show q0.length - (kl1 + 1) < q0.length - kl1; omega, rfl, rfl, rfl, rfl, trivial⟩
   refine T.set 23 (.bool false) (congrArg Value.bool (decide_eq_false c23)) ?_
   refine T.skip (Post.thnN ?_)
   refine sR ?_
   refine R.mvE rfl cA ?_
   refine R.callv rfl rfl rfl (ident_Parts_c _ (yl1)) ?_
   refine R.mvE rfl cA ?_
   refine R.ext rfl rfl rfl ?_
   refine R.ext rfl rfl rfl ?_
   refine R.asE rfl cA ?_
   refine R.asE rfl cA ?_
   refine nN ?_
   refine sR ?_
   refine R.mvE rfl cA ?_
   refine R.bld (cs := [.int .i64 ((k_40 yl1).1), .int .i64 0]) rfl (fun _ => by kernel_rfl) ?_
   refine R.mvE rfl cA ?_
   refine R.bld (cs := [.int .i64 0, .int .i64 ((k_40 yl1).2)]) rfl (fun _ => by kernel_rfl) ?_
   refine R.bld (cs := [.int .i64 0, .int .i64 0]) rfl (fun _ => by kernel_rfl) ?_
   refine R.bld (cs := [.int .i64 ((k_40 yl1).1), .int .i64 0, .int .i64 0, .int .i64 ((k_40 yl1).2), .int .i64 0, .int .i64 0]) rfl (fun _ => by kernel_rfl) ?_
   refine R.mvE rfl cA ?_
   refine nN ?_
   refine T.block ?_
   refine T.loop (ι := Nat × (List Int) × Own) (fun ⟨kl2, accl2, Ml2⟩ H' L' ds' => kl2 ≤ 3 ∧ Has L' (Ml2) ∧ J ((accl1 ++ [yl1]) ++ accl2) H' Ml2 ∧ accl2 ++ k_74 yl1 (3 - kl2) kl2 () = k_74 yl1 (3 - 0) 0 ()) (fun ⟨kl2, accl2, Ml2⟩ => [(35, .int .i64 (kl2 : Int)), (0, yieldv l), (11, .slice Aq0 q0.length cq0), (12, .int .i64 (q0.length : Int)), (13, .int .i64 (kl1 : Int)), (34, .agg #[.int .i64 ((k_40 yl1).1), .int .i64 0, .int .i64 0, .int .i64 ((k_40 yl1).2), .int .i64 0, .int .i64 0])]) (fun ⟨kl2, accl2, Ml2⟩ => 3 - kl2) (0, [], L19) ?_ ?_ ?_
   ·exact ⟨oA, (Has.refl _), (by simpa using j19), (by rfl)⟩
   ·exact ⟨rfl, rfl, rfl, rfl, rfl, rfl, trivial⟩
   intro ⟨kl2, accl2, Ml2⟩ σ_l2 H_l2 L_l2 ds_l2 s_l2 hI_l2
   obtain ⟨hkl2, hI_l2⟩ := hI_l2
   obtain ⟨hLl2, hJl2, hQl2⟩ := hI_l2
   refine T.has hLl2 ?_
   refine sR ?_
   refine R.lss rfl rfl rfl ?_
   refine nN ?_
   refine T.seq ?_
   refine T.condD rfl (fun c36 => ?_) (fun c36 => ?_)
   ·have hltl2 : kl2 < 3 := by omega
    refine T.skip (Post.thnN ?_)
    refine T.seq ?_
    refine T.block ?_
    refine sR ?_
    obtain ⟨y37, e37⟩ : ∃ y, y = (([(((k_40 yl1).1, 0) : Int × Int), ((0, (k_40 yl1).2) : Int × Int), ((0, 0) : Int × Int)] : List (Int × Int)).getD ((kl2 : Int)).toNat (((0, 0) : Int × Int) : Int × Int)) := ⟨_, rfl⟩
    refine R.idxG (l := [.int .i64 (y37.1), .int .i64 (y37.2)]) Tryz.underlying97 Tryz.isAgg96 Tryz.sizeOf96 rfl rfl rfl oA oA (by rw [e37]; rcases (show (kl2 : Int) = 0 ∨ (kl2 : Int) = 1 ∨ (kl2 : Int) = 2 by omega) with h | h | h <;> rw [h] <;> rfl) ?_
    refine R.alloc Tryz.zeroValue96 rfl ?_
    intro b8
    refine R.stX (old := [.int .i64 0, .int .i64 0]) (l := [.int .i64 (y37.1), .int .i64 (y37.2)]) (new := [.int .i64 (y37.1), .int .i64 (y37.2)]) (et := 96) Tryz.sizeOf96 rfl rfl rfl rfl rfl (by show 0 + 2 ≤ 2; decide) rfl (k_20 rfl) .hd ?_
    refine TL.shut .hd ?_
    intro Hb8_1 sb8_1 qb8_1
    have hb8_1 : Hb8_1 b8 = some (.cells #[.int .i64 (y37.1), .int .i64 (y37.2)] 96) := shut1 qb8_1
    refine nN ?_
    refine sR ?_
    refine R.ixA Tryz.underlying96 Tryz.sizeOf3 rfl rfl rfl (by decide) (by decide) ?_
    refine R.ldH Tryz.isAgg3 rfl rfl hb8_1 rfl ?_
    refine R.ixA Tryz.underlying96 Tryz.sizeOf3 rfl rfl rfl (by decide) (by decide) ?_
    refine R.ldH Tryz.isAgg3 rfl rfl hb8_1 rfl ?_
    refine R.callv rfl rfl rfl (ident_Pair_c _ (y37.1) (y37.2)) ?_
    refine R.mvE rfl cA ?_
    refine R.ext rfl rfl rfl ?_
    refine R.ext rfl rfl rfl ?_
    refine R.asE rfl cA ?_
    refine R.asE rfl cA ?_
    refine nN ?_
    refine sR ?_
    refine R.mvE rfl cA ?_
    refine R.eql rfl rfl rfl ?_
    refine R.mvE rfl cA ?_
    refine TL.gsplitD 48 rfl (fun g48 => ?_) (fun g48 => ?_)
    ·refine R.mvE rfl cA ?_
     refine R.mvE rfl cA ?_
     have hP51_l2 : (accl2 ++ [(k_67 y37.1 y37.2).1]) <+: k_74 yl1 (3 - 0) 0 () := by subst e37; rw [← hQl2, show 3 - kl2 = (3 - (kl2 + 1)) + 1 by omega, k_74]; rw [if_pos g48]; exact (pf_app pf_one)
     have hP51_l1 : (accl1 ++ (yl1 :: (accl2 ++ [(k_67 y37.1 y37.2).1]))) <+: k_5f q0 () := by rw [← hQl1, k_16 hyl1, k_5f]; rw [if_neg c23]; exact (pf_app (pf_cons (pf_l hP51_l2)))
     have hP51_f : (accl1 ++ (yl1 :: (accl2 ++ [(k_67 y37.1 y37.2).1]))) <+: k_93 q0 := by rw [k_93]; exact (pf_l hP51_l1)
     have hp51 : (((accl1 ++ [yl1]) ++ accl2) ++ [(k_67 y37.1 y37.2).1]) <+: k_93 q0 := by simpa [List.append_assoc] using hP51_f
     refine TL.callT 0 rfl rfl rfl (hY (((accl1 ++ [yl1]) ++ accl2)) ((k_67 y37.1 y37.2).1) _ Hb8_1 Ml2 (s_l1.trans (s19.trans (s_l2.trans sb8_1))) hp51 (hJ _ _ _ _ sb8_1 hJl2) rfl) ?_
     intro v51 H51 L51 s51 q51
     rcases q51 with ⟨rfl, j51⟩ | ⟨rfl, j51⟩
     ·refine R.not rfl rfl ?_
      refine R.pkTE rfl rfl cA ?_
      refine nN ?_
      refine T.condN rfl ?_
      refine T.skip (Post.blkN ?_)
      refine id (Post.thnN ?_)
      refine T.region ?_
      refine R.addI rfl rfl rfl oA ?_
      refine R.mvE rfl cA ?_
      refine nN ?_
      exact ⟨(kl2 + 1, (accl2 ++ [(k_67 y37.1 y37.2).1]), L51), (s_l2.trans (sb8_1.trans s51)), ⟨oA, (Has.refl _), (by simpa [List.append_assoc] using j51), (by subst e37; (rw [← hQl2, show 3 - kl2 = (3 - (kl2 + 1)) + 1 by omega, k_74]; rw [if_pos g48]) <;> simp)⟩, by show 3 - (kl2 + 1) < 3 - kl2; omega, rfl, rfl, rfl, rfl, rfl, rfl, trivial⟩
     refine R.not rfl rfl ?_
     refine R.pkTE rfl rfl cA ?_
     refine nN ?_
     refine T.condY rfl ?_
     refine T.ret (Post.blkR (Post.thnR (Post.thnR (Post.blkR (Post.blkR (Post.thnR (Post.thnR (Post.blkR ?_))))))))
     exact fin0L L51 rfl (List.Sublist.refl _) (.inr ⟨((accl1 ++ [yl1]) ++ accl2), (k_67 y37.1 y37.2).1, hp51, j51⟩)
    refine TL.off rfl rfl rfl ?_
    refine TL.off rfl rfl rfl ?_
    refine TL.off rfl rfl rfl ?_
    refine TL.off rfl rfl rfl ?_
    refine R.pkFE rfl rfl cA ?_
    refine nN ?_
    refine T.condN rfl ?_
    refine T.skip (Post.blkN ?_)
    refine id (Post.thnN ?_)
    refine T.region ?_
    refine R.addI rfl rfl rfl oA ?_
    refine R.mvE rfl cA ?_
    refine nN ?_
    exact ⟨(kl2 + 1, accl2, Ml2), (s_l2.trans sb8_1), ⟨oA, (Has.refl _), (by simpa [List.append_assoc] using (hJ _ _ _ _ sb8_1 hJl2)), (by subst e37; (rw [← hQl2, show 3 - kl2 = (3 - (kl2 + 1)) + 1 by omega, k_74]; rw [if_neg g48]) <;> simp)⟩, by show 3 - (kl2 + 1) < 3 - kl2; omega, rfl, rfl, rfl, rfl, rfl, rfl, trivial⟩
   refine T.exit (Post.thnE (Post.thnE (Post.blkX ?_)))
   have hEl2 : k_74 yl1 (3 - 0) 0 () = accl2 := (by rw [← hQl2, show kl2 = 3 by omega, Nat.sub_self, k_74] <;> simp)
   refine id (Post.blkN ?_)
   refine id (Post.thnN ?_)
   refine T.region ?_
   refine R.addI rfl rfl rfl oA ?_
   refine R.mvE rfl cA ?_
   refine nN ?_
   exact ⟨(kl1 + 1, ((accl1 ++ [yl1]) ++ accl2), Ml2), (s_l1.trans (s19.trans s_l2)), ⟨oA, (Has.refl _), (by simpa [List.append_assoc] using hJl2), (by (rw [← hQl1, k_16 hyl1, k_5f]; rw [if_neg c23, hEl2]) <;> simp)⟩, by show q0.length - (kl1 + 1) < q0.length - kl1; omega, rfl, rfl, rfl, rfl, trivial⟩
  refine R.not rfl rfl ?_
  refine nN ?_
  refine T.condY rfl ?_
  refine T.ret (Post.thnR (Post.blkR (Post.thnR (Post.thnR (Post.blkR ?_)))))
  exact fin0L L19 rfl (List.Sublist.refl _) (.inr ⟨accl1, yl1, hp19, j19⟩)
 refine T.exit (Post.thnE (Post.thnE (Post.blkX ?_)))
 have hEl1 : k_5f q0 () = accl1 := (by rw [← hQl1, show kl1 = q0.length by omega, List.drop_length, k_5f] <;> simp)
 refine id ?_
 have hM : k_93 q0 = accl1 := by rw [k_93, hEl1] <;> simp
 exact fin0N Ml1 rfl (List.Sublist.refl _) (.inl (by rw [hM]; exact hJl1))
def k_b2 (a0 : List Int) : (List Int) :=
  (k_93 a0)
set_option maxHeartbeats 3200000 in
theorem index_keys_c (H : Heap) (va0 : Value) (a0 : List Int) (ha0 : RdS (intE .u64) H va0 a0) : Fp Tryz.prog (fnv 58) [va0] H (fun v' H' => ∃ u0_0, v' = .func (.func 82) #[] u0_0 ∧ Iter Tryz.prog (.func (.func 82) #[] u0_0) Y65 H' (k_b2 a0)) := by
 refine Fc.of_body (N := 4) Tryz.func58 rfl kA rfl rfl ?_
 intro w0
 obtain ⟨Aa0, ca0, rfl, hca0, hda0, ha0⟩ := ha0.shape
 refine sR ?_
 refine R.box rfl cA ?_
 intro b1
 refine R.asE rfl cA ?_
 refine TL.shut .hd ?_
 intro Hb1_1 sb1_1 qb1_1
 have hb1_1 : Hb1_1 b1 = some (.cells #[.slice Aa0 a0.length ca0] 30) := shut1 qb1_1
 refine nN ?_
 refine sR ?_
 refine R.mkf (cs := [_]) rfl rfl ?_
 refine R.asE rfl cA ?_
 refine nN ?_
 refine T.has Has.nil ?_
 refine T.ret ?_
 have hM : k_b2 a0 = (k_93 a0) := by rw [k_b2]
 exact fin1L (v := .func (.func 82) #[] ([.pointer (some ⟨b1, 0, none⟩)] : List Value).toArray) [] rfl rfl (List.Sublist.refl _) ⟨rfl, ([.pointer (some ⟨b1, 0, none⟩)] : List Value).toArray, by first | rw [hM] | rfl, by rw [hM]; exact (index_keys_1_c _ b1 _ a0 (ha0.mono sb1_1) hb1_1)⟩
theorem keys_l2 (y : Int) : ∀ (m k : Nat), (k_74 y m k ()).length ≤ m
  | 0, k => Nat.le_refl _
  | m + 1, k => by
    rw [k_74]
    have := keys_l2 y m (k + 1)
    split
    · rw [List.length_cons]; omega
    · omega
theorem keys_l1 : ∀ (l : List Int), (k_5f l ()).length ≤ 4 * l.length
  | [] => Nat.le_refl _
  | y :: ys => by
    rw [k_5f, List.length_cons, List.length_cons]
    have := keys_l1 ys
    split
    · omega
    · have := keys_l2 y 3 0; rw [List.length_append]; simp only [Nat.sub_zero] at *; omega
theorem keys_len (l r : List Int) (e : r = k_b2 l) : r.length ≤ 4 * l.length := by
  rw [e]; unfold k_b2 k_93; rw [List.append_nil]; exact keys_l1 l
def k_b1 (a0 : List Int) : (List Int) :=
  LR.seq (k_af a0) (fun r4 => LR.seq (k_7a r4) (fun r6 => r6))
set_option maxHeartbeats 3200000 in
theorem index_once_c (H : Heap) (va0 : Value) (a0 : List Int) (Ca0 : Chunk) (ha0 : OwnS (intE .u64) 43 H va0 a0 Ca0) (hl : a0.length ≤ 4000000) : Fc Tryz.prog (fnv 59) [va0] H [Ca0] (fun v' H' L' => ∃ u0_0 c0_0, v' = u0_0 ∧ L' = [c0_0] ∧ OwnS (intE .u64) 43 H' u0_0 (k_b1 a0) c0_0) := by
 refine Fc.of_body (N := 7) Tryz.func59 rfl kA rfl rfl ?_
 intro w0
 obtain ⟨Aa0, pa0, rfl, ma0, na0⟩ := OwnS.shape ha0
 refine sR ?_
 refine R.asE rfl cA ?_
 refine nN ?_
 refine sR ?_
 refine R.mvE rfl cA ?_
 obtain ⟨r4, er4⟩ : ∃ r, r = (k_af a0) := ⟨_, rfl⟩
 refine TL.call [true] rfl rfl rfl (slices_Sort_Id_c _ _ a0 _ ha0 bA) ?_
 intro v4 H4 L4 s4 q4
 rw [← er4] at q4
 obtain ⟨D4_a0, rfl, rfl, w4_a0⟩ := q4
 have n4_a0_ := OwnS.len w4_a0
 have ts4 : r4 = sortI _ := er4.trans (slices_Sort_Id_sort _)
 refine nN ?_
 refine sR ?_
 refine R.mvE rfl cA ?_
 refine TL.has (Has.cons .hd Has.nil) ?_
 obtain ⟨r6, er6⟩ : ∃ r, r = (k_7a r4) := ⟨_, rfl⟩
 refine TL.call [true] rfl rfl rfl (slices_Compact_Id_c _ _ r4 _ w4_a0 bA) ?_
 intro v6 H6 L6 s6 q6
 rw [← er6] at q6
 obtain ⟨u6_0_0, c6_0_0, rfl, rfl, w6_0_0⟩ := q6
 obtain ⟨A6_0_0, p6_0_0, rfl, m6_0_0, n6_0_0⟩ := OwnS.shape w6_0_0
 refine R.asE rfl cA ?_
 refine nN ?_
 refine T.has (Has.cons .hd Has.nil) ?_
 refine T.ret ?_
 have hM : k_b1 a0 = r6 := by subst er6; subst er4; rw [k_b1, LR.seq_go, LR.seq_go]
 exact fin1L (v := .slice A6_0_0 r6.length p6_0_0) [c6_0_0] rfl rfl (List.Sublist.refl _) ⟨.slice A6_0_0 r6.length p6_0_0, c6_0_0, by first | rw [hM] | rfl, rfl, by rw [hM]; exact w6_0_0⟩
theorem once_eq (l : List Int) : k_b1 l = dd (sortI l) := by
  unfold k_b1
  rw [LR.seq_go, LR.seq_go, slices_Sort_Id_sort, comp_eq]
theorem ddF_len : ∀ (l : List Int) (p : Int), (ddF p l).length ≤ l.length
  | [], p => Nat.le_refl _
  | y :: ys, p => by
    rw [ddF]
    split
    · have := ddF_len ys p; rw [List.length_cons]; omega
    · have := ddF_len ys y; rw [List.length_cons, List.length_cons]; omega
theorem dd_len (l : List Int) : (dd l).length ≤ l.length := by
  cases l with
  | nil => exact Nat.le_refl _
  | cons x l => have := ddF_len l x; rw [dd, List.length_cons, List.length_cons]; omega
theorem once_len (l r : List Int) (e : r = k_b1 l) : r.length ≤ l.length := by
  rw [e, once_eq]; have := dd_len (sortI l); rw [(k_1 l).length_eq] at this; exact this
def k_ab  : List Int → ((List Int)) → (List Int)
  | [], sr1 => sr1
  | yr1 :: ysr1, sr1 => k_ab ysr1 ((sr1 ++ [yr1]))
def k_44 (a0 : List Int) : (List Int) :=
  if ((k_2e a0) : Int) ≠ 0 then [] else (LR.seq (k_b2 a0) (fun r9 => LR.seq (k_ab r9 []) (fun or1 => LR.seq (k_b1 or1) (fun r16 => r16))))
set_option maxHeartbeats 3200000 in
theorem index_Keys_c (H : Heap) (va0 : Value) (a0 : List Int) (ha0 : RdS (intE .u64) H va0 a0) : Fc Tryz.prog (fnv 20) [va0] H [] (fun v' H' L' => ∃ u0_0 c0_0, v' = u0_0 ∧ L' = [c0_0] ∧ OwnS (intE .u64) 43 H' u0_0 (k_44 a0) c0_0) := by
 refine Fc.of_body (N := 17) Tryz.func20 rfl kA rfl rfl ?_
 intro w0
 obtain ⟨Aa0, ca0, rfl, hca0, hda0, ha0⟩ := ha0.shape
 refine sR ?_
 refine R.asE rfl cA ?_
 refine nN ?_
 refine T.seq ?_
 refine sR ?_
 refine R.mvE rfl cA ?_
 refine R.callv rfl rfl rfl (types_Check_c _ _ a0 ha0) ?_
 refine R.neq rfl rfl rfl ?_
 refine nN ?_
 refine T.condD rfl (fun c7 => ?_) (fun c7 => ?_)
 ·refine T.set 7 (.bool true) (congrArg Value.bool (decide_eq_true c7)) ?_
  refine sR ?_
  refine R.asE rfl cA ?_
  refine nN ?_
  refine T.has (Has.none Has.nil) ?_
  refine T.ret (Post.thnR ?_)
  have hM : k_44 a0 = [] := by rw [k_44, if_pos c7]
  exact fin1L (v := .slice none 0 0) [[]] rfl rfl (List.Sublist.refl _) ⟨.slice none 0 0, [], by first | rw [hM] | rfl, rfl, by rw [hM]; exact OwnS.nil⟩
 refine T.set 7 (.bool false) (congrArg Value.bool (decide_eq_false c7)) ?_
 refine T.skip (Post.thnN ?_)
 refine T.seq ?_
 have tc := (tcheck_ok (by simpa using c7)).1
 refine T.region ?_
 refine R.alloc Tryz.zeroValue30 rfl ?_
 intro b3
 refine nN ?_
 refine T.seq ?_
 refine sR ?_
 refine R.mvE rfl cA ?_
 obtain ⟨r9, er9⟩ : ∃ r, r = (k_b2 a0) := ⟨_, rfl⟩
 refine R.callp rfl rfl rfl (index_keys_c _ _ a0 ha0) ?_
 intro v9 H9 s9 q9
 rw [← er9] at q9
 obtain ⟨u9_0_0, rfl, w9_0_0⟩ := q9
 have tk9 := keys_len _ _ er9
 refine nN ?_
 refine T.block ?_
 refine T.rangeFunc (xs := r9) rfl rfl (enters_of Tryz.func82 kA rfl) w9_0_0 (fun _ _ _ h => by subst h; rfl) rfl (fun pre H' L' => ∃ (vb3r1_0 : Value) (xb3r1_0 : List Int) (cb3r1_0 : Chunk), Has L' [[(b3, .cells #[vb3r1_0] 30)], cb3r1_0] ∧ OwnS (intE .u64) 43 H' vb3r1_0 xb3r1_0 cb3r1_0 ∧ xb3r1_0.length = pre.length ∧ k_ab (r9.drop pre.length) xb3r1_0 = k_ab r9 []) (fun _ _ _ _ => False) (fun pre H H' L hle ⟨vb3r1_0, xb3r1_0, cb3r1_0, hL, wb3r1_0, hB0, hQ⟩ => ⟨vb3r1_0, xb3r1_0, cb3r1_0, hL, (wb3r1_0.mono hle), hB0, hQ⟩) (fun _ _ _ _ _ _ h => h) ?_ ?_ ?_ ?_
 ·exact ⟨.slice none 0 0, [], [], (Has.cons .hd (Has.none Has.nil)), OwnS.nil, bA, (by rfl)⟩
 ·intro lr1 rr1 wr1 prer1 yr1 vsr1 Hr1 Lr1 sr1 hpr1 hIr1 hYr1
  obtain ⟨vb3r1_0, xb3r1_0, cb3r1_0, hLr1, wb3r1_0, hBr1_0, hQr1⟩ := hIr1
  obtain ⟨Ab3r1_0, pb3r1_0, rfl, mb3r1_0, nb3r1_0_⟩ := OwnS.shape wb3r1_0
  obtain rfl := hYr1
  refine T.has hLr1 ?_
  have hlpr1 : prer1.length + 1 ≤ r9.length := by have h0 := hpr1.length_le; simpa using h0
  refine T.region ?_
  refine R.asE rfl cA ?_
  refine TL.nil ?_
  refine onlyN.mk ?_
  refine T.block ?_
  refine T.region ?_
  refine R.ld Tryz.isAgg30 rfl rfl .hd rfl ?_
  refine R.mvE rfl cA ?_
  refine R.bs rfl (k_3f Tryz.underlying30 Tryz.sizeOf43 Tryz.zeroValue43 rfl rfl) ?_
  intro b13
  have w13 : OwnS (intE .u64) 43 Hr1 (.slice (some ⟨b13, 0, none⟩) 1 1) [yr1] [(b13, .cells #[.int .u64 yr1] 43)] := OwnS.lit (xs := [yr1]) (k_2a (a := [.int .u64 yr1]) rfl k_4d) (by show 1 ≤ maxLen; decide)
  obtain ⟨k14, y14, r14⟩ := Src.ownA w13
  refine R.app (E := (intE .u64)) (e := 43) (xs := xb3r1_0) (ys := [yr1]) k_b3 rfl rfl rfl wb3r1_0 (.tl (.tl .hd)) (r14 _ .hd) y14 (by (try simp only [List.length_append, List.length_cons, List.length_nil, List.length_replicate, List.length_take, List.length_drop]); omega) (by (try simp only [List.length_append, List.length_cons, List.length_nil, List.length_replicate, List.length_take, List.length_drop]); omega) ?_
  intro v14 c14 w14
  obtain ⟨A14, p14, rfl, m14, n14⟩ := OwnS.shape w14
  refine TL.del (.tl .hd) ?_
  refine R.stX (old := [.slice Ab3r1_0 xb3r1_0.length pb3r1_0]) (l := [.slice A14 (xb3r1_0 ++ [yr1]).length p14]) (new := [.slice A14 (xb3r1_0 ++ [yr1]).length p14]) (et := 30) Tryz.sizeOf30 rfl rfl rfl (cells1 rfl) rfl (by show 0 + 1 ≤ 1; decide) rfl (k_20 rfl) (.tl .hd) ?_
  refine TL.nil (Post.blkN ?_)
  refine id ?_
  exact ⟨.slice A14 (xb3r1_0 ++ [yr1]).length p14, (xb3r1_0 ++ [yr1]), c14, (Has.cons (.tl .hd) (Has.cons .hd Has.nil)), w14, bA, (by rw [← hQr1, drop_pre hpr1, k_ab])⟩
 ·intro Dr1 Hr1 Lr1 sr1 hIr1
  obtain ⟨vb3r1_0, xb3r1_0, cb3r1_0, hLr1, wb3r1_0, hBr1_0, hQr1⟩ := hIr1
  obtain ⟨Ab3r1_0, pb3r1_0, rfl, mb3r1_0, nb3r1_0_⟩ := OwnS.shape wb3r1_0
  have hEr1 : k_ab r9 [] = xb3r1_0 := by rw [← hQr1, List.drop_length, k_ab]
  refine id (Post.blkN ?_)
  refine id (Post.thnN ?_)
  refine T.has hLr1 ?_
  refine sR ?_
  refine R.ld Tryz.isAgg30 rfl rfl .hd rfl ?_
  refine TL.has (Has.cons (.tl .hd) (Has.cons .hd Has.nil)) ?_
  obtain ⟨r16, er16⟩ : ∃ r, r = (k_b1 xb3r1_0) := ⟨_, rfl⟩
  refine TL.call [true] rfl rfl rfl (index_once_c _ _ xb3r1_0 _ wb3r1_0 bA) ?_
  intro v16 H16 L16 s16 q16
  rw [← er16] at q16
  obtain ⟨u16_0_0, c16_0_0, rfl, rfl, w16_0_0⟩ := q16
  obtain ⟨A16_0_0, p16_0_0, rfl, m16_0_0, n16_0_0⟩ := OwnS.shape w16_0_0
  have to16 := once_len _ _ er16
  refine R.asE rfl cA ?_
  refine nN ?_
  refine T.has (Has.cons .hd Has.nil) ?_
  refine T.ret ?_
  have hM : k_44 a0 = r16 := by subst er16; subst er9; rw [k_44, if_neg c7, LR.seq_go, hEr1, LR.seq_go, LR.seq_go]
  exact fin1L (v := .slice A16_0_0 r16.length p16_0_0) [c16_0_0] rfl rfl (List.Sublist.refl _) ⟨.slice A16_0_0 r16.length p16_0_0, c16_0_0, by first | rw [hM] | rfl, rfl, by rw [hM]; exact w16_0_0⟩
 intro Dr1 cr1 prer1 yr1 Hr1 Lr1 sr1 hpr1 hIr1
 exact hIr1.elim
theorem Keys_r1 : ∀ (l a : List Int), k_ab l a = a ++ l
  | [], a => by simp [k_ab]
  | y :: ys, a => by rw [k_ab, Keys_r1 ys]; simp
theorem Keys_m (l : List Int) : k_44 l = if k_2e l = 0 then dd (sortI (k_b2 l)) else [] := by
  unfold k_44
  simp only [LR.seq_go]
  by_cases h : k_2e l = 0
  · rw [if_neg (fun q => q h), if_pos h, Keys_r1, List.nil_append, once_eq]
  · rw [if_pos h, if_neg h]
theorem Keys_len (l r : List Int) (e : r = k_44 l) : r.length ≤ 48 := by
  rw [e, Keys_m]
  split
  · rename_i h
    have h1 := (tcheck_ok h).1
    have h2 := keys_len l _ rfl
    have h3 := dd_len (sortI (k_b2 l))
    rw [(k_1 _).length_eq] at h3; omega
  · exact Nat.zero_le _
end Go.SX

set_option linter.unusedVariables false
set_option linter.unusedSimpArgs false
namespace Go.SX
open Go
/-- the patterns that take a pair -/
def pats (y : Int) : List Int := [made 9223372036854775808 (hA y) 0, made 9223372036854775808 0 (hB y), made 9223372036854775808 0 0]
theorem may_kind {y : Int} (hu : U y) (h : k_8e y = true) : kindI y = 2 ∨ kindI y = 3 := by
  unfold k_8e at h
  rw [kind_i hu] at h
  by_cases e : kindI y = 2
  · exact .inl e
  · rw [if_neg e] at h; exact .inr (of_decide_eq_true h)
theorem keys_l2_pair {y : Int} (hu : U y) (h : kindI y = 3) : k_74 y (3 - 0) 0 () = pats y := by
  obtain ⟨h1, h2, h3⟩ := (kind_pair hu).1 h
  have e0 : k_40 y = (hA y, hB y) := parts_pair hu h
  have p1 : k_67 (hA y) 0 = (made 9223372036854775808 (hA y) 0, 0) := pair_ok (by omega) (by omega)
  have p2 : k_67 0 (hB y) = (made 9223372036854775808 0 (hB y), 0) := pair_ok (by omega) (by omega)
  have p3 : k_67 0 0 = (made 9223372036854775808 0 0, 0) := pair_ok (by omega) (by omega)
  show k_74 y 3 0 () = _
  simp [k_74, e0, p1, p2, p3, pats]
theorem keys_l1_mem (x : Int) : ∀ (l : List Int), (∀ y ∈ l, U y) → (x ∈ k_5f l () ↔ ∃ y ∈ l, x = y ∨ (kindI y = 3 ∧ x ∈ pats y))
  | [], _ => by simp [k_5f]
  | y :: ys, h => by
    have hy := h y (List.mem_cons_self ..)
    rw [k_5f, kind_i hy, List.mem_cons]
    have ih := keys_l1_mem x ys (fun z hz => h z (List.mem_cons_of_mem _ hz))
    by_cases e : kindI y = 3
    · rw [if_neg (fun q => q e), keys_l2_pair hy e, List.mem_append, ih]
      constructor
      · rintro (q | q | ⟨z, hz, q⟩)
        · exact ⟨y, List.mem_cons_self .., .inl q⟩
        · exact ⟨y, List.mem_cons_self .., .inr ⟨e, q⟩⟩
        · exact ⟨z, List.mem_cons_of_mem _ hz, q⟩
      · rintro ⟨z, hz, q⟩
        rcases List.mem_cons.1 hz with rfl | hz
        · rcases q with q | q
          · exact .inl q
          · exact .inr (.inl q.2)
        · exact .inr (.inr ⟨z, hz, q⟩)
    · rw [if_pos e, ih]
      constructor
      · rintro (q | ⟨z, hz, q⟩)
        · exact ⟨y, List.mem_cons_self .., .inl q⟩
        · exact ⟨z, List.mem_cons_of_mem _ hz, q⟩
      · rintro ⟨z, hz, q⟩
        rcases List.mem_cons.1 hz with rfl | hz
        · rcases q with q | q
          · exact .inl q
          · exact absurd q.1 e
        · exact .inr ⟨z, hz, q⟩
theorem keys_m_mem (x : Int) (l : List Int) (h : ∀ y ∈ l, U y) : x ∈ k_b2 l ↔ ∃ y ∈ l, x = y ∨ (kindI y = 3 ∧ x ∈ pats y) := by
  unfold k_b2 k_93
  rw [List.append_nil]; exact keys_l1_mem x l h
theorem Keys_up (l : List Int) : (k_44 l).Pairwise (· < ·) := by
  rw [Keys_m]
  split
  · exact dd_up (sortI_sorted _)
  · exact List.Pairwise.nil
theorem Keys_mem {l : List Int} (hc : k_2e l = 0) (h : ∀ y ∈ l, U y) (x : Int) : x ∈ k_44 l ↔ ∃ y ∈ l, x = y ∨ (kindI y = 3 ∧ x ∈ pats y) := by
  rw [Keys_m, if_pos hc, dd_mem, (k_1 _).mem_iff, keys_m_mem x l h]
theorem pats_kind {y x : Int} (hu : U y) (h : kindI y = 3) (hx : x ∈ pats y) : kindI x = 4 ∧ U x := by
  obtain ⟨h1, h2, h3⟩ := (kind_pair hu).1 h
  simp only [pats, List.mem_cons, List.not_mem_nil, or_false] at hx
  rcases hx with rfl | rfl | rfl
  · exact ⟨kind_pat (by omega) (by omega) (.inr rfl), (made_halves (by omega) (by omega)).1⟩
  · exact ⟨kind_pat (by omega) (by omega) (.inl rfl), (made_halves (by omega) (by omega)).1⟩
  · exact ⟨kind_pat (by omega) (by omega) (.inl rfl), (made_halves (by omega) (by omega)).1⟩
end Go.SX

set_option linter.unusedVariables false
set_option linter.unusedSimpArgs false
namespace Go.SX
open Go Go.Proofs

def k_51 (a1 : Int → Bool) : List Int → Nat → Unit → LR (Int) (Unit)
  | [], kl1, sl1 => .go ()
  | yl1 :: ysl1, kl1, sl1 => if (a1 yl1) = true then (.ret ((kl1 : Int))) else (k_51 a1 ysl1 (kl1 + 1) ())
def k_14 (a0 : List Int) (a1 : Int → Bool) : Int :=
  LR.on (k_51 a1 a0 0 ()) (fun r => r) (fun ol1 => (-1))
set_option maxHeartbeats 3200000 in
theorem slices_IndexFunc_Id_c (H : Heap) (va0 : Value) (a0 : List Int) (ha0 : RdS (intE .u64) H va0 a0) (fa1 : Value) (a1 : Int → Bool) (ha1 : ∀ H', HLe H H' → ∀ (z0 : Int), Fv Tryz.prog fa1 [.int .u64 z0] H' (.bool (a1 z0))) (na1 : fa1.oneCell' = true) : Fv Tryz.prog (fnv 96) [va0, fa1] H (.int .i64 (k_14 a0 a1)) := by
 refine Fc.of_body (N := 19) Tryz.func96 rfl kA rfl rfl ?_
 intro w0
 obtain ⟨Aa0, ca0, rfl, hca0, hda0, ha0⟩ := ha0.shape
 refine sR ?_
 refine R.asE rfl cA ?_
 refine nN ?_
 refine T.seq ?_
 refine sR ?_
 refine R.mvE rfl cA ?_
 refine R.len Tryz.underlying30 rfl rfl ?_
 refine R.mvE rfl cA ?_
 refine nN ?_
 refine T.block ?_
 refine T.loop (ι := Nat) (fun kl1 H' L' ds' => kl1 ≤ a0.length ∧ Has L' [] ∧ k_51 a1 (a0.drop kl1) kl1 () = k_51 a1 a0 0 ()) (fun kl1 => [(8, .int .i64 (kl1 : Int)), (0, .slice Aa0 a0.length ca0), (1, fa1), (7, .int .i64 (a0.length : Int))]) (fun kl1 => a0.length - kl1) 0 ?_ ?_ ?_
 ·exact ⟨oA, Has.nil, (by rfl)⟩
 ·exact ⟨rfl, rfl, rfl, rfl, trivial⟩
 intro kl1 σ_l1 H_l1 L_l1 ds_l1 s_l1 hI_l1
 obtain ⟨hkl1, hI_l1⟩ := hI_l1
 obtain ⟨hLl1, hQl1⟩ := hI_l1
 refine T.has hLl1 ?_
 refine sR ?_
 refine R.lss rfl rfl rfl ?_
 refine nN ?_
 refine T.seq ?_
 refine T.condD rfl (fun c9 => ?_) (fun c9 => ?_)
 ·have hltl1 : kl1 < a0.length := by omega
  obtain ⟨yl1, hyl1⟩ := getk (xs := a0) (k := kl1) oA
  refine T.skip (Post.thnN ?_)
  refine T.seq ?_
  refine T.block ?_
  refine sR ?_
  refine R.mvE rfl cA ?_
  refine R.asE rfl cA ?_
  refine nN ?_
  refine sR ?_
  refine R.mvE rfl cA ?_
  refine R.mvE rfl cA ?_
  refine R.mvE rfl cA ?_
  obtain ⟨b14, o14, i14, k14⟩ := RdS.elem (ha0.mono s_l1) hyl1
  obtain ⟨l14, g14, k14⟩ := k14
  obtain rfl : l14 = [.int .u64 yl1] := g14
  refine R.ixp Tryz.underlying30 Tryz.sizeOf43 rfl rfl rfl oA i14 ?_
  refine R.ldC Tryz.isAgg43 rfl rfl (k14 0 _ rfl) ?_
  refine R.callv rfl rfl rfl (ha1 _ s_l1 (yl1)) ?_
  refine nN ?_
  refine T.cond rfl (fun c16 => ?_) (fun c16 => ?_)
  ·refine T.set 16 (.bool true) (congrArg Value.bool c16) ?_
   refine sR ?_
   refine R.mvE rfl cA ?_
   refine R.asE rfl cA ?_
   refine nN ?_
   refine T.has Has.nil ?_
   refine T.ret (Post.blkR (Post.thnR (Post.thnR (Post.blkR (Post.thnR ?_)))))
   have hXl1 : k_51 a1 a0 0 () = .ret ((kl1 : Int)) := by rw [← hQl1, k_16 hyl1, k_51]; rw [if_t c16]
   have hM : k_14 a0 a1 = (kl1 : Int) := by rw [k_14, hXl1, LR.on_ret]
   exact fin1L (v := .int .i64 (kl1 : Int)) [] rfl rfl (List.Sublist.refl _) ⟨rfl, by first | rw [hM] | rfl⟩
  refine T.set 16 (.bool false) (congrArg Value.bool c16) ?_
  refine T.skip (Post.blkN ?_)
  refine id (Post.thnN ?_)
  refine T.region ?_
  refine R.addI rfl rfl rfl oA ?_
  refine R.mvE rfl cA ?_
  refine nN ?_
  exact ⟨kl1 + 1, s_l1, ⟨oA, Has.nil, (by rw [← hQl1, k_16 hyl1, k_51]; rw [if_f c16])⟩, by show a0.length - (kl1 + 1) < a0.length - kl1; omega, rfl, rfl, rfl, rfl, trivial⟩
 refine T.exit (Post.thnE (Post.thnE (Post.blkX ?_)))
 have hEl1 : k_51 a1 a0 0 () = .go () := (hQl1.symm.trans (by rw [show kl1 = a0.length by omega, List.drop_length, k_51]))
 refine id (Post.thnN ?_)
 refine sR ?_
 refine R.asE rfl cA ?_
 refine nN ?_
 refine T.has Has.nil ?_
 refine T.ret ?_
 have hM : k_14 a0 a1 = (-1) := by rw [k_14, hEl1, LR.on_go]
 exact fin1L (v := .int .i64 (-1)) [] rfl rfl (List.Sublist.refl _) ⟨rfl, by first | rw [hM] | rfl⟩
theorem idxf_Id_l1 (p : Int → Bool) : ∀ (l : List Int) (k : Nat), (∃ j : Nat, k_51 p l k () = .ret (j : Int) ∧ k ≤ j ∧ (∃ y, l[j - k]? = some y ∧ p y = true) ∧ ∀ i, i < j - k → p (l.getD i 0) = false) ∨ (k_51 p l k () = .go () ∧ ∀ y ∈ l, p y = false)
  | [], k => .inr ⟨rfl, fun y h => by cases h⟩
  | x :: xs, k => by
    rw [k_51]
    cases hx : p x with
    | true => rw [if_pos rfl]; exact .inl ⟨k, rfl, Nat.le_refl _, ⟨x, by rw [Nat.sub_self]; rfl, hx⟩, fun i hi => by omega⟩
    | false =>
      rw [if_neg Bool.false_ne_true]
      rcases idxf_Id_l1 p xs (k + 1) with ⟨j, h1, h2, ⟨y, h3, h4⟩, h5⟩ | ⟨h1, h2⟩
      · refine .inl ⟨j, h1, by omega, ⟨y, by rw [show j - k = (j - (k + 1)) + 1 by omega]; exact h3, h4⟩, fun i hi => ?_⟩
        cases i with
        | zero => exact hx
        | succ i => exact h5 i (by omega)
      · refine .inr ⟨h1, fun y hy => ?_⟩
        rcases List.mem_cons.1 hy with rfl | hy
        · exact hx
        · exact h2 y hy
theorem idxf_Id (l : List Int) (p : Int → Bool) : (∃ j : Nat, k_14 l p = (j : Int) ∧ j < l.length ∧ p (l.getD j 0) = true ∧ ∀ i, i < j → p (l.getD i 0) = false) ∨ (k_14 l p = -1 ∧ ∀ y ∈ l, p y = false) := by
  unfold k_14
  rcases idxf_Id_l1 p l 0 with ⟨j, h1, h2, ⟨y, h3, h4⟩, h5⟩ | ⟨h1, h2⟩
  · rw [h1, LR.on_ret, Nat.sub_zero] at *
    exact .inl ⟨j, rfl, (List.getElem?_eq_some_iff.1 h3).1, by rw [List.getD_eq_getElem?_getD, h3]; exact h4, h5⟩
  · rw [h1, LR.on_go]; exact .inr ⟨rfl, h2⟩
theorem idxf_Id_rng (l : List Int) (p : Int → Bool) : -1 ≤ k_14 l p ∧ k_14 l p < (l.length : Int) := by
  rcases idxf_Id l p with ⟨j, h1, h2, _⟩ | ⟨h1, _⟩ <;> rw [h1] <;> omega
def k_4b (a1 : Int → Bool) : List Int → Nat → Unit → LR (Int) (Unit)
  | [], kl1, sl1 => .go ()
  | yl1 :: ysl1, kl1, sl1 => if (a1 yl1) = true then (.ret ((kl1 : Int))) else (k_4b a1 ysl1 (kl1 + 1) ())
def k_f (a0 : List Int) (a1 : Int → Bool) : Int :=
  LR.on (k_4b a1 a0 0 ()) (fun r => r) (fun ol1 => (-1))
set_option maxHeartbeats 3200000 in
theorem slices_IndexFunc_int_c (H : Heap) (va0 : Value) (a0 : List Int) (ha0 : RdS (intE .i64) H va0 a0) (fa1 : Value) (a1 : Int → Bool) (ha1 : ∀ H', HLe H H' → ∀ (z0 : Int), Fv Tryz.prog fa1 [.int .i64 z0] H' (.bool (a1 z0))) (na1 : fa1.oneCell' = true) : Fv Tryz.prog (fnv 71) [va0, fa1] H (.int .i64 (k_f a0 a1)) := by
 refine Fc.of_body (N := 19) Tryz.func71 rfl kA rfl rfl ?_
 intro w0
 obtain ⟨Aa0, ca0, rfl, hca0, hda0, ha0⟩ := ha0.shape
 refine sR ?_
 refine R.asE rfl cA ?_
 refine nN ?_
 refine T.seq ?_
 refine sR ?_
 refine R.mvE rfl cA ?_
 refine R.len Tryz.underlying25 rfl rfl ?_
 refine R.mvE rfl cA ?_
 refine nN ?_
 refine T.block ?_
 refine T.loop (ι := Nat) (fun kl1 H' L' ds' => kl1 ≤ a0.length ∧ Has L' [] ∧ k_4b a1 (a0.drop kl1) kl1 () = k_4b a1 a0 0 ()) (fun kl1 => [(8, .int .i64 (kl1 : Int)), (0, .slice Aa0 a0.length ca0), (1, fa1), (7, .int .i64 (a0.length : Int))]) (fun kl1 => a0.length - kl1) 0 ?_ ?_ ?_
 ·exact ⟨oA, Has.nil, (by rfl)⟩
 ·exact ⟨rfl, rfl, rfl, rfl, trivial⟩
 intro kl1 σ_l1 H_l1 L_l1 ds_l1 s_l1 hI_l1
 obtain ⟨hkl1, hI_l1⟩ := hI_l1
 obtain ⟨hLl1, hQl1⟩ := hI_l1
 refine T.has hLl1 ?_
 refine sR ?_
 refine R.lss rfl rfl rfl ?_
 refine nN ?_
 refine T.seq ?_
 refine T.condD rfl (fun c9 => ?_) (fun c9 => ?_)
 ·have hltl1 : kl1 < a0.length := by omega
  obtain ⟨yl1, hyl1⟩ := getk (xs := a0) (k := kl1) oA
  refine T.skip (Post.thnN ?_)
  refine T.seq ?_
  refine T.block ?_
  refine sR ?_
  refine R.mvE rfl cA ?_
  refine R.asE rfl cA ?_
  refine nN ?_
  refine sR ?_
  refine R.mvE rfl cA ?_
  refine R.mvE rfl cA ?_
  refine R.mvE rfl cA ?_
  obtain ⟨b14, o14, i14, k14⟩ := RdS.elem (ha0.mono s_l1) hyl1
  obtain ⟨l14, g14, k14⟩ := k14
  obtain rfl : l14 = [.int .i64 yl1] := g14
  refine R.ixp Tryz.underlying25 Tryz.sizeOf3 rfl rfl rfl oA i14 ?_
  refine R.ldC Tryz.isAgg3 rfl rfl (k14 0 _ rfl) ?_
  refine R.callv rfl rfl rfl (ha1 _ s_l1 (yl1)) ?_
  refine nN ?_
  refine T.cond rfl (fun c16 => ?_) (fun c16 => ?_)
  ·refine T.set 16 (.bool true) (congrArg Value.bool c16) ?_
   refine sR ?_
   refine R.mvE rfl cA ?_
   refine R.asE rfl cA ?_
   refine nN ?_
   refine T.has Has.nil ?_
   refine T.ret (Post.blkR (Post.thnR (Post.thnR (Post.blkR (Post.thnR ?_)))))
   have hXl1 : k_4b a1 a0 0 () = .ret ((kl1 : Int)) := by rw [← hQl1, k_16 hyl1, k_4b]; rw [if_t c16]
   have hM : k_f a0 a1 = (kl1 : Int) := by rw [k_f, hXl1, LR.on_ret]
   exact fin1L (v := .int .i64 (kl1 : Int)) [] rfl rfl (List.Sublist.refl _) ⟨rfl, by first | rw [hM] | rfl⟩
  refine T.set 16 (.bool false) (congrArg Value.bool c16) ?_
  refine T.skip (Post.blkN ?_)
  refine id (Post.thnN ?_)
  refine T.region ?_
  refine R.addI rfl rfl rfl oA ?_
  refine R.mvE rfl cA ?_
  refine nN ?_
  exact ⟨kl1 + 1, s_l1, ⟨oA, Has.nil, (by rw [← hQl1, k_16 hyl1, k_4b]; rw [if_f c16])⟩, by show a0.length - (kl1 + 1) < a0.length - kl1; omega, rfl, rfl, rfl, rfl, trivial⟩
 refine T.exit (Post.thnE (Post.thnE (Post.blkX ?_)))
 have hEl1 : k_4b a1 a0 0 () = .go () := (hQl1.symm.trans (by rw [show kl1 = a0.length by omega, List.drop_length, k_4b]))
 refine id (Post.thnN ?_)
 refine sR ?_
 refine R.asE rfl cA ?_
 refine nN ?_
 refine T.has Has.nil ?_
 refine T.ret ?_
 have hM : k_f a0 a1 = (-1) := by rw [k_f, hEl1, LR.on_go]
 exact fin1L (v := .int .i64 (-1)) [] rfl rfl (List.Sublist.refl _) ⟨rfl, by first | rw [hM] | rfl⟩
theorem idxf_int_l1 (p : Int → Bool) : ∀ (l : List Int) (k : Nat), (∃ j : Nat, k_4b p l k () = .ret (j : Int) ∧ k ≤ j ∧ (∃ y, l[j - k]? = some y ∧ p y = true) ∧ ∀ i, i < j - k → p (l.getD i 0) = false) ∨ (k_4b p l k () = .go () ∧ ∀ y ∈ l, p y = false)
  | [], k => .inr ⟨rfl, fun y h => by cases h⟩
  | x :: xs, k => by
    rw [k_4b]
    cases hx : p x with
    | true => rw [if_pos rfl]; exact .inl ⟨k, rfl, Nat.le_refl _, ⟨x, by rw [Nat.sub_self]; rfl, hx⟩, fun i hi => by omega⟩
    | false =>
      rw [if_neg Bool.false_ne_true]
      rcases idxf_int_l1 p xs (k + 1) with ⟨j, h1, h2, ⟨y, h3, h4⟩, h5⟩ | ⟨h1, h2⟩
      · refine .inl ⟨j, h1, by omega, ⟨y, by rw [show j - k = (j - (k + 1)) + 1 by omega]; exact h3, h4⟩, fun i hi => ?_⟩
        cases i with
        | zero => exact hx
        | succ i => exact h5 i (by omega)
      · refine .inr ⟨h1, fun y hy => ?_⟩
        rcases List.mem_cons.1 hy with rfl | hy
        · exact hx
        · exact h2 y hy
theorem idxf_int (l : List Int) (p : Int → Bool) : (∃ j : Nat, k_f l p = (j : Int) ∧ j < l.length ∧ p (l.getD j 0) = true ∧ ∀ i, i < j → p (l.getD i 0) = false) ∨ (k_f l p = -1 ∧ ∀ y ∈ l, p y = false) := by
  unfold k_f
  rcases idxf_int_l1 p l 0 with ⟨j, h1, h2, ⟨y, h3, h4⟩, h5⟩ | ⟨h1, h2⟩
  · rw [h1, LR.on_ret, Nat.sub_zero] at *
    exact .inl ⟨j, rfl, (List.getElem?_eq_some_iff.1 h3).1, by rw [List.getD_eq_getElem?_getD, h3]; exact h4, h5⟩
  · rw [h1, LR.on_go]; exact .inr ⟨rfl, h2⟩
theorem idxf_int_rng (l : List Int) (p : Int → Bool) : -1 ≤ k_f l p ∧ k_f l p < (l.length : Int) := by
  rcases idxf_int l p with ⟨j, h1, h2, _⟩ | ⟨h1, _⟩ <;> rw [h1] <;> omega
def k_55 (a0 : List Int) (a1 : Int → Bool) : Nat → (Int × Int × (List Int)) → Int × Int × (List Int)
  | 0, _ => default
  | ml1 + 1, sl1 => if sl1.2.1 < (a0.length : Int) then (if (!(a1 (sl1.2.2.getD sl1.2.1.toNat (0 : Int)))) = true then (k_55 a0 a1 ml1 (((sl1.1 + 1), (sl1.2.1 + 1), (sl1.2.2.set sl1.1.toNat (sl1.2.2.getD sl1.2.1.toNat (0 : Int)))))) else (k_55 a0 a1 ml1 ((sl1.1, (sl1.2.1 + 1), sl1.2.2)))) else ((sl1.1, sl1.2.1, sl1.2.2))
def k_69 (a0 : List Int) (a1 : Int → Bool) : (List Int) :=
  if ((k_14 a0 a1) : Int) = (-1) then a0 else (LR.seq (k_55 a0 a1 (((a0.length : Int) - (((k_14 a0 a1) + 1))).toNat + 1) (((k_14 a0 a1), ((k_14 a0 a1) + 1), a0))) (fun ol1 => ((ol1.2.2.take (ol1.1).toNat).take ol1.1.toNat)))
set_option maxHeartbeats 3200000 in
theorem slices_DeleteFunc_Id_c (H : Heap) (va0 : Value) (a0 : List Int) (Ca0 : Chunk) (ha0 : OwnS (intE .u64) 43 H va0 a0 Ca0) (fa1 : Value) (a1 : Int → Bool) (ha1 : ∀ H', HLe H H' → ∀ (z0 : Int), Fv Tryz.prog fa1 [.int .u64 z0] H' (.bool (a1 z0))) (na1 : fa1.oneCell' = true) (hl : a0.length ≤ 2000000) : Fc Tryz.prog (fnv 80) [va0, fa1] H [Ca0] (fun v' H' L' => ∃ u0_0 c0_0, v' = u0_0 ∧ L' = [c0_0] ∧ OwnS (intE .u64) 43 H' u0_0 (k_69 a0 a1) c0_0) := by
 refine Fc.of_body (N := 42) Tryz.func80 rfl kA rfl rfl ?_
 intro w0
 obtain ⟨Aa0, pa0, rfl, ma0, na0⟩ := OwnS.shape ha0
 refine sR ?_
 refine R.asE rfl cA ?_
 refine nN ?_
 refine sR ?_
 refine R.mvE rfl cA ?_
 refine R.mvE rfl cA ?_
 refine R.callvB rfl rfl rfl (fun HB10 sB10 qB10 => by have fB10_0 := OwnS.read ha0 sB10 (In.all .hd qB10); exact (slices_IndexFunc_Id_c _ _ a0 fB10_0 _ a1 (fun H' h' => ha1 H' (sB10.trans h')) na1)) ?_
 refine R.asE rfl cA ?_
 refine nN ?_
 refine T.seq ?_
 refine sR ?_
 refine R.mvE rfl cA ?_
 refine R.eql rfl rfl rfl ?_
 refine nN ?_
 refine T.condD rfl (fun c12 => ?_) (fun c12 => ?_)
 ·refine T.set 12 (.bool true) (congrArg Value.bool (decide_eq_true c12)) ?_
  refine sR ?_
  refine R.mvE rfl cA ?_
  refine R.asE rfl cA ?_
  refine nN ?_
  refine T.has (Has.cons .hd Has.nil) ?_
  refine T.ret (Post.thnR ?_)
  have hM : k_69 a0 a1 = a0 := by rw [k_69, if_pos c12]
  exact fin1L (v := .slice Aa0 a0.length pa0) [Ca0] rfl rfl (List.Sublist.refl _) ⟨.slice Aa0 a0.length pa0, Ca0, by first | rw [hM] | rfl, rfl, by rw [hM]; exact ha0⟩
 refine T.set 12 (.bool false) (congrArg Value.bool (decide_eq_false c12)) ?_
 refine T.skip (Post.thnN ?_)
 refine T.seq ?_
 refine T.seq ?_
 have hx := idxf_Id_rng a0 a1
 refine T.region ?_
 refine R.mvE rfl cA ?_
 refine R.addI rfl rfl rfl oA ?_
 refine R.asE rfl cA ?_
 refine nN ?_
 refine T.block ?_
 refine T.loop (ι := Nat × Int × Int × (List Int) × Chunk) (fun ⟨kl1, n5l1, n6l1, xPa0l1, cPa0l1⟩ H' L' ds' => ((a0.length : Int) - n6l1).toNat < kl1 ∧ Has L' [cPa0l1] ∧ OwnS (intE .u64) 43 H' (.slice Aa0 a0.length pa0) xPa0l1 cPa0l1 ∧ 0 ≤ n5l1 ∧ n5l1 + 1 ≤ n6l1 ∧ n6l1 ≤ (a0.length : Int) ∧ k_55 a0 a1 kl1 ((n5l1, n6l1, xPa0l1)) = k_55 a0 a1 (((a0.length : Int) - (((k_14 a0 a1) + 1))).toNat + 1) (((k_14 a0 a1), ((k_14 a0 a1) + 1), a0))) (fun ⟨kl1, n5l1, n6l1, xPa0l1, cPa0l1⟩ => [(0, .slice Aa0 a0.length pa0), (1, fa1), (5, .int .i64 n5l1), (6, .int .i64 n6l1)]) (fun ⟨kl1, n5l1, n6l1, xPa0l1, cPa0l1⟩ => kl1) ((((a0.length : Int) - (((k_14 a0 a1) + 1))).toNat + 1), (k_14 a0 a1), ((k_14 a0 a1) + 1), a0, Ca0) ?_ ?_ ?_
 ·exact ⟨oA, (Has.cons .hd Has.nil), ha0, bA, bA, bA, (by rfl)⟩
 ·exact ⟨rfl, rfl, rfl, rfl, trivial⟩
 intro ⟨kl1, n5l1, n6l1, xPa0l1, cPa0l1⟩ σ_l1 H_l1 L_l1 ds_l1 s_l1 hI_l1
 obtain ⟨hkl1, hI_l1⟩ := hI_l1
 obtain ⟨ml1, rfl⟩ : ∃ m, kl1 = m + 1 := ⟨kl1 - 1, by omega⟩
 obtain ⟨hLl1, wPa0l1, hBl1_0, hBl1_1, hBl1_2, hQl1⟩ := hI_l1
 have nPa0l1_ := OwnS.len wPa0l1
 refine T.has hLl1 ?_
 refine T.seq ?_
 refine sR ?_
 refine R.mvE rfl cA ?_
 refine R.mvE rfl cA ?_
 refine R.len Tryz.underlying30 rfl rfl ?_
 refine R.lss rfl rfl rfl ?_
 refine nN ?_
 refine T.condD rfl (fun c19 => ?_) (fun c19 => ?_)
 ·refine T.set 19 (.bool true) (congrArg Value.bool (decide_eq_true c19)) ?_
  refine T.skip (Post.thnN ?_)
  refine T.seq ?_
  refine T.block ?_
  refine sR ?_
  refine R.mvE rfl cA ?_
  refine R.mvE rfl cA ?_
  have hl24 : n6l1.toNat < a0.length := bA
  obtain ⟨y24, e24, h24⟩ : ∃ y, y = (xPa0l1.getD n6l1.toNat (0 : Int)) ∧ xPa0l1[n6l1.toNat]? = some y := ⟨_, rfl, k_6 (by first | exact hl24 | simpa using hl24 | (simp only [List.length_set]; omega) | omega | (rw [(k_1 _).length_eq]; exact hl24))⟩
  obtain ⟨b24, u24, cs24, l24, f24, j24, i24, g24, k24⟩ := OwnS.elem wPa0l1 h24
  obtain rfl : l24 = [.int .u64 y24] := g24
  refine R.ixp (sz := ((intE .u64)).size) Tryz.underlying30 Tryz.sizeOf43 rfl rfl rfl bA i24 ?_
  refine R.ld Tryz.isAgg43 rfl rfl (by rw [← f24]; exact .hd) (k24 0 _ rfl) ?_
  refine R.asE rfl cA ?_
  refine nN ?_
  refine sR ?_
  refine R.mvE rfl cA ?_
  refine R.mvE rfl cA ?_
  refine R.callv rfl rfl rfl (ha1 _ s_l1 (y24)) ?_
  refine R.not rfl rfl ?_
  refine nN ?_
  refine T.cond rfl (fun c29 => ?_) (fun c29 => ?_)
  ·refine T.set 29 (.bool true) (congrArg Value.bool c29) ?_
   refine sR ?_
   refine R.mvE rfl cA ?_
   refine R.mvE rfl cA ?_
   refine R.mvE rfl cA ?_
   have hl33 : n5l1.toNat < a0.length := bA
   obtain ⟨y33, e33, h33⟩ : ∃ y, y = (xPa0l1.getD n5l1.toNat (0 : Int)) ∧ xPa0l1[n5l1.toNat]? = some y := ⟨_, rfl, k_6 (by first | exact hl33 | simpa using hl33 | (simp only [List.length_set]; omega) | omega | (rw [(k_1 _).length_eq]; exact hl33))⟩
   obtain ⟨b33, u33, cs33, l33, f33, j33, i33, g33, k33⟩ := OwnS.elem wPa0l1 h33
   obtain rfl : l33 = [.int .u64 y33] := g33
   refine R.ixp (sz := ((intE .u64)).size) Tryz.underlying30 Tryz.sizeOf43 rfl rfl rfl bA i33 ?_
   refine R.stEF (E := (intE .u64)) (e := 43) (v := (.slice Aa0 a0.length pa0)) (m := [.int .u64 y24]) (o := 0) (y := y33) (y' := y24) (j := n5l1.toNat) Tryz.sizeOf43 rfl wPa0l1 .hd i33 rfl rfl (cells1 rfl) (k_20 rfl) h33 (by show 0 + 1 ≤ 1; decide) (fun l hl => by have e0 : l = [.int .u64 y33] := hl; subst e0; exact rfl) ?_
   intro cst6 wst6
   refine nN ?_
   refine T.region ?_
   refine R.mvE rfl cA ?_
   refine R.addI rfl rfl rfl oA ?_
   refine R.asE rfl cA ?_
   refine TL.nil (Post.blkN ?_)
   refine id (Post.thnN ?_)
   refine T.region ?_
   refine R.mvE rfl cA ?_
   refine R.addI rfl rfl rfl oA ?_
   refine R.asE rfl cA ?_
   refine nN ?_
   exact ⟨(ml1, (n5l1 + 1), (n6l1 + 1), (xPa0l1.set n5l1.toNat y24), cst6), s_l1, ⟨(by first | omega | (simp; omega) | (simp at *; omega)), (Has.cons .hd Has.nil), wst6, bA, bA, bA, (by subst e33; subst e24; rw [← hQl1, k_55]; rw [if_pos c19, if_t c29])⟩, by show ml1 < ml1 + 1; omega, rfl, rfl, rfl, rfl, trivial⟩
  refine T.set 29 (.bool false) (congrArg Value.bool c29) ?_
  refine T.skip (Post.blkN ?_)
  refine id (Post.thnN ?_)
  refine T.region ?_
  refine R.mvE rfl cA ?_
  refine R.addI rfl rfl rfl oA ?_
  refine R.asE rfl cA ?_
  refine nN ?_
  exact ⟨(ml1, n5l1, (n6l1 + 1), xPa0l1, cPa0l1), s_l1, ⟨(by first | omega | (simp; omega) | (simp at *; omega)), (Has.cons .hd Has.nil), wPa0l1, bA, bA, bA, (by subst e24; rw [← hQl1, k_55]; rw [if_pos c19, if_f c29])⟩, by show ml1 < ml1 + 1; omega, rfl, rfl, rfl, rfl, trivial⟩
 refine T.set 19 (.bool false) (congrArg Value.bool (decide_eq_false c19)) ?_
 refine T.exit (Post.thnE (Post.thnE (Post.blkX ?_)))
 have hEl1 : k_55 a0 a1 (((a0.length : Int) - (((k_14 a0 a1) + 1))).toNat + 1) (((k_14 a0 a1), ((k_14 a0 a1) + 1), a0)) = (n5l1, n6l1, xPa0l1) := (by rw [← hQl1, k_55]; rw [if_neg c19])
 refine id (Post.thnN ?_)
 refine sR ?_
 refine R.mvE rfl cA ?_
 refine R.mvE rfl cA ?_
 refine R.sL Tryz.underlying30 Tryz.sizeOf43 rfl rfl rfl oA oA ?_
 obtain ⟨xz7, ez7⟩ : ∃ x, x = (xPa0l1.take (n5l1).toNat) := ⟨_, rfl⟩
 have tz7 : xz7.length = (n5l1).toNat := by rw [ez7, List.length_take]; (try simp only [List.length_set]); omega
 refine R.clr (dd := none) (xs := xz7) (A := Aa0) (cap := pa0) k_b3 (zone_of (z := .int .u64 0) kA (by intro v hv; have e0 : v = .int .u64 0 := (by simpa [Value.cells] using hv); subst e0; rfl)) rfl (fun q h => by cases h) (m := a0.length) (by rw [tz7]; rfl) (by rw [tz7, ez7]; exact own_take0 (by have hz_ := wPa0l1; have hq_ := (OwnS.len wPa0l1); rw [hq_] at hz_; exact hz_) (by (try simp only [List.length_set]); omega)) .hd oA oA ?_
 intro cz7 wz7
 refine nN ?_
 refine sR ?_
 refine R.mvE rfl cA ?_
 refine R.mvE rfl cA ?_
 have z41 := OwnS.takeM wz7 (i := n5l1.toNat) (m := pa0) (by first | omega | (simp; omega)) (by first | omega | (simp; omega)) (by first | omega | (simp; omega))
 obtain ⟨x41, e41⟩ : ∃ x, x = (xz7.take n5l1.toNat) := ⟨_, rfl⟩
 rw [← e41] at z41
 obtain ⟨A41, p41, q41, m41, n41⟩ := OwnS.shape z41
 have t41 : x41.length = n5l1.toNat := by rw [e41, List.length_take]; omega
 refine R.sH Tryz.underlying30 Tryz.sizeOf43 rfl rfl rfl (by first | omega | (simp; omega)) (by first | omega | (simp; omega))  ?_
 refine TL.set 41 (.slice A41 x41.length p41) (by first | exact q41 | (rw [← q41]; simp; done) | (rw [← q41]; rfl)) ?_
 rw [q41] at z41
 refine R.asE rfl cA ?_
 refine nN ?_
 refine T.has (Has.cons .hd Has.nil) ?_
 refine T.ret ?_
 have hM : k_69 a0 a1 = x41 := by subst e41; subst ez7; rw [k_69, if_neg c12, hEl1, LR.seq_go]
 exact fin1L (v := .slice A41 x41.length p41) [cz7] rfl rfl (List.Sublist.refl _) ⟨.slice A41 x41.length p41, cz7, by first | rw [hM] | rfl, rfl, by rw [hM]; exact z41⟩
theorem delf_Id_l1 (a : List Int) (p : Int → Bool) : ∀ (r i j m : Nat) (cur : List Int), a.length - j ≤ r → r < m → i + 1 ≤ j → j ≤ a.length → cur.length = a.length → cur.take i = (a.take j).filter (fun y => !p y) → (∀ q, j ≤ q → cur.getD q 0 = a.getD q 0) →
    ∃ (i' : Nat) (cur' : List Int) (o : Int), k_55 a p m ((i : Int), (j : Int), cur) = ((i' : Int), o, cur') ∧ cur'.take i' = a.filter (fun y => !p y)
  | r, i, j, 0, cur, _, h, _, _, _, _, _ => by omega
  | r, i, j, m + 1, cur, h1, h2, h3, h4, h5, h6, h7 => by
    rw [k_55]
    dsimp only
    by_cases hj : j < a.length
    · rw [if_pos (show (j : Int) < (a.length : Int) by omega), Int.toNat_natCast, h7 j (Nat.le_refl _)]
      have hs : a.take (j + 1) = a.take j ++ [a.getD j 0] := by rw [List.take_add_one, List.getD_eq_getElem?_getD, List.getElem?_eq_getElem hj]; rfl
      cases r with
      | zero => omega
      | succ r =>
        cases hp : p (a.getD j 0) with
        | true =>
          rw [if_neg (by decide)]
          exact delf_Id_l1 a p r i (j + 1) m cur (by omega) (by omega) (by omega) (by omega) h5 (by rw [hs, List.filter_append, h6, show [a.getD j 0].filter (fun y => !p y) = [] by rw [List.filter_cons, hp]; rfl, List.append_nil]) (fun q hq => h7 q (by omega))
        | false =>
          rw [if_pos (by decide), Int.toNat_natCast]
          refine delf_Id_l1 a p r (i + 1) (j + 1) m (cur.set i (a.getD j 0)) (by omega) (by omega) (by omega) (by omega) (by rw [List.length_set]; exact h5) ?_ (fun q hq => ?_)
          · rw [hs, List.filter_append, ← h6, List.take_add_one, List.take_set_of_le (Nat.le_refl _), List.getElem?_set_self (by omega), show [a.getD j 0].filter (fun y => !p y) = [a.getD j 0] by rw [List.filter_cons, hp]; rfl]; rfl
          · rw [List.getD_eq_getElem?_getD, List.getElem?_set_ne (by omega), ← List.getD_eq_getElem?_getD]; exact h7 q (by omega)
    · rw [if_neg (show ¬ (j : Int) < (a.length : Int) by omega)]
      exact ⟨i, cur, _, rfl, by rw [h6, List.take_of_length_le (by omega)]⟩
theorem delf_Id (a : List Int) (p : Int → Bool) : k_69 a p = a.filter (fun y => !p y) := by
  unfold k_69
  rcases idxf_Id a p with ⟨j, h1, h2, h3, h4⟩ | ⟨h1, h2⟩
  · rw [h1, if_neg (by omega)]
    have e : a.take j = (a.take (j + 1)).filter (fun y => !p y) := by
      rw [List.take_add_one, List.getElem?_eq_getElem h2, List.filter_append]
      have h3' : p a[j] = true := by rw [List.getD_eq_getElem?_getD, List.getElem?_eq_getElem h2] at h3; exact h3
      have : (a.take j).filter (fun y => !p y) = a.take j := by
        rw [List.filter_eq_self]
        intro y hy
        obtain ⟨i, hi⟩ := List.mem_iff_getElem?.1 hy
        have hlt : i < j := by have := (List.getElem?_eq_some_iff.1 hi).1; rw [List.length_take] at this; omega
        rw [List.getElem?_take_of_lt hlt] at hi
        have := h4 i hlt
        rw [List.getD_eq_getElem?_getD, hi] at this
        simpa using this
      rw [this]; simp [h3']
    obtain ⟨i', cur', o, q1, q2⟩ := delf_Id_l1 a p (a.length - (j + 1)) j (j + 1) (((a.length : Int) - ((j : Int) + 1)).toNat + 1) a (Nat.le_refl _) (by omega) (Nat.le_refl _) (by omega) rfl e (fun q _ => rfl)
    rw [show ((j : Int) + 1) = ((j + 1 : Nat) : Int) by omega] at *
    simp only [LR.seq_go]
    rw [q1]
    simp only [Int.toNat_natCast, List.take_take, Nat.min_self]
    exact q2
  · rw [h1, if_pos rfl, List.filter_eq_self.2 (fun y hy => by rw [h2 y hy]; rfl)]
theorem delf_Id_len (a : List Int) (p : Int → Bool) (r : List Int) (e : r = k_69 a p) : r.length ≤ a.length := by
  rw [e, delf_Id]; exact List.length_filter_le _ _
def k_4e (a0 : List Int) (a1 : Int → Bool) : Nat → (Int × Int × (List Int)) → Int × Int × (List Int)
  | 0, _ => default
  | ml1 + 1, sl1 => if sl1.2.1 < (a0.length : Int) then (if (!(a1 (sl1.2.2.getD sl1.2.1.toNat (0 : Int)))) = true then (k_4e a0 a1 ml1 (((sl1.1 + 1), (sl1.2.1 + 1), (sl1.2.2.set sl1.1.toNat (sl1.2.2.getD sl1.2.1.toNat (0 : Int)))))) else (k_4e a0 a1 ml1 ((sl1.1, (sl1.2.1 + 1), sl1.2.2)))) else ((sl1.1, sl1.2.1, sl1.2.2))
def k_60 (a0 : List Int) (a1 : Int → Bool) : (List Int) :=
  if ((k_f a0 a1) : Int) = (-1) then a0 else (LR.seq (k_4e a0 a1 (((a0.length : Int) - (((k_f a0 a1) + 1))).toNat + 1) (((k_f a0 a1), ((k_f a0 a1) + 1), a0))) (fun ol1 => ((ol1.2.2.take (ol1.1).toNat).take ol1.1.toNat)))
set_option maxHeartbeats 3200000 in
theorem slices_DeleteFunc_int_c (H : Heap) (va0 : Value) (a0 : List Int) (Ca0 : Chunk) (ha0 : OwnS (intE .i64) 3 H va0 a0 Ca0) (fa1 : Value) (a1 : Int → Bool) (ha1 : ∀ H', HLe H H' → ∀ (z0 : Int), Fv Tryz.prog fa1 [.int .i64 z0] H' (.bool (a1 z0))) (na1 : fa1.oneCell' = true) (hl : a0.length ≤ 2000000) : Fc Tryz.prog (fnv 40) [va0, fa1] H [Ca0] (fun v' H' L' => ∃ u0_0 c0_0, v' = u0_0 ∧ L' = [c0_0] ∧ OwnS (intE .i64) 3 H' u0_0 (k_60 a0 a1) c0_0) := by
 refine Fc.of_body (N := 42) Tryz.func40 rfl kA rfl rfl ?_
 intro w0
 obtain ⟨Aa0, pa0, rfl, ma0, na0⟩ := OwnS.shape ha0
 refine sR ?_
 refine R.asE rfl cA ?_
 refine nN ?_
 refine sR ?_
 refine R.mvE rfl cA ?_
 refine R.mvE rfl cA ?_
 refine R.callvB rfl rfl rfl (fun HB10 sB10 qB10 => by have fB10_0 := OwnS.read ha0 sB10 (In.all .hd qB10); exact (slices_IndexFunc_int_c _ _ a0 fB10_0 _ a1 (fun H' h' => ha1 H' (sB10.trans h')) na1)) ?_
 refine R.asE rfl cA ?_
 refine nN ?_
 refine T.seq ?_
 refine sR ?_
 refine R.mvE rfl cA ?_
 refine R.eql rfl rfl rfl ?_
 refine nN ?_
 refine T.condD rfl (fun c12 => ?_) (fun c12 => ?_)
 ·refine T.set 12 (.bool true) (congrArg Value.bool (decide_eq_true c12)) ?_
  refine sR ?_
  refine R.mvE rfl cA ?_
  refine R.asE rfl cA ?_
  refine nN ?_
  refine T.has (Has.cons .hd Has.nil) ?_
  refine T.ret (Post.thnR ?_)
  have hM : k_60 a0 a1 = a0 := by rw [k_60, if_pos c12]
  exact fin1L (v := .slice Aa0 a0.length pa0) [Ca0] rfl rfl (List.Sublist.refl _) ⟨.slice Aa0 a0.length pa0, Ca0, by first | rw [hM] | rfl, rfl, by rw [hM]; exact ha0⟩
 refine T.set 12 (.bool false) (congrArg Value.bool (decide_eq_false c12)) ?_
 refine T.skip (Post.thnN ?_)
 refine T.seq ?_
 refine T.seq ?_
 have hx := idxf_int_rng a0 a1
 refine T.region ?_
 refine R.mvE rfl cA ?_
 refine R.addI rfl rfl rfl oA ?_
 refine R.asE rfl cA ?_
 refine nN ?_
 refine T.block ?_
 refine T.loop (ι := Nat × Int × Int × (List Int) × Chunk) (fun ⟨kl1, n5l1, n6l1, xPa0l1, cPa0l1⟩ H' L' ds' => ((a0.length : Int) - n6l1).toNat < kl1 ∧ Has L' [cPa0l1] ∧ OwnS (intE .i64) 3 H' (.slice Aa0 a0.length pa0) xPa0l1 cPa0l1 ∧ 0 ≤ n5l1 ∧ n5l1 + 1 ≤ n6l1 ∧ n6l1 ≤ (a0.length : Int) ∧ k_4e a0 a1 kl1 ((n5l1, n6l1, xPa0l1)) = k_4e a0 a1 (((a0.length : Int) - (((k_f a0 a1) + 1))).toNat + 1) (((k_f a0 a1), ((k_f a0 a1) + 1), a0))) (fun ⟨kl1, n5l1, n6l1, xPa0l1, cPa0l1⟩ => [(0, .slice Aa0 a0.length pa0), (1, fa1), (5, .int .i64 n5l1), (6, .int .i64 n6l1)]) (fun ⟨kl1, n5l1, n6l1, xPa0l1, cPa0l1⟩ => kl1) ((((a0.length : Int) - (((k_f a0 a1) + 1))).toNat + 1), (k_f a0 a1), ((k_f a0 a1) + 1), a0, Ca0) ?_ ?_ ?_
 ·exact ⟨oA, (Has.cons .hd Has.nil), ha0, bA, bA, bA, (by rfl)⟩
 ·exact ⟨rfl, rfl, rfl, rfl, trivial⟩
 intro ⟨kl1, n5l1, n6l1, xPa0l1, cPa0l1⟩ σ_l1 H_l1 L_l1 ds_l1 s_l1 hI_l1
 obtain ⟨hkl1, hI_l1⟩ := hI_l1
 obtain ⟨ml1, rfl⟩ : ∃ m, kl1 = m + 1 := ⟨kl1 - 1, by omega⟩
 obtain ⟨hLl1, wPa0l1, hBl1_0, hBl1_1, hBl1_2, hQl1⟩ := hI_l1
 have nPa0l1_ := OwnS.len wPa0l1
 refine T.has hLl1 ?_
 refine T.seq ?_
 refine sR ?_
 refine R.mvE rfl cA ?_
 refine R.mvE rfl cA ?_
 refine R.len Tryz.underlying25 rfl rfl ?_
 refine R.lss rfl rfl rfl ?_
 refine nN ?_
 refine T.condD rfl (fun c19 => ?_) (fun c19 => ?_)
 ·refine T.set 19 (.bool true) (congrArg Value.bool (decide_eq_true c19)) ?_
  refine T.skip (Post.thnN ?_)
  refine T.seq ?_
  refine T.block ?_
  refine sR ?_
  refine R.mvE rfl cA ?_
  refine R.mvE rfl cA ?_
  have hl24 : n6l1.toNat < a0.length := bA
  obtain ⟨y24, e24, h24⟩ : ∃ y, y = (xPa0l1.getD n6l1.toNat (0 : Int)) ∧ xPa0l1[n6l1.toNat]? = some y := ⟨_, rfl, k_6 (by first | exact hl24 | simpa using hl24 | (simp only [List.length_set]; omega) | omega | (rw [(k_1 _).length_eq]; exact hl24))⟩
  obtain ⟨b24, u24, cs24, l24, f24, j24, i24, g24, k24⟩ := OwnS.elem wPa0l1 h24
  obtain rfl : l24 = [.int .i64 y24] := g24
  refine R.ixp (sz := ((intE .i64)).size) Tryz.underlying25 Tryz.sizeOf3 rfl rfl rfl bA i24 ?_
  refine R.ld Tryz.isAgg3 rfl rfl (by rw [← f24]; exact .hd) (k24 0 _ rfl) ?_
  refine R.asE rfl cA ?_
  refine nN ?_
  refine sR ?_
  refine R.mvE rfl cA ?_
  refine R.mvE rfl cA ?_
  refine R.callv rfl rfl rfl (ha1 _ s_l1 (y24)) ?_
  refine R.not rfl rfl ?_
  refine nN ?_
  refine T.cond rfl (fun c29 => ?_) (fun c29 => ?_)
  ·refine T.set 29 (.bool true) (congrArg Value.bool c29) ?_
   refine sR ?_
   refine R.mvE rfl cA ?_
   refine R.mvE rfl cA ?_
   refine R.mvE rfl cA ?_
   have hl33 : n5l1.toNat < a0.length := bA
   obtain ⟨y33, e33, h33⟩ : ∃ y, y = (xPa0l1.getD n5l1.toNat (0 : Int)) ∧ xPa0l1[n5l1.toNat]? = some y := ⟨_, rfl, k_6 (by first | exact hl33 | simpa using hl33 | (simp only [List.length_set]; omega) | omega | (rw [(k_1 _).length_eq]; exact hl33))⟩
   obtain ⟨b33, u33, cs33, l33, f33, j33, i33, g33, k33⟩ := OwnS.elem wPa0l1 h33
   obtain rfl : l33 = [.int .i64 y33] := g33
   refine R.ixp (sz := ((intE .i64)).size) Tryz.underlying25 Tryz.sizeOf3 rfl rfl rfl bA i33 ?_
   refine R.stEF (E := (intE .i64)) (e := 3) (v := (.slice Aa0 a0.length pa0)) (m := [.int .i64 y24]) (o := 0) (y := y33) (y' := y24) (j := n5l1.toNat) Tryz.sizeOf3 rfl wPa0l1 .hd i33 rfl rfl (cells1 rfl) (k_20 rfl) h33 (by show 0 + 1 ≤ 1; decide) (fun l hl => by have e0 : l = [.int .i64 y33] := hl; subst e0; exact rfl) ?_
   intro cst6 wst6
   refine nN ?_
   refine T.region ?_
   refine R.mvE rfl cA ?_
   refine R.addI rfl rfl rfl oA ?_
   refine R.asE rfl cA ?_
   refine TL.nil (Post.blkN ?_)
   refine id (Post.thnN ?_)
   refine T.region ?_
   refine R.mvE rfl cA ?_
   refine R.addI rfl rfl rfl oA ?_
   refine R.asE rfl cA ?_
   refine nN ?_
   exact ⟨(ml1, (n5l1 + 1), (n6l1 + 1), (xPa0l1.set n5l1.toNat y24), cst6), s_l1, ⟨(by first | omega | (simp; omega) | (simp at *; omega)), (Has.cons .hd Has.nil), wst6, bA, bA, bA, (by subst e33; subst e24; rw [← hQl1, k_4e]; rw [if_pos c19, if_t c29])⟩, by show ml1 < ml1 + 1; omega, rfl, rfl, rfl, rfl, trivial⟩
  refine T.set 29 (.bool false) (congrArg Value.bool c29) ?_
  refine T.skip (Post.blkN ?_)
  refine id (Post.thnN ?_)
  refine T.region ?_
  refine R.mvE rfl cA ?_
  refine R.addI rfl rfl rfl oA ?_
  refine R.asE rfl cA ?_
  refine nN ?_
  exact ⟨(ml1, n5l1, (n6l1 + 1), xPa0l1, cPa0l1), s_l1, ⟨(by first | omega | (simp; omega) | (simp at *; omega)), (Has.cons .hd Has.nil), wPa0l1, bA, bA, bA, (by subst e24; rw [← hQl1, k_4e]; rw [if_pos c19, if_f c29])⟩, by show ml1 < ml1 + 1; omega, rfl, rfl, rfl, rfl, trivial⟩
 refine T.set 19 (.bool false) (congrArg Value.bool (decide_eq_false c19)) ?_
 refine T.exit (Post.thnE (Post.thnE (Post.blkX ?_)))
 have hEl1 : k_4e a0 a1 (((a0.length : Int) - (((k_f a0 a1) + 1))).toNat + 1) (((k_f a0 a1), ((k_f a0 a1) + 1), a0)) = (n5l1, n6l1, xPa0l1) := (by rw [← hQl1, k_4e]; rw [if_neg c19])
 refine id (Post.thnN ?_)
 refine sR ?_
 refine R.mvE rfl cA ?_
 refine R.mvE rfl cA ?_
 refine R.sL Tryz.underlying25 Tryz.sizeOf3 rfl rfl rfl oA oA ?_
 obtain ⟨xz7, ez7⟩ : ∃ x, x = (xPa0l1.take (n5l1).toNat) := ⟨_, rfl⟩
 have tz7 : xz7.length = (n5l1).toNat := by rw [ez7, List.length_take]; (try simp only [List.length_set]); omega
 refine R.clr (dd := none) (xs := xz7) (A := Aa0) (cap := pa0) Tryz_ty25 (zone_of (z := .int .i64 0) kA (by intro v hv; have e0 : v = .int .i64 0 := (by simpa [Value.cells] using hv); subst e0; rfl)) rfl (fun q h => by cases h) (m := a0.length) (by rw [tz7]; rfl) (by rw [tz7, ez7]; exact own_take0 (by have hz_ := wPa0l1; have hq_ := (OwnS.len wPa0l1); rw [hq_] at hz_; exact hz_) (by (try simp only [List.length_set]); omega)) .hd oA oA ?_
 intro cz7 wz7
 refine nN ?_
 refine sR ?_
 refine R.mvE rfl cA ?_
 refine R.mvE rfl cA ?_
 have z41 := OwnS.takeM wz7 (i := n5l1.toNat) (m := pa0) (by first | omega | (simp; omega)) (by first | omega | (simp; omega)) (by first | omega | (simp; omega))
 obtain ⟨x41, e41⟩ : ∃ x, x = (xz7.take n5l1.toNat) := ⟨_, rfl⟩
 rw [← e41] at z41
 obtain ⟨A41, p41, q41, m41, n41⟩ := OwnS.shape z41
 have t41 : x41.length = n5l1.toNat := by rw [e41, List.length_take]; omega
 refine R.sH Tryz.underlying25 Tryz.sizeOf3 rfl rfl rfl (by first | omega | (simp; omega)) (by first | omega | (simp; omega))  ?_
 refine TL.set 41 (.slice A41 x41.length p41) (by first | exact q41 | (rw [← q41]; simp; done) | (rw [← q41]; rfl)) ?_
 rw [q41] at z41
 refine R.asE rfl cA ?_
 refine nN ?_
 refine T.has (Has.cons .hd Has.nil) ?_
 refine T.ret ?_
 have hM : k_60 a0 a1 = x41 := by subst e41; subst ez7; rw [k_60, if_neg c12, hEl1, LR.seq_go]
 exact fin1L (v := .slice A41 x41.length p41) [cz7] rfl rfl (List.Sublist.refl _) ⟨.slice A41 x41.length p41, cz7, by first | rw [hM] | rfl, rfl, by rw [hM]; exact z41⟩
theorem delf_int_l1 (a : List Int) (p : Int → Bool) : ∀ (r i j m : Nat) (cur : List Int), a.length - j ≤ r → r < m → i + 1 ≤ j → j ≤ a.length → cur.length = a.length → cur.take i = (a.take j).filter (fun y => !p y) → (∀ q, j ≤ q → cur.getD q 0 = a.getD q 0) →
    ∃ (i' : Nat) (cur' : List Int) (o : Int), k_4e a p m ((i : Int), (j : Int), cur) = ((i' : Int), o, cur') ∧ cur'.take i' = a.filter (fun y => !p y)
  | r, i, j, 0, cur, _, h, _, _, _, _, _ => by omega
  | r, i, j, m + 1, cur, h1, h2, h3, h4, h5, h6, h7 => by
    rw [k_4e]
    dsimp only
    by_cases hj : j < a.length
    · rw [if_pos (show (j : Int) < (a.length : Int) by omega), Int.toNat_natCast, h7 j (Nat.le_refl _)]
      have hs : a.take (j + 1) = a.take j ++ [a.getD j 0] := by rw [List.take_add_one, List.getD_eq_getElem?_getD, List.getElem?_eq_getElem hj]; rfl
      cases r with
      | zero => omega
      | succ r =>
        cases hp : p (a.getD j 0) with
        | true =>
          rw [if_neg (by decide)]
          exact delf_int_l1 a p r i (j + 1) m cur (by omega) (by omega) (by omega) (by omega) h5 (by rw [hs, List.filter_append, h6, show [a.getD j 0].filter (fun y => !p y) = [] by rw [List.filter_cons, hp]; rfl, List.append_nil]) (fun q hq => h7 q (by omega))
        | false =>
          rw [if_pos (by decide), Int.toNat_natCast]
          refine delf_int_l1 a p r (i + 1) (j + 1) m (cur.set i (a.getD j 0)) (by omega) (by omega) (by omega) (by omega) (by rw [List.length_set]; exact h5) ?_ (fun q hq => ?_)
          · rw [hs, List.filter_append, ← h6, List.take_add_one, List.take_set_of_le (Nat.le_refl _), List.getElem?_set_self (by omega), show [a.getD j 0].filter (fun y => !p y) = [a.getD j 0] by rw [List.filter_cons, hp]; rfl]; rfl
          · rw [List.getD_eq_getElem?_getD, List.getElem?_set_ne (by omega), ← List.getD_eq_getElem?_getD]; exact h7 q (by omega)
    · rw [if_neg (show ¬ (j : Int) < (a.length : Int) by omega)]
      exact ⟨i, cur, _, rfl, by rw [h6, List.take_of_length_le (by omega)]⟩
theorem delf_int (a : List Int) (p : Int → Bool) : k_60 a p = a.filter (fun y => !p y) := by
  unfold k_60
  rcases idxf_int a p with ⟨j, h1, h2, h3, h4⟩ | ⟨h1, h2⟩
  · rw [h1, if_neg (by omega)]
    have e : a.take j = (a.take (j + 1)).filter (fun y => !p y) := by
      rw [List.take_add_one, List.getElem?_eq_getElem h2, List.filter_append]
      have h3' : p a[j] = true := by rw [List.getD_eq_getElem?_getD, List.getElem?_eq_getElem h2] at h3; exact h3
      have : (a.take j).filter (fun y => !p y) = a.take j := by
        rw [List.filter_eq_self]
        intro y hy
        obtain ⟨i, hi⟩ := List.mem_iff_getElem?.1 hy
        have hlt : i < j := by have := (List.getElem?_eq_some_iff.1 hi).1; rw [List.length_take] at this; omega
        rw [List.getElem?_take_of_lt hlt] at hi
        have := h4 i hlt
        rw [List.getD_eq_getElem?_getD, hi] at this
        simpa using this
      rw [this]; simp [h3']
    obtain ⟨i', cur', o, q1, q2⟩ := delf_int_l1 a p (a.length - (j + 1)) j (j + 1) (((a.length : Int) - ((j : Int) + 1)).toNat + 1) a (Nat.le_refl _) (by omega) (Nat.le_refl _) (by omega) rfl e (fun q _ => rfl)
    rw [show ((j : Int) + 1) = ((j + 1 : Nat) : Int) by omega] at *
    simp only [LR.seq_go]
    rw [q1]
    simp only [Int.toNat_natCast, List.take_take, Nat.min_self]
    exact q2
  · rw [h1, if_pos rfl, List.filter_eq_self.2 (fun y hy => by rw [h2 y hy]; rfl)]
theorem delf_int_len (a : List Int) (p : Int → Bool) (r : List Int) (e : r = k_60 a p) : r.length ≤ a.length := by
  rw [e, delf_int]; exact List.length_filter_le _ _
end Go.SX

set_option linter.unusedVariables false
set_option linter.unusedSimpArgs false
namespace Go.SX
open Go Go.Proofs
def listedE : ER (Int × (List Int)) where
  size := 2
  R := fun H cs x => ∃ v1, cs = [.int .u64 x.1, v1] ∧ RdS (intE .i64) H v1 x.2
  len := fun h => by obtain ⟨v1, rfl, _⟩ := h; rfl
  mono := fun hl h => by obtain ⟨v1, rfl, h0⟩ := h; exact ⟨v1, rfl, h0.mono hl⟩
  one := fun h v hv => by
    obtain ⟨v1, rfl, h0⟩ := h
    simp only [List.mem_cons, List.not_mem_nil, or_false] at hv
    rcases hv with rfl | rfl <;> first | rfl | exact RdS.one (by assumption)

def k_84 (a0 : List Int) (a1 : Int → Int → Int) : Nat → Int → LR (Bool) (Int)
  | 0, _ => .go default
  | ml1 + 1, sl1 => if sl1 < (a0.length : Int) then (if (0 : Int) ≤ (a1 (a0.getD (((sl1 - 1)).toNat) (0 : Int)) (a0.getD sl1.toNat (0 : Int))) then (.ret false) else (k_84 a0 a1 ml1 ((sl1 + 1)))) else (.go sl1)
def k_9f (a0 : List Int) (a1 : Int → Int → Int) : Bool :=
  LR.on (k_84 a0 a1 (((a0.length : Int) - 1).toNat + 1) 1) (fun r => r) (fun ol1 => true)
set_option maxHeartbeats 3200000 in
theorem index_rises_int_c (H : Heap) (va0 : Value) (a0 : List Int) (ha0 : RdS (intE .i64) H va0 a0) (fa1 : Value) (a1 : Int → Int → Int) (ha1 : ∀ H', HLe H H' → ∀ (z0 : Int) (z1 : Int), Fv Tryz.prog fa1 [.int .i64 z0, .int .i64 z1] H' (.int .i64 (a1 z0 z1))) (na1 : fa1.oneCell' = true) (hl : a0.length ≤ 2000000) : Fv Tryz.prog (fnv 76) [va0, fa1] H (.bool (k_9f a0 a1)) := by
 refine Fc.of_body (N := 24) Tryz.func76 rfl kA rfl rfl ?_
 intro w0
 obtain ⟨Aa0, ca0, rfl, hca0, hda0, ha0⟩ := ha0.shape
 refine sR ?_
 refine R.asE rfl cA ?_
 refine nN ?_
 refine T.seq ?_
 refine sR ?_
 refine R.asE rfl cA ?_
 refine nN ?_
 refine T.block ?_
 refine T.loop (ι := Nat × Int) (fun ⟨kl1, n5l1⟩ H' L' ds' => ((a0.length : Int) - n5l1).toNat < kl1 ∧ Has L' [] ∧ 1 ≤ n5l1 ∧ k_84 a0 a1 kl1 n5l1 = k_84 a0 a1 (((a0.length : Int) - 1).toNat + 1) 1) (fun ⟨kl1, n5l1⟩ => [(0, .slice Aa0 a0.length ca0), (1, fa1), (5, .int .i64 n5l1)]) (fun ⟨kl1, n5l1⟩ => kl1) ((((a0.length : Int) - 1).toNat + 1), 1) ?_ ?_ ?_
 ·exact ⟨oA, Has.nil, bA, (by rfl)⟩
 ·exact ⟨rfl, rfl, rfl, trivial⟩
 intro ⟨kl1, n5l1⟩ σ_l1 H_l1 L_l1 ds_l1 s_l1 hI_l1
 obtain ⟨hkl1, hI_l1⟩ := hI_l1
 obtain ⟨ml1, rfl⟩ : ∃ m, kl1 = m + 1 := ⟨kl1 - 1, by omega⟩
 obtain ⟨hLl1, hBl1_0, hQl1⟩ := hI_l1
 refine T.has hLl1 ?_
 refine T.seq ?_
 refine sR ?_
 refine R.mvE rfl cA ?_
 refine R.mvE rfl cA ?_
 refine R.len Tryz.underlying25 rfl rfl ?_
 refine R.lss rfl rfl rfl ?_
 refine nN ?_
 refine T.condD rfl (fun c9 => ?_) (fun c9 => ?_)
 ·refine T.set 9 (.bool true) (congrArg Value.bool (decide_eq_true c9)) ?_
  refine T.skip (Post.thnN ?_)
  refine T.seq ?_
  refine T.block ?_
  refine T.seq ?_
  refine T.draw k_2b kA ?_
  refine vM 0 [1, 2, 3, 4, 5, 6, 7, 8, 9, 10, 11] rfl rfl cA ?_
  refine vM 1 [2, 3, 4, 5, 6, 7, 8, 9, 10, 11] rfl rfl cA ?_
  refine vM 2 [3, 4, 5, 6, 7, 8, 9, 10, 11] rfl rfl cA ?_
  refine vA 3 [4, 5, 6, 7, 8, 9, 10, 11] rfl (fun _ _ h_ => R.subI rfl rfl rfl oA (TL.nil h_)) ?_
  have hl16 : ((n5l1 - 1)).toNat < a0.length := bA
  obtain ⟨y16, e16, h16⟩ : ∃ y, y = (a0.getD (((n5l1 - 1)).toNat) (0 : Int)) ∧ a0[((n5l1 - 1)).toNat]? = some y := ⟨_, rfl, k_6 (by first | exact hl16 | simpa using hl16 | (simp only [List.length_set]; omega) | omega | (rw [(k_1 _).length_eq]; exact hl16))⟩
  obtain ⟨b16, o16, i16, k16⟩ := RdS.elem (ha0.mono s_l1) h16
  obtain ⟨l16, g16, k16⟩ := k16
  obtain rfl : l16 = [.int .i64 y16] := g16
  refine vA 4 [5, 6, 7, 8, 9, 10, 11] rfl (fun _ _ h_ => R.ixp Tryz.underlying25 Tryz.sizeOf3 rfl rfl rfl bA i16 (TL.nil h_)) ?_
  refine vA 5 [6, 7, 8, 9, 10, 11] rfl (fun _ _ h_ => R.ldC Tryz.isAgg3 rfl rfl (k16 0 _ rfl) (TL.nil h_)) ?_
  refine vM 6 [7, 8, 9, 10, 11] rfl rfl cA ?_
  refine vM 7 [8, 9, 10, 11] rfl rfl cA ?_
  have hl20 : n5l1.toNat < a0.length := bA
  obtain ⟨y20, e20, h20⟩ : ∃ y, y = (a0.getD n5l1.toNat (0 : Int)) ∧ a0[n5l1.toNat]? = some y := ⟨_, rfl, k_6 (by first | exact hl20 | simpa using hl20 | (simp only [List.length_set]; omega) | omega | (rw [(k_1 _).length_eq]; exact hl20))⟩
  obtain ⟨b20, o20, i20, k20⟩ := RdS.elem (ha0.mono s_l1) h20
  obtain ⟨l20, g20, k20⟩ := k20
  obtain rfl : l20 = [.int .i64 y20] := g20
  refine vA 8 [9, 10, 11] rfl (fun _ _ h_ => R.ixp Tryz.underlying25 Tryz.sizeOf3 rfl rfl rfl bA i20 (TL.nil h_)) ?_
  refine vA 9 [10, 11] rfl (fun _ _ h_ => R.ldC Tryz.isAgg3 rfl rfl (k20 0 _ rfl) (TL.nil h_)) ?_
  refine vA 10 [11] rfl (fun _ _ h_ => R.callv rfl rfl rfl (ha1 _ s_l1 (y16) (y20)) (TL.nil h_)) ?_
  refine vA 11 [] rfl (fun _ _ h_ => R.geq rfl rfl rfl (TL.nil h_)) ?_
  refine Plan.done (Post.thnN ?_)
  refine T.condD rfl (fun c23 => ?_) (fun c23 => ?_)
  ·refine T.set 23 (.bool true) (congrArg Value.bool (decide_eq_true c23)) ?_
   refine sR ?_
   refine R.asE rfl cA ?_
   refine nN ?_
   refine T.has Has.nil ?_
   refine T.ret (Post.blkR (Post.thnR (Post.thnR (Post.blkR (Post.thnR ?_)))))
   have hXl1 : k_84 a0 a1 (((a0.length : Int) - 1).toNat + 1) 1 = .ret false := by subst e20; subst e16; rw [← hQl1, k_84]; rw [if_pos c9, if_pos c23]
   have hM : k_9f a0 a1 = false := by rw [k_9f, hXl1, LR.on_ret]
   exact fin1L (v := .bool false) [] rfl rfl (List.Sublist.refl _) ⟨rfl, by first | rw [hM] | rfl⟩
  refine T.set 23 (.bool false) (congrArg Value.bool (decide_eq_false c23)) ?_
  refine T.skip (Post.blkN ?_)
  refine id (Post.thnN ?_)
  refine T.region ?_
  refine R.mvE rfl cA ?_
  refine R.addI rfl rfl rfl oA ?_
  refine R.asE rfl cA ?_
  refine nN ?_
  exact ⟨(ml1, (n5l1 + 1)), s_l1, ⟨(by first | omega | (simp; omega) | (simp at *; omega)), Has.nil, bA, (by subst e20; subst e16; rw [← hQl1, k_84]; rw [if_pos c9, if_neg c23])⟩, by show ml1 < ml1 + 1; omega, rfl, rfl, rfl, trivial⟩
 refine T.set 9 (.bool false) (congrArg Value.bool (decide_eq_false c9)) ?_
 refine T.exit (Post.thnE (Post.thnE (Post.blkX ?_)))
 have hEl1 : k_84 a0 a1 (((a0.length : Int) - 1).toNat + 1) 1 = .go n5l1 := (by rw [← hQl1, k_84]; rw [if_neg c9])
 refine id (Post.thnN ?_)
 refine sR ?_
 refine R.asE rfl cA ?_
 refine nN ?_
 refine T.has Has.nil ?_
 refine T.ret ?_
 have hM : k_9f a0 a1 = true := by rw [k_9f, hEl1, LR.on_go]
 exact fin1L (v := .bool true) [] rfl rfl (List.Sublist.refl _) ⟨rfl, by first | rw [hM] | rfl⟩
def k_9a (a0 : Int) : Bool :=
  (decide (a0 ≠ a0))
set_option maxHeartbeats 3200000 in
theorem cmp_isNaN_int_c (H : Heap) (a0 : Int) : Fv Tryz.prog (fnv 88) [.int .i64 a0] H (.bool (k_9a a0)) := by
 refine Fc.of_body (N := 6) Tryz.func88 rfl kA rfl rfl ?_
 intro w0
 refine sR ?_
 refine R.asE rfl cA ?_
 refine nN ?_
 refine sR ?_
 refine R.mvE rfl cA ?_
 refine R.mvE rfl cA ?_
 refine R.neq rfl rfl rfl ?_
 refine R.asE rfl cA ?_
 refine nN ?_
 refine T.has Has.nil ?_
 refine T.ret ?_
 have hM : k_9a a0 = (decide (a0 ≠ a0)) := by rw [k_9a]
 exact fin1L (v := .bool (decide (a0 ≠ a0))) [] rfl rfl (List.Sublist.refl _) ⟨rfl, by first | rw [hM] | rfl⟩
def k_4c (a0 : Int) (a1 : Int) : Int :=
  if (k_9a a0) = true then (if (k_9a a1) = true then 0 else (-1)) else (if (k_9a a1) = true then 1 else (if a0 < a1 then (-1) else (if a1 < a0 then 1 else 0)))
set_option maxHeartbeats 3200000 in
theorem cmp_Compare_int_c (H : Heap) (a0 : Int) (a1 : Int) : Fv Tryz.prog (fnv 77) [.int .i64 a0, .int .i64 a1] H (.int .i64 (k_4c a0 a1)) := by
 refine Fc.of_body (N := 20) Tryz.func77 rfl kA rfl rfl ?_
 intro w0
 refine sR ?_
 refine R.asE rfl cA ?_
 refine nN ?_
 refine sR ?_
 refine R.mvE rfl cA ?_
 refine R.callv rfl rfl rfl (cmp_isNaN_int_c _ (a0)) ?_
 refine R.asE rfl cA ?_
 refine nN ?_
 refine sR ?_
 refine R.mvE rfl cA ?_
 refine R.callv rfl rfl rfl (cmp_isNaN_int_c _ (a1)) ?_
 refine R.asE rfl cA ?_
 refine nN ?_
 refine T.seq ?_
 refine sR ?_
 refine R.mvE rfl cA ?_
 refine nN ?_
 refine T.cond rfl (fun c11 => ?_) (fun c11 => ?_)
 ·refine T.set 11 (.bool true) (congrArg Value.bool c11) ?_
  refine T.seq ?_
  refine sR ?_
  refine R.mvE rfl cA ?_
  refine nN ?_
  refine T.cond rfl (fun c12 => ?_) (fun c12 => ?_)
  ·refine T.set 12 (.bool true) (congrArg Value.bool c12) ?_
   refine sR ?_
   refine R.asE rfl cA ?_
   refine nN ?_
   refine T.has Has.nil ?_
   refine T.ret (Post.thnR (Post.thnR ?_))
   have hM : k_4c a0 a1 = 0 := by rw [k_4c, if_t c11, if_t c12]
   exact fin1L (v := .int .i64 0) [] rfl rfl (List.Sublist.refl _) ⟨rfl, by first | rw [hM] | rfl⟩
  refine T.set 12 (.bool false) (congrArg Value.bool c12) ?_
  refine T.skip (Post.thnN ?_)
  refine sR ?_
  refine R.asE rfl cA ?_
  refine nN ?_
  refine T.has Has.nil ?_
  refine T.ret (Post.thnR ?_)
  have hM : k_4c a0 a1 = (-1) := by rw [k_4c, if_t c11, if_f c12]
  exact fin1L (v := .int .i64 (-1)) [] rfl rfl (List.Sublist.refl _) ⟨rfl, by first | rw [hM] | rfl⟩
 refine T.set 11 (.bool false) (congrArg Value.bool c11) ?_
 refine T.skip (Post.thnN ?_)
 refine T.seq ?_
 refine sR ?_
 refine R.mvE rfl cA ?_
 refine nN ?_
 refine T.cond rfl (fun c13 => ?_) (fun c13 => ?_)
 ·refine T.set 13 (.bool true) (congrArg Value.bool c13) ?_
  refine sR ?_
  refine R.asE rfl cA ?_
  refine nN ?_
  refine T.has Has.nil ?_
  refine T.ret (Post.thnR ?_)
  have hM : k_4c a0 a1 = 1 := by rw [k_4c, if_f c11, if_t c13]
  exact fin1L (v := .int .i64 1) [] rfl rfl (List.Sublist.refl _) ⟨rfl, by first | rw [hM] | rfl⟩
 refine T.set 13 (.bool false) (congrArg Value.bool c13) ?_
 refine T.skip (Post.thnN ?_)
 refine T.seq ?_
 refine sR ?_
 refine R.mvE rfl cA ?_
 refine R.mvE rfl cA ?_
 refine R.lss rfl rfl rfl ?_
 refine nN ?_
 refine T.condD rfl (fun c16 => ?_) (fun c16 => ?_)
 ·refine T.set 16 (.bool true) (congrArg Value.bool (decide_eq_true c16)) ?_
  refine sR ?_
  refine R.asE rfl cA ?_
  refine nN ?_
  refine T.has Has.nil ?_
  refine T.ret (Post.thnR ?_)
  have hM : k_4c a0 a1 = (-1) := by rw [k_4c, if_f c11, if_f c13, if_pos c16]
  exact fin1L (v := .int .i64 (-1)) [] rfl rfl (List.Sublist.refl _) ⟨rfl, by first | rw [hM] | rfl⟩
 refine T.set 16 (.bool false) (congrArg Value.bool (decide_eq_false c16)) ?_
 refine T.skip (Post.thnN ?_)
 refine T.seq ?_
 refine sR ?_
 refine R.mvE rfl cA ?_
 refine R.mvE rfl cA ?_
 refine R.gtr rfl rfl rfl ?_
 refine nN ?_
 refine T.condD rfl (fun c19 => ?_) (fun c19 => ?_)
 ·refine T.set 19 (.bool true) (congrArg Value.bool (decide_eq_true c19)) ?_
  refine sR ?_
  refine R.asE rfl cA ?_
  refine nN ?_
  refine T.has Has.nil ?_
  refine T.ret (Post.thnR ?_)
  have hM : k_4c a0 a1 = 1 := by rw [k_4c, if_f c11, if_f c13, if_neg c16, if_pos c19]
  exact fin1L (v := .int .i64 1) [] rfl rfl (List.Sublist.refl _) ⟨rfl, by first | rw [hM] | rfl⟩
 refine T.set 19 (.bool false) (congrArg Value.bool (decide_eq_false c19)) ?_
 refine T.skip (Post.thnN ?_)
 refine sR ?_
 refine R.asE rfl cA ?_
 refine nN ?_
 refine T.has Has.nil ?_
 refine T.ret ?_
 have hM : k_4c a0 a1 = 0 := by rw [k_4c, if_f c11, if_f c13, if_neg c16, if_neg c19]
 exact fin1L (v := .int .i64 0) [] rfl rfl (List.Sublist.refl _) ⟨rfl, by first | rw [hM] | rfl⟩
def k_5d (a0 : List Int) (a1 : Int → Bool) : Bool :=
  (decide ((0 : Int) ≤ (k_f a0 a1)))
set_option maxHeartbeats 3200000 in
theorem slices_ContainsFunc_int_c (H : Heap) (va0 : Value) (a0 : List Int) (ha0 : RdS (intE .i64) H va0 a0) (fa1 : Value) (a1 : Int → Bool) (ha1 : ∀ H', HLe H H' → ∀ (z0 : Int), Fv Tryz.prog fa1 [.int .i64 z0] H' (.bool (a1 z0))) (na1 : fa1.oneCell' = true) : Fv Tryz.prog (fnv 78) [va0, fa1] H (.bool (k_5d a0 a1)) := by
 refine Fc.of_body (N := 9) Tryz.func78 rfl kA rfl rfl ?_
 intro w0
 obtain ⟨Aa0, ca0, rfl, hca0, hda0, ha0⟩ := ha0.shape
 refine sR ?_
 refine R.asE rfl cA ?_
 refine nN ?_
 refine sR ?_
 refine R.mvE rfl cA ?_
 refine R.mvE rfl cA ?_
 refine R.callv rfl rfl rfl (slices_IndexFunc_int_c _ _ a0 ha0 _ a1 (fun H' h' => ha1 H' ((HLe.refl _).trans h')) na1) ?_
 refine R.geq rfl rfl rfl ?_
 refine R.asE rfl cA ?_
 refine nN ?_
 refine T.has Has.nil ?_
 refine T.ret ?_
 have hM : k_5d a0 a1 = (decide ((0 : Int) ≤ (k_f a0 a1))) := by rw [k_5d]
 exact fin1L (v := .bool (decide ((0 : Int) ≤ (k_f a0 a1)))) [] rfl rfl (List.Sublist.refl _) ⟨rfl, by first | rw [hM] | rfl⟩
def k_87 (a0 : Int) : Bool :=
  if (1 : Int) ≤ a0 then ((decide (a0 ≤ 1048576))) else false
set_option maxHeartbeats 3200000 in
theorem index_table_c (H : Heap) (a0 : Int) : Fv Tryz.prog (fnv 32) [.int .i64 a0] H (.bool (k_87 a0)) := by
 refine Fc.of_body (N := 9) Tryz.func32 rfl kA rfl rfl ?_
 intro w0
 refine sR ?_
 refine R.asE rfl cA ?_
 refine nN ?_
 refine sR ?_
 refine R.mvE rfl cA ?_
 refine R.geq rfl rfl rfl ?_
 refine R.mvE rfl cA ?_
 refine TL.gsplitD 5 rfl (fun g5 => ?_) (fun g5 => ?_)
 ·refine R.mvE rfl cA ?_
  refine R.leq rfl rfl rfl ?_
  refine R.pkTE rfl rfl cA ?_
  refine R.asE rfl cA ?_
  refine nN ?_
  refine T.has Has.nil ?_
  refine T.ret ?_
  have hM : k_87 a0 = (decide (a0 ≤ 1048576)) := by rw [k_87, if_pos g5]
  exact fin1L (v := .bool (decide (a0 ≤ 1048576))) [] rfl rfl (List.Sublist.refl _) ⟨rfl, by first | rw [hM] | rfl⟩
 refine TL.off rfl rfl rfl ?_
 refine TL.off rfl rfl rfl ?_
 refine R.pkFE rfl rfl cA ?_
 refine R.asE rfl cA ?_
 refine nN ?_
 refine T.has Has.nil ?_
 refine T.ret ?_
 have hM : k_87 a0 = false := by rw [k_87, if_neg g5]
 exact fin1L (v := .bool false) [] rfl rfl (List.Sublist.refl _) ⟨rfl, by first | rw [hM] | rfl⟩
def k_ac (a0 : Int) : Bool :=
  (!(k_87 a0))
set_option maxHeartbeats 3200000 in
theorem index_row_1_c (H : Heap) (a0 : Int) : Fv Tryz.prog (fnv 79) [.int .i64 a0] H (.bool (k_ac a0)) := by
 refine Fc.of_body (N := 6) Tryz.func79 rfl kA rfl rfl ?_
 intro w0
 refine sR ?_
 refine R.asE rfl cA ?_
 refine nN ?_
 refine sR ?_
 refine R.mvE rfl cA ?_
 refine R.callv rfl rfl rfl (index_table_c _ (a0)) ?_
 refine R.not rfl rfl ?_
 refine R.asE rfl cA ?_
 refine nN ?_
 refine T.has Has.nil ?_
 refine T.ret ?_
 have hM : k_ac a0 = (!(k_87 a0)) := by rw [k_ac]
 exact fin1L (v := .bool ((!(k_87 a0)))) [] rfl rfl (List.Sublist.refl _) ⟨rfl, by first | rw [hM] | rfl⟩
def k_ae (a0 : Int × (List Int)) : Bool :=
  LR.seq (if ((kindG a0.1) : Int) = 2 then true else (if ((kindG a0.1) : Int) = 3 then true else ((decide (((kindG a0.1) : Int) = 4)))) : Bool) (fun sc1 => if sc1 = true then (if (0 : Int) < (a0.2.length : Int) then (if (k_9f a0.2 ((fun z0 z1 => k_4c z0 z1))) = true then ((!(k_5d a0.2 ((fun z0 => k_ac z0))))) else false) else false) else false)
set_option maxHeartbeats 3200000 in
theorem index_row_c (H : Heap) (a0 : Int × (List Int)) (va0_1 : Value) (ha0_1 : RdS (intE .i64) H va0_1 a0.2) (hl : a0.2.length ≤ 2000000) : Fv Tryz.prog (fnv 54) [.agg #[.int .u64 a0.1, va0_1]] H (.bool (k_ae a0)) := by
 refine Fc.of_body (N := 36) Tryz.func54 rfl kA rfl rfl ?_
 intro w0
 obtain ⟨Aa0_1, ca0_1, rfl, hca0_1, hda0_1, ha0_1⟩ := ha0_1.shape
 refine sR ?_
 refine R.box rfl cA ?_
 intro b1
 refine R.asE rfl cA ?_
 refine TL.shut .hd ?_
 intro Hb1_1 sb1_1 qb1_1
 have hb1_1 : Hb1_1 b1 = some (.cells #[.int .u64 (a0.1), .slice Aa0_1 a0.2.length ca0_1] 45) := shut1 qb1_1
 refine nN ?_
 refine sR ?_
 refine R.fldA Tryz.underlying45 rfl Tryz.sizeOf43 (by decide) rfl rfl ?_
 refine R.ldH Tryz.isAgg43 rfl rfl hb1_1 rfl ?_
 refine R.callv rfl rfl rfl (kindG_c _ a0.1) ?_
 refine R.asE rfl cA ?_
 refine nN ?_
 refine T.seq ?_
 refine T.cutK (ι := Bool) (fun b4c1 H' L' ds' => Has L' [] ∧ (if ((kindG a0.1) : Int) = 2 then true else (if ((kindG a0.1) : Int) = 3 then true else ((decide (((kindG a0.1) : Int) = 4)))) : Bool) = b4c1) (fun b4c1 => [(1, .pointer (some ⟨b1, 0, none⟩)), (4, .bool (b4c1))]) ?_ ?_
 ·refine T.region ?_
  refine R.mvE rfl cA ?_
  refine R.eql rfl rfl rfl ?_
  refine R.mvE rfl cA ?_
  refine TL.gsplitD 10 rfl (fun g10 => ?_) (fun g10 => ?_)
  ·refine TL.off rfl rfl rfl ?_
   refine TL.off rfl rfl rfl ?_
   refine R.pkTE rfl rfl cA ?_
   refine R.mvE rfl cA ?_
   refine TL.off rfl rfl rfl ?_
   refine TL.off rfl rfl rfl ?_
   refine R.pkTE rfl rfl cA ?_
   refine R.asE rfl cA ?_
   refine nN ?_
   exact ⟨true, HLe.refl _, ⟨Has.nil, (by rw [if_pos g10])⟩, rfl, rfl, trivial⟩
  refine R.mvE rfl cA ?_
  refine R.eql rfl rfl rfl ?_
  refine R.pkFE rfl rfl cA ?_
  refine R.mvE rfl cA ?_
  refine TL.gsplitD 14 rfl (fun g14 => ?_) (fun g14 => ?_)
  ·refine TL.off rfl rfl rfl ?_
   refine TL.off rfl rfl rfl ?_
   refine R.pkTE rfl rfl cA ?_
   refine R.asE rfl cA ?_
   refine nN ?_
   exact ⟨true, HLe.refl _, ⟨Has.nil, (by rw [if_neg g10, if_pos g14])⟩, rfl, rfl, trivial⟩
  refine R.mvE rfl cA ?_
  refine R.eql rfl rfl rfl ?_
  refine R.pkFE rfl rfl cA ?_
  refine R.asE rfl cA ?_
  refine nN ?_
  exact ⟨(decide (((kindG a0.1) : Int) = 4)), HLe.refl _, ⟨Has.nil, (by rw [if_neg g10, if_neg g14])⟩, rfl, rfl, trivial⟩
 intro b4c1 σ_c1 H_c1 L_c1 ds_c1 s_c1 hI_c1
 obtain ⟨hLc1, hTc1⟩ := hI_c1
 refine T.has hLc1 ?_
 refine sR ?_
 refine R.mvE rfl cA ?_
 refine R.mvE rfl cA ?_
 refine TL.gsplit 19 rfl (fun g19 => ?_) (fun g19 => ?_)
 ·refine R.fldA Tryz.underlying45 rfl Tryz.sizeOf25 (by decide) rfl rfl ?_
  refine R.ldH Tryz.isAgg25 rfl rfl (s_c1 _ _ hb1_1) rfl ?_
  refine R.len Tryz.underlying25 rfl rfl ?_
  refine R.gtr rfl rfl rfl ?_
  refine R.pkTE rfl rfl cA ?_
  refine R.mvE rfl cA ?_
  refine TL.gsplitD 25 rfl (fun g25 => ?_) (fun g25 => ?_)
  ·refine R.fldA Tryz.underlying45 rfl Tryz.sizeOf25 (by decide) rfl rfl ?_
   refine R.ldH Tryz.isAgg25 rfl rfl (s_c1 _ _ hb1_1) rfl ?_
   refine R.callv rfl rfl rfl (index_rises_int_c _ _ a0.2 (ha0_1.mono (sb1_1.trans s_c1)) _ (fun z0 z1 => k_4c z0 z1) (fun H2 h2 z0 z1 => cmp_Compare_int_c H2 z0 z1) rfl bA) ?_
   refine R.pkTE rfl rfl cA ?_
   refine R.mvE rfl cA ?_
   refine TL.gsplit 30 rfl (fun g30 => ?_) (fun g30 => ?_)
   ·refine R.fldA Tryz.underlying45 rfl Tryz.sizeOf25 (by decide) rfl rfl ?_
    refine R.ldH Tryz.isAgg25 rfl rfl (s_c1 _ _ hb1_1) rfl ?_
    refine R.callv rfl rfl rfl (slices_ContainsFunc_int_c _ _ a0.2 (ha0_1.mono (sb1_1.trans s_c1)) _ (fun z0 => k_ac z0) (fun H2 h2 z0 => index_row_1_c H2 z0) rfl) ?_
    refine R.not rfl rfl ?_
    refine R.pkTE rfl rfl cA ?_
    refine R.asE rfl cA ?_
    refine nN ?_
    refine T.has Has.nil ?_
    refine T.ret ?_
    have hM : k_ae a0 = (!(k_5d a0.2 ((fun z0 => k_ac z0)))) := by rw [k_ae, hTc1, LR.seq_go, if_t g19, if_pos g25, if_t g30]
    exact fin1L (v := .bool ((!(k_5d a0.2 ((fun z0 => k_ac z0)))))) [] rfl rfl (List.Sublist.refl _) ⟨rfl, by first | rw [hM] | rfl⟩
   refine TL.off rfl rfl rfl ?_
   refine TL.off rfl rfl rfl ?_
   refine TL.off rfl rfl rfl ?_
   refine TL.off rfl rfl rfl ?_
   refine R.pkFE rfl rfl cA ?_
   refine R.asE rfl cA ?_
   refine nN ?_
   refine T.has Has.nil ?_
   refine T.ret ?_
   have hM : k_ae a0 = false := by rw [k_ae, hTc1, LR.seq_go, if_t g19, if_pos g25, if_f g30]
   exact fin1L (v := .bool false) [] rfl rfl (List.Sublist.refl _) ⟨rfl, by first | rw [hM] | rfl⟩
  refine TL.off rfl rfl rfl ?_
  refine TL.off rfl rfl rfl ?_
  refine TL.off rfl rfl rfl ?_
  refine R.pkFE rfl rfl cA ?_
  refine R.mvE rfl cA ?_
  refine TL.off rfl rfl rfl ?_
  refine TL.off rfl rfl rfl ?_
  refine TL.off rfl rfl rfl ?_
  refine TL.off rfl rfl rfl ?_
  refine R.pkFE rfl rfl cA ?_
  refine R.asE rfl cA ?_
  refine nN ?_
  refine T.has Has.nil ?_
  refine T.ret ?_
  have hM : k_ae a0 = false := by rw [k_ae, hTc1, LR.seq_go, if_t g19, if_neg g25]
  exact fin1L (v := .bool false) [] rfl rfl (List.Sublist.refl _) ⟨rfl, by first | rw [hM] | rfl⟩
 refine TL.off rfl rfl rfl ?_
 refine TL.off rfl rfl rfl ?_
 refine TL.off rfl rfl rfl ?_
 refine TL.off rfl rfl rfl ?_
 refine R.pkFE rfl rfl cA ?_
 refine R.mvE rfl cA ?_
 refine TL.off rfl rfl rfl ?_
 refine TL.off rfl rfl rfl ?_
 refine TL.off rfl rfl rfl ?_
 refine R.pkFE rfl rfl cA ?_
 refine R.mvE rfl cA ?_
 refine TL.off rfl rfl rfl ?_
 refine TL.off rfl rfl rfl ?_
 refine TL.off rfl rfl rfl ?_
 refine TL.off rfl rfl rfl ?_
 refine R.pkFE rfl rfl cA ?_
 refine R.asE rfl cA ?_
 refine nN ?_
 refine T.has Has.nil ?_
 refine T.ret ?_
 have hM : k_ae a0 = false := by rw [k_ae, hTc1, LR.seq_go, if_f g19]
 exact fin1L (v := .bool false) [] rfl rfl (List.Sublist.refl _) ⟨rfl, by first | rw [hM] | rfl⟩
def k_b5 (a1 : Int) : List (Int × (List Int)) → ((List Int)) → (List Int)
  | [], sl1 => sl1
  | yl1 :: ysl1, sl1 => if a1 ∈ yl1.2 then (k_b5 a1 ysl1 ((sl1 ++ [yl1.1]))) else (k_b5 a1 ysl1 sl1)
def k_b9 (a0 : (List (Int × (List Int)))) (a1 : Int) : (List Int) :=
  LR.seq (k_b5 a1 a0 []) (fun ol1 => ol1)
set_option maxHeartbeats 3200000 in
theorem index_in_c (H : Heap) (a0 : (List (Int × (List Int)))) (va0_0 : Value) (ha0_0 : RdS listedE H va0_0 a0) (a1 : Int) (hl : (a0).length ≤ 1000) : Fc Tryz.prog (fnv 34) [.agg #[va0_0], .int .i64 a1] H [] (fun v' H' L' => ∃ u0_0 c0_0, v' = u0_0 ∧ L' = [c0_0] ∧ OwnS (intE .u64) 43 H' u0_0 (k_b9 a0 a1) c0_0) := by
 refine Fc.of_body (N := 26) Tryz.func34 rfl kA rfl rfl ?_
 intro w0
 obtain ⟨Aa0_0, ca0_0, rfl, hca0_0, hda0_0, ha0_0⟩ := ha0_0.shape
 refine sR ?_
 refine R.box rfl cA ?_
 intro b2
 refine R.asE rfl cA ?_
 refine TL.shut .hd ?_
 intro Hb2_1 sb2_1 qb2_1
 have hb2_1 : Hb2_1 b2 = some (.cells #[.slice Aa0_0 a0.length ca0_0] 24) := shut1 qb2_1
 refine nN ?_
 refine sR ?_
 refine R.asE rfl cA ?_
 refine nN ?_
 refine T.seq ?_
 refine sR ?_
 refine R.fldA Tryz.underlying24 rfl Tryz.sizeOf22 (by decide) rfl rfl ?_
 refine R.ldH Tryz.isAgg22 rfl rfl hb2_1 rfl ?_
 refine R.len Tryz.underlying22 rfl rfl ?_
 refine R.mvE rfl cA ?_
 refine nN ?_
 refine T.block ?_
 refine T.loop (ι := Nat × Value × (List Int) × Chunk) (fun ⟨kl1, v5l1, x5l1, c5l1⟩ H' L' ds' => kl1 ≤ a0.length ∧ Has L' [c5l1] ∧ OwnS (intE .u64) 43 H' v5l1 x5l1 c5l1 ∧ x5l1.length ≤ kl1 ∧ k_b5 a1 (a0.drop kl1) x5l1 = k_b5 a1 a0 []) (fun ⟨kl1, v5l1, x5l1, c5l1⟩ => [(11, .int .i64 (kl1 : Int)), (1, .int .i64 a1), (5, v5l1), (9, .slice Aa0_0 a0.length ca0_0), (10, .int .i64 (a0.length : Int))]) (fun ⟨kl1, v5l1, x5l1, c5l1⟩ => a0.length - kl1) (0, .slice none 0 0, [], []) ?_ ?_ ?_
 ·exact ⟨oA, (Has.none Has.nil), OwnS.nil, bA, (by rfl)⟩
 ·exact ⟨rfl, rfl, rfl, rfl, rfl, trivial⟩
 intro ⟨kl1, v5l1, x5l1, c5l1⟩ σ_l1 H_l1 L_l1 ds_l1 s_l1 hI_l1
 obtain ⟨hkl1, hI_l1⟩ := hI_l1
 obtain ⟨hLl1, w5l1, hBl1_0, hQl1⟩ := hI_l1
 obtain ⟨A5l1, p5l1, rfl, m5l1, n5l1_⟩ := OwnS.shape w5l1
 refine T.has hLl1 ?_
 refine sR ?_
 refine R.lss rfl rfl rfl ?_
 refine nN ?_
 refine T.seq ?_
 refine T.condD rfl (fun c12 => ?_) (fun c12 => ?_)
 ·have hltl1 : kl1 < a0.length := by omega
  obtain ⟨yl1, hyl1⟩ := getk (xs := a0) (k := kl1) oA
  refine T.skip (Post.thnN ?_)
  refine T.seq ?_
  refine T.block ?_
  refine sR ?_
  obtain ⟨b13, o13, i13, k13⟩ := RdS.elem (ha0_0.mono (sb2_1.trans s_l1)) hyl1
  obtain ⟨l13, g13, k13⟩ := k13
  obtain ⟨z13_1, rfl, r13_1⟩ := g13
  obtain ⟨A13_1, p13_1, rfl, m13_1, n13_1, r13_1⟩ := r13_1.shape
  refine R.ixp Tryz.underlying22 Tryz.sizeOf45 rfl rfl rfl oA i13 ?_
  refine R.ldK (l := [.int .u64 (yl1.1), .slice A13_1 yl1.2.length p13_1]) Tryz.isAgg45 Tryz.sizeOf45 rfl rfl k13 rfl ?_
  refine R.alloc Tryz.zeroValue45 rfl ?_
  intro b7
  refine R.stX (old := [.int .u64 0, .slice none 0 0]) (l := [.int .u64 (yl1.1), .slice A13_1 yl1.2.length p13_1]) (new := [.int .u64 (yl1.1), .slice A13_1 yl1.2.length p13_1]) (et := 45) Tryz.sizeOf45 rfl rfl rfl rfl rfl (by show 0 + 2 ≤ 2; decide) rfl (k_20 rfl) .hd ?_
  refine TL.shut .hd ?_
  intro Hb7_2 sb7_2 qb7_2
  have hb7_2 : Hb7_2 b7 = some (.cells #[.int .u64 (yl1.1), .slice A13_1 yl1.2.length p13_1] 45) := shut1 qb7_2
  refine nN ?_
  refine sR ?_
  refine R.fldA Tryz.underlying45 rfl Tryz.sizeOf25 (by decide) rfl rfl ?_
  refine R.ldH Tryz.isAgg25 rfl rfl hb7_2 rfl ?_
  refine R.mvE rfl cA ?_
  refine R.callv rfl rfl rfl (slices_Contains_int_d _ _ yl1.2 (r13_1.mono sb7_2) a1) ?_
  refine nN ?_
  refine T.condD rfl (fun c18 => ?_) (fun c18 => ?_)
  ·refine T.set 18 (.bool true) (congrArg Value.bool (decide_eq_true c18)) ?_
   refine T.region ?_
   refine R.mvE rfl cA ?_
   refine R.fldA Tryz.underlying45 rfl Tryz.sizeOf43 (by decide) rfl rfl ?_
   refine R.ldH Tryz.isAgg43 rfl rfl hb7_2 rfl ?_
   refine R.bs rfl (k_3f Tryz.underlying30 Tryz.sizeOf43 Tryz.zeroValue43 rfl rfl) ?_
   intro b22
   have w22 : OwnS (intE .u64) 43 Hb7_2 (.slice (some ⟨b22, 0, none⟩) 1 1) [yl1.1] [(b22, .cells #[.int .u64 (yl1.1)] 43)] := OwnS.lit (xs := [yl1.1]) (k_2a (a := [.int .u64 (yl1.1)]) rfl k_4d) (by show 1 ≤ maxLen; decide)
   obtain ⟨k23, y23, r23⟩ := Src.ownA w22
   refine R.app (E := (intE .u64)) (e := 43) (xs := x5l1) (ys := [yl1.1]) k_b3 rfl rfl rfl (OwnS.mono w5l1 sb7_2) (.tl .hd) (r23 _ .hd) y23 (by (try simp only [List.length_append, List.length_cons, List.length_nil, List.length_replicate, List.length_take, List.length_drop]); omega) (by (try simp only [List.length_append, List.length_cons, List.length_nil, List.length_replicate, List.length_take, List.length_drop]); omega) ?_
   intro v23 c23 w23
   obtain ⟨A23, p23, rfl, m23, n23⟩ := OwnS.shape w23
   refine TL.del (.tl .hd) ?_
   refine R.asE rfl cA ?_
   refine TL.nil (Post.blkN ?_)
   refine id (Post.thnN ?_)
   refine T.region ?_
   refine R.addI rfl rfl rfl oA ?_
   refine R.mvE rfl cA ?_
   refine nN ?_
   exact ⟨(kl1 + 1, .slice A23 (x5l1 ++ [yl1.1]).length p23, (x5l1 ++ [yl1.1]), c23), (s_l1.trans sb7_2), ⟨oA, (Has.cons .hd Has.nil), w23, bA, (by rw [← hQl1, k_16 hyl1, k_b5]; rw [if_pos c18])⟩, by show a0.length - (kl1 + 1) < a0.length - kl1; omega, rfl, rfl, rfl, rfl, rfl, trivial⟩
  refine T.set 18 (.bool false) (congrArg Value.bool (decide_eq_false c18)) ?_
  refine T.skip (Post.blkN ?_)
  refine id (Post.thnN ?_)
  refine T.region ?_
  refine R.addI rfl rfl rfl oA ?_
  refine R.mvE rfl cA ?_
  refine nN ?_
  exact ⟨(kl1 + 1, .slice A5l1 x5l1.length p5l1, x5l1, c5l1), (s_l1.trans sb7_2), ⟨oA, (Has.cons .hd Has.nil), (OwnS.mono w5l1 sb7_2), bA, (by rw [← hQl1, k_16 hyl1, k_b5]; rw [if_neg c18])⟩, by show a0.length - (kl1 + 1) < a0.length - kl1; omega, rfl, rfl, rfl, rfl, rfl, trivial⟩
 refine T.exit (Post.thnE (Post.thnE (Post.blkX ?_)))
 have hEl1 : k_b5 a1 a0 [] = x5l1 := (hQl1.symm.trans (by rw [show kl1 = a0.length by omega, List.drop_length, k_b5]))
 refine id (Post.thnN ?_)
 refine sR ?_
 refine R.mvE rfl cA ?_
 refine R.asE rfl cA ?_
 refine nN ?_
 refine T.has (Has.cons .hd Has.nil) ?_
 refine T.ret ?_
 have hM : k_b9 a0 a1 = x5l1 := by rw [k_b9, hEl1, LR.seq_go]
 exact fin1L (v := .slice A5l1 x5l1.length p5l1) [c5l1] rfl rfl (List.Sublist.refl _) ⟨.slice A5l1 x5l1.length p5l1, c5l1, by first | rw [hM] | rfl, rfl, by rw [hM]; exact w5l1⟩
theorem in_l1 (n : Int) : ∀ (l : List (Int × List Int)) (a : List Int), k_b5 n l a = a ++ (l.filter (fun r => decide (n ∈ r.2))).map (fun r => r.1)
  | [], a => by simp [k_b5]
  | y :: ys, a => by
    rw [k_b5, List.filter_cons]
    by_cases h : n ∈ y.2
    · rw [if_pos h, in_l1 n ys, if_pos (by simpa using h)]; simp
    · rw [if_neg h, in_l1 n ys, if_neg (by simpa using h)]
theorem in_m (a : List (Int × List Int)) (n : Int) : k_b9 a n = (a.filter (fun r => decide (n ∈ r.2))).map (fun r => r.1) := by
  unfold k_b9; rw [LR.seq_go, in_l1, List.nil_append]
theorem in_len (a : List (Int × List Int)) (n : Int) (r : List Int) (e : r = k_b9 a n) : r.length ≤ a.length := by
  rw [e, in_m, List.length_map]; exact List.length_filter_le _ _
def k_c2 (a0 : Int) : Bool :=
  (decide (((kindG a0) : Int) = 4))
set_option maxHeartbeats 3200000 in
theorem index_bare_1_c (H : Heap) (a0 : Int) : Fv Tryz.prog (fnv 81) [.int .u64 a0] H (.bool (k_c2 a0)) := by
 refine Fc.of_body (N := 6) Tryz.func81 rfl kA rfl rfl ?_
 intro w0
 refine sR ?_
 refine R.asE rfl cA ?_
 refine nN ?_
 refine sR ?_
 refine R.mvE rfl cA ?_
 refine R.callv rfl rfl rfl (kindG_c _ a0) ?_
 refine R.eql rfl rfl rfl ?_
 refine R.asE rfl cA ?_
 refine nN ?_
 refine T.has Has.nil ?_
 refine T.ret ?_
 have hM : k_c2 a0 = (decide (((kindG a0) : Int) = 4)) := by rw [k_c2]
 exact fin1L (v := .bool (decide (((kindG a0) : Int) = 4))) [] rfl rfl (List.Sublist.refl _) ⟨rfl, by first | rw [hM] | rfl⟩
def k_bd (a0 : List Int) : (List Int) :=
  LR.seq (k_69 a0 ((fun z0 => k_c2 z0))) (fun r5 => r5)
set_option maxHeartbeats 3200000 in
theorem index_bare_c (H : Heap) (va0 : Value) (a0 : List Int) (ha0 : RdS (intE .u64) H va0 a0) (hl : a0.length ≤ 2000000) : Fc Tryz.prog (fnv 55) [va0] H [] (fun v' H' L' => ∃ u0_0 c0_0, v' = u0_0 ∧ L' = [c0_0] ∧ OwnS (intE .u64) 43 H' u0_0 (k_bd a0) c0_0) := by
 refine Fc.of_body (N := 6) Tryz.func55 rfl kA rfl rfl ?_
 intro w0
 obtain ⟨Aa0, ca0, rfl, hca0, hda0, ha0⟩ := ha0.shape
 refine sR ?_
 refine R.asE rfl cA ?_
 refine nN ?_
 refine sR ?_
 refine R.mvE rfl cA ?_
 refine TL.call [] rfl rfl rfl (clone30_c _ _ a0 ha0 bA) ?_
 intro v4 H4 L4 s4 q4
 obtain ⟨c4, rfl, w4⟩ := q4
 obtain ⟨x4, e4⟩ : ∃ x, x = a0 := ⟨_, rfl⟩
 rw [← e4] at w4
 obtain ⟨A4, p4, rfl, m4, n4⟩ := OwnS.shape w4
 have t4 : x4.length = a0.length := by rw [e4]
 refine TL.has (Has.cons .hd Has.nil) ?_
 obtain ⟨r5, er5⟩ : ∃ r, r = (k_69 x4 ((fun z0 => k_c2 z0))) := ⟨_, rfl⟩
 refine TL.call [true] rfl rfl rfl (slices_DeleteFunc_Id_c _ _ x4 _ w4 _ (fun z0 => k_c2 z0) (fun H2 h2 z0 => index_bare_1_c H2 z0) rfl bA) ?_
 intro v5 H5 L5 s5 q5
 rw [← er5] at q5
 obtain ⟨u5_0_0, c5_0_0, rfl, rfl, w5_0_0⟩ := q5
 obtain ⟨A5_0_0, p5_0_0, rfl, m5_0_0, n5_0_0⟩ := OwnS.shape w5_0_0
 have td5 := delf_Id_len _ _ _ er5
 refine R.asE rfl cA ?_
 refine nN ?_
 refine T.has (Has.cons .hd Has.nil) ?_
 refine T.ret ?_
 have hM : k_bd a0 = r5 := by subst er5; subst e4; rw [k_bd, LR.seq_go]
 exact fin1L (v := .slice A5_0_0 r5.length p5_0_0) [c5_0_0] rfl rfl (List.Sublist.refl _) ⟨.slice A5_0_0 r5.length p5_0_0, c5_0_0, by first | rw [hM] | rfl, rfl, by rw [hM]; exact w5_0_0⟩
def k_c7 (a1 : List (Int × (List Int))) (a2 : (Int × (List Int)) → (Int × (List Int)) → Bool) : List (Int × (List Int)) → Nat → Unit → LR (Bool) (Unit)
  | [], kl1, sl1 => .go ()
  | yl1 :: ysl1, kl1, sl1 => if (!(a2 yl1 (a1.getD kl1 (((0, []) : Int × (List Int)) : Int × (List Int))))) = true then (.ret false) else (k_c7 a1 a2 ysl1 (kl1 + 1) ())
def slices_EqualFunc_Listed_m (a0 : List (Int × (List Int))) (a1 : List (Int × (List Int))) (a2 : (Int × (List Int)) → (Int × (List Int)) → Bool) : Bool :=
  if (a0.length : Int) ≠ (a1.length : Int) then false else (LR.on (k_c7 a1 a2 a0 0 ()) (fun r => r) (fun ol1 => true))
def index_Same_1_m (a0 : Int × (List Int)) (a1 : Int × (List Int)) : Bool :=
  if a0.1 = a1.1 then ((decide (a0.2 = a1.2))) else false
def index_Same_m (a0 : (List (Int × (List Int)))) (a1 : (List (Int × (List Int)))) : Bool :=
  LR.seq (slices_EqualFunc_Listed_m a0 a1 ((fun z0 z1 => index_Same_1_m z0 z1))) (fun r9 => r9)
def k_66 (a0 : List (Int × (List Int))) (a1 : (Int × (List Int)) → (Int × (List Int)) → Int) : Nat → Int → LR (Bool) (Int)
  | 0, _ => .go default
  | ml1 + 1, sl1 => if sl1 < (a0.length : Int) then (if (0 : Int) ≤ (a1 (a0.getD (((sl1 - 1)).toNat) (((0, []) : Int × (List Int)) : Int × (List Int))) (a0.getD sl1.toNat (((0, []) : Int × (List Int)) : Int × (List Int)))) then (.ret false) else (k_66 a0 a1 ml1 ((sl1 + 1)))) else (.go sl1)
def k_88 (a0 : List (Int × (List Int))) (a1 : (Int × (List Int)) → (Int × (List Int)) → Int) : Bool :=
  LR.on (k_66 a0 a1 (((a0.length : Int) - 1).toNat + 1) 1) (fun r => r) (fun ol1 => true)
set_option maxHeartbeats 3200000 in
theorem index_rises_Listed_c (H : Heap) (va0 : Value) (a0 : List (Int × (List Int))) (ha0 : RdS listedE H va0 a0) (fa1 : Value) (a1 : (Int × (List Int)) → (Int × (List Int)) → Int) (ha1 : ∀ H', HLe H H' → ∀ (z0 : Int × (List Int)) (vz0_1 : Value) (hz0_1 : RdS (intE .i64) H' vz0_1 z0.2) (z1 : Int × (List Int)) (vz1_1 : Value) (hz1_1 : RdS (intE .i64) H' vz1_1 z1.2), Fv Tryz.prog fa1 [.agg #[.int .u64 z0.1, vz0_1], .agg #[.int .u64 z1.1, vz1_1]] H' (.int .i64 (a1 z0 z1))) (na1 : fa1.oneCell' = true) (hl : a0.length ≤ 2000000) : Fv Tryz.prog (fnv 52) [va0, fa1] H (.bool (k_88 a0 a1)) := by
 refine Fc.of_body (N := 24) Tryz.func52 rfl kA rfl rfl ?_
 intro w0
 obtain ⟨Aa0, ca0, rfl, hca0, hda0, ha0⟩ := ha0.shape
 refine sR ?_
 refine R.asE rfl cA ?_
 refine nN ?_
 refine T.seq ?_
 refine sR ?_
 refine R.asE rfl cA ?_
 refine nN ?_
 refine T.block ?_
 refine T.loop (ι := Nat × Int) (fun ⟨kl1, n5l1⟩ H' L' ds' => ((a0.length : Int) - n5l1).toNat < kl1 ∧ Has L' [] ∧ 1 ≤ n5l1 ∧ k_66 a0 a1 kl1 n5l1 = k_66 a0 a1 (((a0.length : Int) - 1).toNat + 1) 1) (fun ⟨kl1, n5l1⟩ => [(0, .slice Aa0 a0.length ca0), (1, fa1), (5, .int .i64 n5l1)]) (fun ⟨kl1, n5l1⟩ => kl1) ((((a0.length : Int) - 1).toNat + 1), 1) ?_ ?_ ?_
 ·exact ⟨oA, Has.nil, bA, (by rfl)⟩
 ·exact ⟨rfl, rfl, rfl, trivial⟩
 intro ⟨kl1, n5l1⟩ σ_l1 H_l1 L_l1 ds_l1 s_l1 hI_l1
 obtain ⟨hkl1, hI_l1⟩ := hI_l1
 obtain ⟨ml1, rfl⟩ : ∃ m, kl1 = m + 1 := ⟨kl1 - 1, by omega⟩
 obtain ⟨hLl1, hBl1_0, hQl1⟩ := hI_l1
 refine T.has hLl1 ?_
 refine T.seq ?_
 refine sR ?_
 refine R.mvE rfl cA ?_
 refine R.mvE rfl cA ?_
 refine R.len Tryz.underlying22 rfl rfl ?_
 refine R.lss rfl rfl rfl ?_
 refine nN ?_
 refine T.condD rfl (fun c9 => ?_) (fun c9 => ?_)
 ·refine T.set 9 (.bool true) (congrArg Value.bool (decide_eq_true c9)) ?_
  refine T.skip (Post.thnN ?_)
  refine T.seq ?_
  refine T.block ?_
  refine T.seq ?_
  refine T.draw k_2b kA ?_
  refine vM 0 [1, 2, 3, 4, 5, 6, 7, 8, 9, 10, 11] rfl rfl cA ?_
  refine vM 1 [2, 3, 4, 5, 6, 7, 8, 9, 10, 11] rfl rfl cA ?_
  refine vM 2 [3, 4, 5, 6, 7, 8, 9, 10, 11] rfl rfl cA ?_
  refine vA 3 [4, 5, 6, 7, 8, 9, 10, 11] rfl (fun _ _ h_ => R.subI rfl rfl rfl oA (TL.nil h_)) ?_
  have hl16 : ((n5l1 - 1)).toNat < a0.length := bA
  obtain ⟨y16, e16, h16⟩ : ∃ y, y = (a0.getD (((n5l1 - 1)).toNat) (((0, []) : Int × (List Int)) : Int × (List Int))) ∧ a0[((n5l1 - 1)).toNat]? = some y := ⟨_, rfl, k_6 (by first | exact hl16 | simpa using hl16 | (simp only [List.length_set]; omega) | omega | (rw [(k_1 _).length_eq]; exact hl16))⟩
  obtain ⟨b16, o16, i16, k16⟩ := RdS.elem (ha0.mono s_l1) h16
  obtain ⟨l16, g16, k16⟩ := k16
  obtain ⟨z16_1, rfl, r16_1⟩ := g16
  obtain ⟨A16_1, p16_1, rfl, m16_1, n16_1, r16_1⟩ := r16_1.shape
  refine vA 4 [5, 6, 7, 8, 9, 10, 11] rfl (fun _ _ h_ => R.ixp Tryz.underlying22 Tryz.sizeOf45 rfl rfl rfl bA i16 (TL.nil h_)) ?_
  refine vA 5 [6, 7, 8, 9, 10, 11] rfl (fun _ _ h_ => R.ldK (l := [.int .u64 (y16.1), .slice A16_1 y16.2.length p16_1]) Tryz.isAgg45 Tryz.sizeOf45 rfl rfl k16 rfl (TL.nil h_)) ?_
  refine vM 6 [7, 8, 9, 10, 11] rfl rfl cA ?_
  refine vM 7 [8, 9, 10, 11] rfl rfl cA ?_
  have hl20 : n5l1.toNat < a0.length := bA
  obtain ⟨y20, e20, h20⟩ : ∃ y, y = (a0.getD n5l1.toNat (((0, []) : Int × (List Int)) : Int × (List Int))) ∧ a0[n5l1.toNat]? = some y := ⟨_, rfl, k_6 (by first | exact hl20 | simpa using hl20 | (simp only [List.length_set]; omega) | omega | (rw [(k_1 _).length_eq]; exact hl20))⟩
  obtain ⟨b20, o20, i20, k20⟩ := RdS.elem (ha0.mono s_l1) h20
  obtain ⟨l20, g20, k20⟩ := k20
  obtain ⟨z20_1, rfl, r20_1⟩ := g20
  obtain ⟨A20_1, p20_1, rfl, m20_1, n20_1, r20_1⟩ := r20_1.shape
  refine vA 8 [9, 10, 11] rfl (fun _ _ h_ => R.ixp Tryz.underlying22 Tryz.sizeOf45 rfl rfl rfl bA i20 (TL.nil h_)) ?_
  refine vA 9 [10, 11] rfl (fun _ _ h_ => R.ldK (l := [.int .u64 (y20.1), .slice A20_1 y20.2.length p20_1]) Tryz.isAgg45 Tryz.sizeOf45 rfl rfl k20 rfl (TL.nil h_)) ?_
  refine vA 10 [11] rfl (fun _ _ h_ => R.callv rfl rfl rfl (ha1 _ s_l1 y16 _ r16_1 y20 _ r20_1) (TL.nil h_)) ?_
  refine vA 11 [] rfl (fun _ _ h_ => R.geq rfl rfl rfl (TL.nil h_)) ?_
  refine Plan.done (Post.thnN ?_)
  refine T.condD rfl (fun c23 => ?_) (fun c23 => ?_)
  ·refine T.set 23 (.bool true) (congrArg Value.bool (decide_eq_true c23)) ?_
   refine sR ?_
   refine R.asE rfl cA ?_
   refine nN ?_
   refine T.has Has.nil ?_
   refine T.ret (Post.blkR (Post.thnR (Post.thnR (Post.blkR (Post.thnR ?_)))))
   have hXl1 : k_66 a0 a1 (((a0.length : Int) - 1).toNat + 1) 1 = .ret false := by subst e20; subst e16; rw [← hQl1, k_66]; rw [if_pos c9, if_pos c23]
   have hM : k_88 a0 a1 = false := by rw [k_88, hXl1, LR.on_ret]
   exact fin1L (v := .bool false) [] rfl rfl (List.Sublist.refl _) ⟨rfl, by first | rw [hM] | rfl⟩
  refine T.set 23 (.bool false) (congrArg Value.bool (decide_eq_false c23)) ?_
  refine T.skip (Post.blkN ?_)
  refine id (Post.thnN ?_)
  refine T.region ?_
  refine R.mvE rfl cA ?_
  refine R.addI rfl rfl rfl oA ?_
  refine R.asE rfl cA ?_
  refine nN ?_
  exact ⟨(ml1, (n5l1 + 1)), s_l1, ⟨(by first | omega | (simp; omega) | (simp at *; omega)), Has.nil, bA, (by subst e20; subst e16; rw [← hQl1, k_66]; rw [if_pos c9, if_neg c23])⟩, by show ml1 < ml1 + 1; omega, rfl, rfl, rfl, trivial⟩
 refine T.set 9 (.bool false) (congrArg Value.bool (decide_eq_false c9)) ?_
 refine T.exit (Post.thnE (Post.thnE (Post.blkX ?_)))
 have hEl1 : k_66 a0 a1 (((a0.length : Int) - 1).toNat + 1) 1 = .go n5l1 := (by rw [← hQl1, k_66]; rw [if_neg c9])
 refine id (Post.thnN ?_)
 refine sR ?_
 refine R.asE rfl cA ?_
 refine nN ?_
 refine T.has Has.nil ?_
 refine T.ret ?_
 have hM : k_88 a0 a1 = true := by rw [k_88, hEl1, LR.on_go]
 exact fin1L (v := .bool true) [] rfl rfl (List.Sublist.refl _) ⟨rfl, by first | rw [hM] | rfl⟩
def k_11 (a0 : List (Int × (List Int))) (a1 : Int × (List Int)) (a2 : (Int × (List Int)) → (Int × (List Int)) → Int) : Nat → (Int × Int) → Int × Int
  | 0, _ => default
  | ml1 + 1, sl1 => if sl1.1 < sl1.2 then (if ((a2 (a0.getD (((IntKind.i64.wrap (bshr .u64 (IntKind.u64.wrap (sl1.1 + sl1.2)) 1))).toNat) (((0, []) : Int × (List Int)) : Int × (List Int))) a1) : Int) < 0 then (k_11 a0 a1 a2 ml1 ((((IntKind.i64.wrap (bshr .u64 (IntKind.u64.wrap (sl1.1 + sl1.2)) 1)) + 1), sl1.2))) else (k_11 a0 a1 a2 ml1 ((sl1.1, (IntKind.i64.wrap (bshr .u64 (IntKind.u64.wrap (sl1.1 + sl1.2)) 1)))))) else ((sl1.1, sl1.2))
def k_5 (a0 : List (Int × (List Int))) (a1 : Int × (List Int)) (a2 : (Int × (List Int)) → (Int × (List Int)) → Int) : Int × Bool :=
  LR.seq (k_11 a0 a1 a2 ((((a0.length : Int)) - 0).toNat + 1) ((0, (a0.length : Int)))) (fun ol1 => if ol1.1 < (a0.length : Int) then ((ol1.1, (decide (((a2 (a0.getD ol1.1.toNat (((0, []) : Int × (List Int)) : Int × (List Int))) a1) : Int) = 0)))) else ((ol1.1, false)))
set_option maxHeartbeats 3200000 in
theorem k_b7 (H : Heap) (va0 : Value) (a0 : List (Int × (List Int))) (ha0 : RdS listedE H va0 a0) (a1 : Int × (List Int)) (va1_1 : Value) (ha1_1 : RdS (intE .i64) H va1_1 a1.2) (fa2 : Value) (a2 : (Int × (List Int)) → (Int × (List Int)) → Int) (ha2 : ∀ H', HLe H H' → ∀ (z0 : Int × (List Int)) (vz0_1 : Value) (hz0_1 : RdS (intE .i64) H' vz0_1 z0.2) (z1 : Int × (List Int)) (vz1_1 : Value) (hz1_1 : RdS (intE .i64) H' vz1_1 z1.2), Fv Tryz.prog fa2 [.agg #[.int .u64 z0.1, vz0_1], .agg #[.int .u64 z1.1, vz1_1]] H' (.int .i64 (a2 z0 z1))) (na2 : fa2.oneCell' = true) (hl : a0.length ≤ 2000000) : Fv Tryz.prog (fnv 63) [va0, .agg #[.int .u64 a1.1, va1_1], fa2] H (.tuple #[.int .i64 (k_5 a0 a1 a2).1, .bool (k_5 a0 a1 a2).2]) := by
 refine Fc.of_body (N := 49) Tryz.func63 rfl kA rfl rfl ?_
 intro w0
 obtain ⟨Aa0, ca0, rfl, hca0, hda0, ha0⟩ := ha0.shape
 obtain ⟨Aa1_1, ca1_1, rfl, hca1_1, hda1_1, ha1_1⟩ := ha1_1.shape
 refine sR ?_
 refine R.box rfl cA ?_
 intro b4
 refine R.asE rfl cA ?_
 refine R.asE rfl cA ?_
 refine TL.shut .hd ?_
 intro Hb4_1 sb4_1 qb4_1
 have hb4_1 : Hb4_1 b4 = some (.cells #[.int .u64 (a1.1), .slice Aa1_1 a1.2.length ca1_1] 45) := shut1 qb4_1
 refine nN ?_
 refine sR ?_
 refine R.mvE rfl cA ?_
 refine R.len Tryz.underlying22 rfl rfl ?_
 refine R.asE rfl cA ?_
 refine nN ?_
 refine sR ?_
 refine R.mvE rfl cA ?_
 refine R.asE rfl cA ?_
 refine R.asE rfl cA ?_
 refine nN ?_
 refine T.seq ?_
 refine T.block ?_
 refine T.loop (ι := Nat × Int × Int) (fun ⟨kl1, n9l1, n10l1⟩ H' L' ds' => (n10l1 - n9l1).toNat < kl1 ∧ Has L' [] ∧ 0 ≤ n9l1 ∧ n9l1 ≤ n10l1 ∧ n10l1 ≤ (a0.length : Int) ∧ k_11 a0 a1 a2 kl1 ((n9l1, n10l1)) = k_11 a0 a1 a2 ((((a0.length : Int)) - 0).toNat + 1) ((0, (a0.length : Int)))) (fun ⟨kl1, n9l1, n10l1⟩ => [(0, .slice Aa0 a0.length ca0), (2, fa2), (4, .pointer (some ⟨b4, 0, none⟩)), (8, .int .i64 (a0.length : Int)), (9, .int .i64 n9l1), (10, .int .i64 n10l1)]) (fun ⟨kl1, n9l1, n10l1⟩ => kl1) (((((a0.length : Int)) - 0).toNat + 1), 0, (a0.length : Int)) ?_ ?_ ?_
 ·exact ⟨oA, Has.nil, bA, bA, bA, (by rfl)⟩
 ·exact ⟨rfl, rfl, rfl, rfl, rfl, rfl, trivial⟩
 intro ⟨kl1, n9l1, n10l1⟩ σ_l1 H_l1 L_l1 ds_l1 s_l1 hI_l1
 obtain ⟨hkl1, hI_l1⟩ := hI_l1
 obtain ⟨ml1, rfl⟩ : ∃ m, kl1 = m + 1 := ⟨kl1 - 1, by omega⟩
 obtain ⟨hLl1, hBl1_0, hBl1_1, hBl1_2, hQl1⟩ := hI_l1
 refine T.has hLl1 ?_
 refine T.seq ?_
 refine sR ?_
 refine R.mvE rfl cA ?_
 refine R.mvE rfl cA ?_
 refine R.lss rfl rfl rfl ?_
 refine nN ?_
 refine T.condD rfl (fun c17 => ?_) (fun c17 => ?_)
 ·refine T.set 17 (.bool true) (congrArg Value.bool (decide_eq_true c17)) ?_
  refine T.skip (Post.thnN ?_)
  refine T.block ?_
  refine sR ?_
  refine R.mvE rfl cA ?_
  refine R.mvE rfl cA ?_
  refine R.addI rfl rfl rfl oA ?_
  refine R.conv Tryz.underlying3 Tryz.underlying86 rfl rfl ?_
  refine R.shr rfl rfl rfl oA ?_
  refine R.conv Tryz.underlying86 Tryz.underlying3 rfl rfl ?_
  refine R.asE rfl cA ?_
  refine nN ?_
  refine T.seq ?_
  have hmid := midI (i := n9l1) (j := n10l1) oA oA oA
  refine T.draw k_2b kA ?_
  refine vM 0 [1, 2, 3, 4, 5, 6, 7] rfl rfl cA ?_
  refine vM 1 [2, 3, 4, 5, 6, 7] rfl rfl cA ?_
  refine vM 2 [3, 4, 5, 6, 7] rfl rfl cA ?_
  have hl27 : ((IntKind.i64.wrap (bshr .u64 (IntKind.u64.wrap (n9l1 + n10l1)) 1))).toNat < a0.length := bA
  obtain ⟨y27, e27, h27⟩ : ∃ y, y = (a0.getD (((IntKind.i64.wrap (bshr .u64 (IntKind.u64.wrap (n9l1 + n10l1)) 1))).toNat) (((0, []) : Int × (List Int)) : Int × (List Int))) ∧ a0[((IntKind.i64.wrap (bshr .u64 (IntKind.u64.wrap (n9l1 + n10l1)) 1))).toNat]? = some y := ⟨_, rfl, k_6 (by first | exact hl27 | simpa using hl27 | (simp only [List.length_set]; omega) | omega | (rw [(k_1 _).length_eq]; exact hl27))⟩
  obtain ⟨b27, o27, i27, k27⟩ := RdS.elem (ha0.mono (sb4_1.trans s_l1)) h27
  obtain ⟨l27, g27, k27⟩ := k27
  obtain ⟨z27_1, rfl, r27_1⟩ := g27
  obtain ⟨A27_1, p27_1, rfl, m27_1, n27_1, r27_1⟩ := r27_1.shape
  refine vA 3 [4, 5, 6, 7] rfl (fun _ _ h_ => R.ixp Tryz.underlying22 Tryz.sizeOf45 rfl rfl rfl bA i27 (TL.nil h_)) ?_
  refine vA 4 [5, 6, 7] rfl (fun _ _ h_ => R.ldK (l := [.int .u64 (y27.1), .slice A27_1 y27.2.length p27_1]) Tryz.isAgg45 Tryz.sizeOf45 rfl rfl k27 rfl (TL.nil h_)) ?_
  refine vA 5 [6, 7] rfl (fun _ _ h_ => R.ldXH (cs := [.int .u64 (a1.1), .slice Aa1_1 a1.2.length ca1_1]) (l := [.int .u64 (a1.1), .slice Aa1_1 a1.2.length ca1_1]) Tryz.isAgg45 Tryz.sizeOf45 rfl rfl (s_l1 _ _ hb4_1) rfl rfl (TL.nil h_)) ?_
  refine vA 6 [7] rfl (fun _ _ h_ => R.callv rfl rfl rfl (ha2 _ (sb4_1.trans s_l1) y27 _ r27_1 a1 _ (ha1_1.mono (sb4_1.trans s_l1))) (TL.nil h_)) ?_
  refine vA 7 [] rfl (fun _ _ h_ => R.lss rfl rfl rfl (TL.nil h_)) ?_
  refine Plan.done (Post.thnN ?_)
  refine T.condD rfl (fun c31 => ?_) (fun c31 => ?_)
  ·refine T.set 31 (.bool true) (congrArg Value.bool (decide_eq_true c31)) ?_
   refine T.region ?_
   refine R.mvE rfl cA ?_
   refine R.addI rfl rfl rfl oA ?_
   refine R.asE rfl cA ?_
   refine TL.nil (Post.blkN ?_)
   refine id (Post.thnN ?_)
   exact ⟨(ml1, ((IntKind.i64.wrap (bshr .u64 (IntKind.u64.wrap (n9l1 + n10l1)) 1)) + 1), n10l1), s_l1, ⟨(by first | omega | (simp; omega) | (simp at *; omega)), Has.nil, bA, bA, bA, (by subst e27; rw [← hQl1, k_11]; rw [if_pos c17, if_pos c31])⟩, by show ml1 < ml1 + 1; omega, rfl, rfl, rfl, rfl, rfl, rfl, trivial⟩
  refine T.set 31 (.bool false) (congrArg Value.bool (decide_eq_false c31)) ?_
  refine T.region ?_
  refine R.mvE rfl cA ?_
  refine R.asE rfl cA ?_
  refine TL.nil (Post.blkN ?_)
  refine id (Post.thnN ?_)
  exact ⟨(ml1, n9l1, (IntKind.i64.wrap (bshr .u64 (IntKind.u64.wrap (n9l1 + n10l1)) 1))), s_l1, ⟨(by first | omega | (simp; omega) | (simp at *; omega)), Has.nil, bA, bA, bA, (by subst e27; rw [← hQl1, k_11]; rw [if_pos c17, if_neg c31])⟩, by show ml1 < ml1 + 1; omega, rfl, rfl, rfl, rfl, rfl, rfl, trivial⟩
 refine T.set 17 (.bool false) (congrArg Value.bool (decide_eq_false c17)) ?_
 refine T.exit (Post.thnE (Post.thnE (Post.blkX ?_)))
 have hEl1 : k_11 a0 a1 a2 ((((a0.length : Int)) - 0).toNat + 1) ((0, (a0.length : Int))) = (n9l1, n10l1) := (by rw [← hQl1, k_11]; rw [if_neg c17])
 refine id (Post.thnN ?_)
 refine T.seq ?_
 refine T.draw k_2b kA ?_
 refine vM 0 [1, 2, 3, 4, 5, 6, 7, 8, 9, 10, 11, 12, 13, 14, 15] rfl rfl cA ?_
 refine vM 1 [2, 3, 4, 5, 6, 7, 8, 9, 10, 11, 12, 13, 14, 15] rfl rfl cA ?_
 refine vM 2 [3, 4, 5, 6, 7, 8, 9, 10, 11, 12, 13, 14, 15] rfl rfl cA ?_
 refine vA 3 [4, 5, 6, 7, 8, 9, 10, 11, 12, 13, 14, 15] rfl (fun _ _ h_ => R.lss rfl rfl rfl (TL.nil h_)) ?_
 refine vM 4 [5, 6, 7, 8, 9, 10, 11, 12, 13, 14, 15] rfl rfl cA ?_
 refine Plan.gsplitD 39 rfl (fun g39 => ?_) (fun g39 => ?_)
 ·refine vM 5 [6, 7, 8, 9, 10, 11, 12, 13, 14, 15] rfl rfl cA ?_
  refine vM 6 [7, 8, 9, 10, 11, 12, 13, 14, 15] rfl rfl cA ?_
  refine vM 7 [8, 9, 10, 11, 12, 13, 14, 15] rfl rfl cA ?_
  have hl43 : n9l1.toNat < a0.length := bA
  obtain ⟨y43, e43, h43⟩ : ∃ y, y = (a0.getD n9l1.toNat (((0, []) : Int × (List Int)) : Int × (List Int))) ∧ a0[n9l1.toNat]? = some y := ⟨_, rfl, k_6 (by first | exact hl43 | simpa using hl43 | (simp only [List.length_set]; omega) | omega | (rw [(k_1 _).length_eq]; exact hl43))⟩
  obtain ⟨b43, o43, i43, k43⟩ := RdS.elem (ha0.mono (sb4_1.trans s_l1)) h43
  obtain ⟨l43, g43, k43⟩ := k43
  obtain ⟨z43_1, rfl, r43_1⟩ := g43
  obtain ⟨A43_1, p43_1, rfl, m43_1, n43_1, r43_1⟩ := r43_1.shape
  refine vA 8 [9, 10, 11, 12, 13, 14, 15] rfl (fun _ _ h_ => R.ixp Tryz.underlying22 Tryz.sizeOf45 rfl rfl rfl bA i43 (TL.nil h_)) ?_
  refine vA 9 [10, 11, 12, 13, 14, 15] rfl (fun _ _ h_ => R.ldK (l := [.int .u64 (y43.1), .slice A43_1 y43.2.length p43_1]) Tryz.isAgg45 Tryz.sizeOf45 rfl rfl k43 rfl (TL.nil h_)) ?_
  refine vA 10 [11, 12, 13, 14, 15] rfl (fun _ _ h_ => R.ldXH (cs := [.int .u64 (a1.1), .slice Aa1_1 a1.2.length ca1_1]) (l := [.int .u64 (a1.1), .slice Aa1_1 a1.2.length ca1_1]) Tryz.isAgg45 Tryz.sizeOf45 rfl rfl (s_l1 _ _ hb4_1) rfl rfl (TL.nil h_)) ?_
  refine vA 11 [12, 13, 14, 15] rfl (fun _ _ h_ => R.callv rfl rfl rfl (ha2 _ (sb4_1.trans s_l1) y43 _ r43_1 a1 _ (ha1_1.mono (sb4_1.trans s_l1))) (TL.nil h_)) ?_
  refine vA 12 [13, 14, 15] rfl (fun _ _ h_ => R.eql rfl rfl rfl (TL.nil h_)) ?_
  refine vA 13 [14, 15] rfl (fun _ _ h_ => R.pkTE rfl rfl cA (TL.nil h_)) ?_
  refine vA 14 [15] rfl (fun _ _ h_ => R.asE rfl cA (TL.nil h_)) ?_
  refine vA 15 [] rfl (fun _ _ h_ => R.asE rfl cA (TL.nil h_)) ?_
  refine Plan.done (Post.thnN ?_)
  refine T.has Has.nil ?_
  refine T.ret ?_
  have hM : k_5 a0 a1 a2 = (n9l1, (decide (((a2 y43 a1) : Int) = 0))) := by subst e43; rw [k_5, hEl1, LR.seq_go, if_pos g39]
  exact fin2L (v := .int .i64 n9l1) (v' := .bool (decide (((a2 y43 a1) : Int) = 0))) [] rfl rfl rfl (List.Sublist.refl _) ⟨rfl, by first | rw [hM] | rfl⟩
 refine vO 5 [6, 7, 8, 9, 10, 11, 12, 13, 14, 15] rfl rfl rfl rfl ?_
 refine vO 6 [7, 8, 9, 10, 11, 12, 13, 14, 15] rfl rfl rfl rfl ?_
 refine vO 7 [8, 9, 10, 11, 12, 13, 14, 15] rfl rfl rfl rfl ?_
 refine vO 8 [9, 10, 11, 12, 13, 14, 15] rfl rfl rfl rfl ?_
 refine vO 9 [10, 11, 12, 13, 14, 15] rfl rfl rfl rfl ?_
 refine vO 10 [11, 12, 13, 14, 15] rfl rfl rfl rfl ?_
 refine vO 11 [12, 13, 14, 15] rfl rfl rfl rfl ?_
 refine vO 12 [13, 14, 15] rfl rfl rfl rfl ?_
 refine vA 13 [14, 15] rfl (fun _ _ h_ => R.pkFE rfl rfl cA (TL.nil h_)) ?_
 refine vA 14 [15] rfl (fun _ _ h_ => R.asE rfl cA (TL.nil h_)) ?_
 refine vA 15 [] rfl (fun _ _ h_ => R.asE rfl cA (TL.nil h_)) ?_
 refine Plan.done (Post.thnN ?_)
 refine T.has Has.nil ?_
 refine T.ret ?_
 have hM : k_5 a0 a1 a2 = (n9l1, false) := by rw [k_5, hEl1, LR.seq_go, if_neg g39]
 exact fin2L (v := .int .i64 n9l1) (v' := .bool false) [] rfl rfl rfl (List.Sublist.refl _) ⟨rfl, by first | rw [hM] | rfl⟩
end Go.SX

set_option linter.unusedVariables false
set_option linter.unusedSimpArgs false
namespace Go.SX
open Go
theorem mapEntry {ik : IntKind} {es : Array MapEntry} {m : MapL} (h : MapIs ik es m) {e : MapEntry} (he : e ∈ es.toList) : ∃ q ∈ m, e.key = .int ik q.1 ∧ e.val = q.2 := by
  have h1 : (e.key, e.val) ∈ es.toList.map (fun e => (e.key, e.val)) := List.mem_map_of_mem he
  rw [h, List.mem_map] at h1
  obtain ⟨q, hq, h2⟩ := h1
  exact ⟨q, hq, (congrArg Prod.fst h2).symm, (congrArg Prod.snd h2).symm⟩
theorem entryOf {ik : IntKind} {es : Array MapEntry} {m : MapL} (h : MapIs ik es m) {q : Int × Value} (hq : q ∈ m) : ∃ e ∈ es.toList, e.key = .int ik q.1 ∧ e.val = q.2 := by
  have h1 : (Value.int ik q.1, q.2) ∈ m.map (fun q => (Value.int ik q.1, q.2)) := List.mem_map_of_mem hq
  rw [← h, List.mem_map] at h1
  obtain ⟨e, he, h2⟩ := h1
  exact ⟨e, he, congrArg Prod.fst h2, congrArg Prod.snd h2⟩
theorem mgetMem : ∀ {m : MapL} {q : Int × Value}, (m.map Prod.fst).Nodup → q ∈ m → mget m q.1 = some q.2
  | [], _, _, h => by cases h
  | r :: m, q, hn, h => by
    rw [List.map_cons, List.nodup_cons] at hn
    rcases List.mem_cons.1 h with e | h1
    · subst e; exact mget_cons_eq rfl
    · have hne : r.1 ≠ q.1 := fun e => hn.1 (by rw [e]; exact List.mem_map_of_mem h1)
      rw [mget_cons_ne hne]; exact mgetMem hn.2 h1
theorem mset_len {f : Int → List Int} {B : Nat} (h : ∀ n, (f n).length ≤ B) (k x n : Int) : (mset f k (f k ++ [x]) n).length ≤ B + 1 := by
  unfold mset
  split
  · rw [List.length_append]; have := h k; simp; omega
  · have := h n; omega
/-- A map of rows that can be read, and gone through. -/
structure MrK {α : Type} (E : ER α) (ik : IntKind) (H : Heap) (b : Nat) (es : Array MapEntry) (ck : Nat) (m : MapL) (f : Int → List α) : Prop where
  hb : H b = some (.map es ck)
  hk : MapK ik es ck m
  rd : ∀ q ∈ m, RdS E H q.2 (f q.1)
  no : ∀ j, j ∉ m.map Prod.fst → f j = []
theorem MapO.readK {α : Type} {E : ER α} {e : TypeId} {ik : IntKind} {H H' : Heap} {b : Nat} {f : Int → List α} {C : Chunk} (h : MapO E e ik H b f C) (hl : HLe H H') (hq : ∀ q ∈ C, H' q.1 = some q.2) : ∃ es ck m, MrK E ik H' b es ck m f := by
  obtain ⟨es, ck, m, rows, rfl, h2, h3, h4, h5⟩ := h
  refine ⟨es, ck, m, hq _ (List.mem_cons_self ..), h2, fun q hm => ?_, h5⟩
  have := F2.read q.1 h3 hl (fun q hm => hq q (List.mem_cons_of_mem _ hm)) (h5 q.1)
  rw [mgetMem h4 hm] at this
  exact this
theorem MrK.mono {α : Type} {E : ER α} {ik : IntKind} {H H' : Heap} {b : Nat} {es : Array MapEntry} {ck : Nat} {m : MapL} {f : Int → List α} (h : MrK E ik H b es ck m f) (hl : HLe H H') : MrK E ik H' b es ck m f :=
  ⟨hl _ _ h.hb, h.hk, fun q hq => (h.rd q hq).mono hl, h.no⟩
/-- What a range has seen are stamps of the map's. -/
structure SeenB (es : Array MapEntry) (sn : Array Nat) : Prop where
  nd : sn.toList.Nodup
  sub : ∀ x ∈ sn.toList, x ∈ es.toList.map (fun e => e.born)
theorem SeenB.nil (es : Array MapEntry) : SeenB es #[] := ⟨by simp, fun x h => by simp at h⟩
theorem SeenB.push {es : Array MapEntry} {sn : Array Nat} (h : SeenB es sn) {e : MapEntry} (he : e ∈ es.toList) (hn : e.born ∉ sn) : SeenB es (sn.push e.born) := by
  refine ⟨?_, fun x hx => ?_⟩
  · rw [Array.toList_push, List.nodup_append]
    refine ⟨h.nd, by simp, fun a ha b hb e1 => ?_⟩
    rw [List.mem_singleton] at hb
    exact hn (by rw [← hb, ← e1]; simpa using ha)
  · rw [Array.toList_push, List.mem_append, List.mem_singleton] at hx
    rcases hx with hx | rfl
    · exact h.sub x hx
    · exact List.mem_map_of_mem he
theorem nodup_le : ∀ {l1 l2 : List Nat}, l1.Nodup → (∀ x ∈ l1, x ∈ l2) → l1.length ≤ l2.length
  | [], _, _, _ => Nat.zero_le _
  | x :: l1, l2, h1, h2 => by
    rw [List.nodup_cons] at h1
    have hx := h2 x (List.mem_cons_self ..)
    have := nodup_le (l1 := l1) (l2 := l2.erase x) h1.2 (fun y hy => (List.mem_erase_of_ne (fun e => h1.1 (by rw [← e]; exact hy))).2 (h2 y (List.mem_cons_of_mem _ hy)))
    rw [List.length_erase_of_mem hx] at this
    have hp := List.length_pos_of_mem hx
    rw [List.length_cons]; omega
theorem SeenB.less {es : Array MapEntry} {sn : Array Nat} (h : SeenB es sn) {e : MapEntry} (he : e ∈ es.toList) (hn : e.born ∉ sn) : es.size - (sn.push e.born).size < es.size - sn.size := by
  have := nodup_le (h.push he hn).nd (h.push he hn).sub
  rw [List.length_map, Array.length_toList, Array.length_toList, Array.size_push] at this
  rw [Array.size_push]; omega
/-- Two entries with one stamp are one. -/
theorem bornEq {es : Array MapEntry} {ck : Nat} (hb : BornOk es ck) {e e' : MapEntry} (he : e ∈ es.toList) (he' : e' ∈ es.toList) (h : e.born = e'.born) : e = e' := by
  obtain ⟨i, hi⟩ := List.mem_iff_getElem?.1 he
  obtain ⟨j, hj⟩ := List.mem_iff_getElem?.1 he'
  have hp := hb.1
  have hi' := (List.getElem?_eq_some_iff.1 hi)
  have hj' := (List.getElem?_eq_some_iff.1 hj)
  obtain ⟨hi1, hi2⟩ := hi'
  obtain ⟨hj1, hj2⟩ := hj'
  have key := List.pairwise_iff_getElem.1 hp
  rcases Nat.lt_trichotomy i j with hlt | heq | hgt
  · have := key i j (by simpa using hi1) (by simpa using hj1) hlt
    simp only [List.getElem_map] at this
    rw [hi2, hj2] at this; omega
  · subst heq; rw [hi] at hj; injection hj
  · have := key j i (by simpa using hj1) (by simpa using hi1) hgt
    simp only [List.getElem_map] at this
    rw [hi2, hj2] at this; omega
theorem seenStep {es : Array MapEntry} {ck : Nat} (hb : BornOk es ck) {ik : IntKind} {α : Type} {m : MapL} {f : Int → List α} {c : List α → Bool} {sn : Array Nat} {e : MapEntry} (he : e ∈ es.toList) {q1 : Int} (hk1 : e.key = .int ik q1) (hc : c (f q1) = false)
    (hg : ∀ e ∈ es.toList, e.born ∈ sn → ∀ q ∈ m, e.key = Value.int ik q.1 → c (f q.1) = false) : ∀ e' ∈ es.toList, e'.born ∈ sn.push e.born → ∀ q ∈ m, e'.key = Value.int ik q.1 → c (f q.1) = false := by
  intro e' he' hm q hq hk
  rcases Array.mem_push.1 hm with h | h
  · exact hg e' he' h q hq hk
  · have := bornEq hb he' he h
    subst this
    rw [hk1] at hk
    injection hk with _ hk2
    rw [← hk2]; exact hc
theorem anyF {α : Type} {E : ER α} {ik : IntKind} {H : Heap} {b : Nat} {es : Array MapEntry} {ck : Nat} {m : MapL} {f : Int → List α} (hk : MrK E ik H b es ck m f) {c : List α → Bool} (c0 : c [] = false) (KS : List Int)
    {sn : Array Nat} (hall : ∀ e ∈ es.toList, e.born ∈ sn) (hg : ∀ e ∈ es.toList, e.born ∈ sn → ∀ q ∈ m, e.key = Value.int ik q.1 → c (f q.1) = false) : KS.any (fun n => c (f n)) = false := by
  rw [List.any_eq_false]
  intro n _ h
  by_cases hn : n ∈ m.map Prod.fst
  · obtain ⟨q, hq, rfl⟩ := List.mem_map.1 hn
    obtain ⟨e, he, h1, _⟩ := entryOf hk.hk.1 hq
    rw [hg e he (hall e he) q hq h1] at h; cases h
  · rw [hk.no n hn, c0] at h; cases h
theorem anyT {α : Type} {E : ER α} {ik : IntKind} {H : Heap} {b : Nat} {es : Array MapEntry} {ck : Nat} {m : MapL} {f : Int → List α} (hk : MrK E ik H b es ck m f) {c : List α → Bool} (c0 : c [] = false) {KS : List Int} (hks : ∀ n, f n ≠ [] → n ∈ KS)
    {q : Int × Value} (h : c (f q.1) = true) : KS.any (fun n => c (f n)) = true :=
  List.any_eq_true.2 ⟨q.1, hks _ (fun e => by rw [e, c0] at h; cases h), h⟩
attribute [local semireducible] T TL
section
variable {fr : Fr} {x : Cx} {Q : Post} {σ : Env} {H : Heap} {L : Own} {ds : List Nat} {ol rest : List Oper}
variable {d : Nat} {ty : TypeId} {p : String} {af : Array Edge} {g : Option (Nat × Bool)}
theorem R.rngH {t kt et : TypeId} {M : Operand} {b clock : Nat} {es : Array MapEntry} (hm : fr.P.underlying t = some (.map kt et)) (hw : wan fr.N ol σ d g = true) (hM : ev σ M = .map (some b)) (hin : H b = some (.map es clock))
    (h : ∀ bi, TL fr x ol rest Q (upd σ d (.pointer (some ⟨bi, 0, none⟩))) H ([(bi, .mapIter (some b) clock #[] clock)] :: L) ds) :
    TL fr x ol (⟨some d, .range t M, ty, p, af, g⟩ :: rest) Q σ H L ds :=
  TL.value hw rfl (fun w hst => by
    have hb := hst.sat.h b _ hin
    have hr := run_range_map (P := fr.P) w t kt et b es clock hm hb
    exact ⟨_, w.alloc (.mapIter (some b) clock #[] clock), H, _, by simp [execOp, hM, hr], hst.new _, h w.heap.size⟩)
theorem R.nxtH {X : Operand} {b bi clock : Nat} {es : Array MapEntry} {seen : Array Nat} {R : Own} (hw : wan fr.N ol σ d g = true) (hX : ev σ X = .pointer (some ⟨bi, 0, none⟩)) (hdel : Del L [(bi, .mapIter (some b) clock seen clock)] R) (hin : H b = some (.map es clock)) (hbo : BornOk es clock)
    (h : ∀ v sn, ((v = .tuple #[.bool false] ∧ sn = seen ∧ ∀ e ∈ es.toList, e.born ∈ seen) ∨ (∃ e ∈ es.toList, e.born ∉ seen ∧ v = .tuple #[.bool true, e.key, e.val] ∧ sn = seen.push e.born)) → TL fr x ol rest Q (upd σ d v) H ([(bi, .mapIter (some b) clock sn clock)] :: R) ds) :
    TL fr x ol (⟨some d, .next X false, ty, p, af, g⟩ :: rest) Q σ H L ds :=
  TL.value hw rfl (fun w hst => by
    have hst1 : St x H ((bi, .mapIter (some b) clock seen clock) :: (R.flatten ++ hid fr.rd ds)) w := hst.perm (by
      have := hdel.perm.append_right (hid fr.rd ds)
      simpa using this)
    have hbi := hst1.sat.l (bi, .mapIter (some b) clock seen clock) (List.mem_cons_self ..)
    have hb := hst1.sat.h b _ hin
    simp only at hbi hb
    rcases run_next_at (P := fr.P) w ty bi b clock clock seen es clock hbi hb hbo.2 (Nat.le_refl _) with ⟨h0, hrun⟩ | ⟨e, he, w1, hw1, hrun⟩
    · refine ⟨_, w, H, [(bi, .mapIter (some b) clock seen clock)] :: R, by simp [execOp, hX, hrun], by simpa using hst1, h _ _ (.inl ⟨rfl, rfl, fun e he => ?_⟩)⟩
      have hl : leftOf es seen = #[] := Array.eq_empty_of_size_eq_zero h0
      unfold leftOf at hl
      rw [Array.filter_eq_empty_iff] at hl
      have := hl e (by simpa using he)
      simpa using this
    · have hmem : e ∈ es.toList ∧ e.born ∉ seen := by
        unfold leftOf at he
        simp at he
        exact ⟨by simpa using he.1, he.2⟩
      have hst2 : St x H ((bi, .mapIter (some b) clock seen clock) :: (R.flatten ++ hid fr.rd ds)) w1 := by
        rcases hw1 with rfl | rfl
        · exact hst1
        · exact hst1.drew
      have hbi1 := hst2.sat.l (bi, .mapIter (some b) clock seen clock) (List.mem_cons_self ..)
      simp only at hbi1
      have hst3 := hst2.turn (w' := ChangeMaps.setBlock w1 bi (.mapIter (some b) clock (seen.push e.born) clock)) (o' := .mapIter (some b) clock (seen.push e.born) clock) rfl rfl rfl (by simp [ChangeMaps.setBlock]) (by
          simp [ChangeMaps.setBlock, heap_lt hbi1]) (fun c hc => by
          simp only [ChangeMaps.setBlock]
          rw [Array.getElem?_setIfInBounds_ne (fun e => hc e.symm)])
      exact ⟨.tuple #[.bool true, e.key, e.val], ChangeMaps.setBlock w1 bi (.mapIter (some b) clock (seen.push e.born) clock), H, [(bi, .mapIter (some b) clock (seen.push e.born) clock)] :: R, by simp [execOp, hX, hrun], by simpa using hst3, h _ _ (.inr ⟨e, hmem.1, hmem.2, rfl, rfl⟩)⟩)
theorem R.entH {X : Operand} {b bi clock : Nat} {es : Array MapEntry} {seen : Array Nat} {e : MapEntry} (hw : wan fr.N ol σ d g = true) (hX : ev σ X = .pointer (some ⟨bi, 0, none⟩)) (hin : In L [(bi, .mapIter (some b) clock (seen.push e.born) clock)]) (hin2 : H b = some (.map es clock)) (hbo : BornOk es clock) (he : e ∈ es.toList)
    (h : TL fr x ol rest Q (upd σ d (.tuple #[e.key, e.val])) H L ds) : TL fr x ol (⟨some d, .entry X, ty, p, af, g⟩ :: rest) Q σ H L ds :=
  TL.value hw rfl (fun w hst => by
    have hbi := hst.sat.l (bi, .mapIter (some b) clock (seen.push e.born) clock) (List.mem_append_left _ (hin.mem (List.mem_singleton.2 rfl)))
    have hb := hst.sat.h b _ hin2
    have hr := run_entry_at (P := fr.P) w bi b clock seen es clock e hbi hb he (hbo.1.imp (fun h => by omega))
    exact ⟨_, w, H, L, by simp [execOp, hX, hr], hst, h⟩)
end
end Go.SX

set_option linter.unusedVariables false
set_option linter.unusedSimpArgs false
namespace Go.SX
open Go Go.Proofs

def k_47 (a0 : Int) (a1 : Int) : Int :=
  if (k_9c a0) = true then (if (k_9c a1) = true then 0 else (-1)) else (if (k_9c a1) = true then 1 else (if a0 < a1 then (-1) else (if a1 < a0 then 1 else 0)))
set_option maxHeartbeats 3200000 in
theorem cmp_Compare_Id_c (H : Heap) (a0 : Int) (a1 : Int) : Fv Tryz.prog (fnv 74) [.int .u64 a0, .int .u64 a1] H (.int .i64 (k_47 a0 a1)) := by
 refine Fc.of_body (N := 20) Tryz.func74 rfl kA rfl rfl ?_
 intro w0
 refine sR ?_
 refine R.asE rfl cA ?_
 refine nN ?_
 refine sR ?_
 refine R.mvE rfl cA ?_
 refine R.callv rfl rfl rfl (cmp_isNaN_Id_c _ (a0)) ?_
 refine R.asE rfl cA ?_
 refine nN ?_
 refine sR ?_
 refine R.mvE rfl cA ?_
 refine R.callv rfl rfl rfl (cmp_isNaN_Id_c _ (a1)) ?_
 refine R.asE rfl cA ?_
 refine nN ?_
 refine T.seq ?_
 refine sR ?_
 refine R.mvE rfl cA ?_
 refine nN ?_
 refine T.cond rfl (fun c11 => ?_) (fun c11 => ?_)
 ·refine T.set 11 (.bool true) (congrArg Value.bool c11) ?_
  refine T.seq ?_
  refine sR ?_
  refine R.mvE rfl cA ?_
  refine nN ?_
  refine T.cond rfl (fun c12 => ?_) (fun c12 => ?_)
  ·refine T.set 12 (.bool true) (congrArg Value.bool c12) ?_
   refine sR ?_
   refine R.asE rfl cA ?_
   refine nN ?_
   refine T.has Has.nil ?_
   refine T.ret (Post.thnR (Post.thnR ?_))
   have hM : k_47 a0 a1 = 0 := by rw [k_47, if_t c11, if_t c12]
   exact fin1L (v := .int .i64 0) [] rfl rfl (List.Sublist.refl _) ⟨rfl, by first | rw [hM] | rfl⟩
  refine T.set 12 (.bool false) (congrArg Value.bool c12) ?_
  refine T.skip (Post.thnN ?_)
  refine sR ?_
  refine R.asE rfl cA ?_
  refine nN ?_
  refine T.has Has.nil ?_
  refine T.ret (Post.thnR ?_)
  have hM : k_47 a0 a1 = (-1) := by rw [k_47, if_t c11, if_f c12]
  exact fin1L (v := .int .i64 (-1)) [] rfl rfl (List.Sublist.refl _) ⟨rfl, by first | rw [hM] | rfl⟩
 refine T.set 11 (.bool false) (congrArg Value.bool c11) ?_
 refine T.skip (Post.thnN ?_)
 refine T.seq ?_
 refine sR ?_
 refine R.mvE rfl cA ?_
 refine nN ?_
 refine T.cond rfl (fun c13 => ?_) (fun c13 => ?_)
 ·refine T.set 13 (.bool true) (congrArg Value.bool c13) ?_
  refine sR ?_
  refine R.asE rfl cA ?_
  refine nN ?_
  refine T.has Has.nil ?_
  refine T.ret (Post.thnR ?_)
  have hM : k_47 a0 a1 = 1 := by rw [k_47, if_f c11, if_t c13]
  exact fin1L (v := .int .i64 1) [] rfl rfl (List.Sublist.refl _) ⟨rfl, by first | rw [hM] | rfl⟩
 refine T.set 13 (.bool false) (congrArg Value.bool c13) ?_
 refine T.skip (Post.thnN ?_)
 refine T.seq ?_
 refine sR ?_
 refine R.mvE rfl cA ?_
 refine R.mvE rfl cA ?_
 refine R.lss rfl rfl rfl ?_
 refine nN ?_
 refine T.condD rfl (fun c16 => ?_) (fun c16 => ?_)
 ·refine T.set 16 (.bool true) (congrArg Value.bool (decide_eq_true c16)) ?_
  refine sR ?_
  refine R.asE rfl cA ?_
  refine nN ?_
  refine T.has Has.nil ?_
  refine T.ret (Post.thnR ?_)
  have hM : k_47 a0 a1 = (-1) := by rw [k_47, if_f c11, if_f c13, if_pos c16]
  exact fin1L (v := .int .i64 (-1)) [] rfl rfl (List.Sublist.refl _) ⟨rfl, by first | rw [hM] | rfl⟩
 refine T.set 16 (.bool false) (congrArg Value.bool (decide_eq_false c16)) ?_
 refine T.skip (Post.thnN ?_)
 refine T.seq ?_
 refine sR ?_
 refine R.mvE rfl cA ?_
 refine R.mvE rfl cA ?_
 refine R.gtr rfl rfl rfl ?_
 refine nN ?_
 refine T.condD rfl (fun c19 => ?_) (fun c19 => ?_)
 ·refine T.set 19 (.bool true) (congrArg Value.bool (decide_eq_true c19)) ?_
  refine sR ?_
  refine R.asE rfl cA ?_
  refine nN ?_
  refine T.has Has.nil ?_
  refine T.ret (Post.thnR ?_)
  have hM : k_47 a0 a1 = 1 := by rw [k_47, if_f c11, if_f c13, if_neg c16, if_pos c19]
  exact fin1L (v := .int .i64 1) [] rfl rfl (List.Sublist.refl _) ⟨rfl, by first | rw [hM] | rfl⟩
 refine T.set 19 (.bool false) (congrArg Value.bool (decide_eq_false c19)) ?_
 refine T.skip (Post.thnN ?_)
 refine sR ?_
 refine R.asE rfl cA ?_
 refine nN ?_
 refine T.has Has.nil ?_
 refine T.ret ?_
 have hM : k_47 a0 a1 = 0 := by rw [k_47, if_f c11, if_f c13, if_neg c16, if_neg c19]
 exact fin1L (v := .int .i64 0) [] rfl rfl (List.Sublist.refl _) ⟨rfl, by first | rw [hM] | rfl⟩
def k_2d (a0 : Int × (List Int)) (a1 : Int × (List Int)) : Int :=
  (k_47 a0.1 a1.1)
set_option maxHeartbeats 3200000 in
theorem index_compare_c (H : Heap) (a0 : Int × (List Int)) (va0_1 : Value) (ha0_1 : RdS (intE .i64) H va0_1 a0.2) (a1 : Int × (List Int)) (va1_1 : Value) (ha1_1 : RdS (intE .i64) H va1_1 a1.2) : Fv Tryz.prog (fnv 53) [.agg #[.int .u64 a0.1, va0_1], .agg #[.int .u64 a1.1, va1_1]] H (.int .i64 (k_2d a0 a1)) := by
 refine Fc.of_body (N := 10) Tryz.func53 rfl kA rfl rfl ?_
 intro w0
 obtain ⟨Aa0_1, ca0_1, rfl, hca0_1, hda0_1, ha0_1⟩ := ha0_1.shape
 obtain ⟨Aa1_1, ca1_1, rfl, hca1_1, hda1_1, ha1_1⟩ := ha1_1.shape
 refine sR ?_
 refine R.box rfl cA ?_
 intro b2
 refine R.box rfl cA ?_
 intro b3
 refine R.asE rfl cA ?_
 refine TL.shut .hd ?_
 intro Hb3_1 sb3_1 qb3_1
 have hb3_1 : Hb3_1 b3 = some (.cells #[.int .u64 (a1.1), .slice Aa1_1 a1.2.length ca1_1] 45) := shut1 qb3_1
 refine TL.shut .hd ?_
 intro Hb2_2 sb2_2 qb2_2
 have hb2_2 : Hb2_2 b2 = some (.cells #[.int .u64 (a0.1), .slice Aa0_1 a0.2.length ca0_1] 45) := shut1 qb2_2
 refine nN ?_
 refine sR ?_
 refine R.fldA Tryz.underlying45 rfl Tryz.sizeOf43 (by decide) rfl rfl ?_
 refine R.ldH Tryz.isAgg43 rfl rfl hb2_2 rfl ?_
 refine R.fldA Tryz.underlying45 rfl Tryz.sizeOf43 (by decide) rfl rfl ?_
 refine R.ldH Tryz.isAgg43 rfl rfl (sb2_2 _ _ hb3_1) rfl ?_
 refine R.callv rfl rfl rfl (cmp_Compare_Id_c _ (a0.1) (a1.1)) ?_
 refine R.asE rfl cA ?_
 refine nN ?_
 refine T.has Has.nil ?_
 refine T.ret ?_
 have hM : k_2d a0 a1 = (k_47 a0.1 a1.1) := by rw [k_2d]
 exact fin1L (v := .int .i64 (k_47 a0.1 a1.1)) [] rfl rfl (List.Sublist.refl _) ⟨rfl, by first | rw [hM] | rfl⟩
def k_a8 (yl1 : Int × (List Int)) : List Int → ((Int → List Int)) → (Int → List Int)
  | [], sl2 => sl2
  | yl2 :: ysl2, sl2 => k_a8 yl1 ysl2 ((mset sl2 yl2 (((sl2 yl2) ++ [yl1.1]))))
def k_83  (y49 : List Int) : Bool :=
  LR.seq (k_bd y49) (fun r52 => LR.seq (if ((k_2e r52) : Int) ≠ 0 then true else (LR.seq (k_44 r52) (fun r58 => (decide (¬ (r58 = y49))))) : Bool) (fun sc5 => if sc5 = true then true else false))
def k_79  : List (Int × (List Int)) → ((Int → List Int)) → LR (Int) ((Int → List Int))
  | [], sl1 => .go sl1
  | yl1 :: ysl1, sl1 => if (!(k_ae yl1)) = true then (.ret 240) else (LR.seq (k_a8 yl1 yl1.2 sl1) (fun ol2 => k_79 ysl1 ol2))
def k_7c (a0 : (List (Int × (List Int)))) : Int :=
  if (!(k_88 a0 ((fun z0 z1 => k_2d z0 z1)))) = true then 240 else (LR.on (k_79 a0 (((fun _ => []) : Int → List Int))) (fun r => r) (fun ol1 => LR.seq (if (a0.flatMap Prod.snd).any (fun n_ => k_83 (ol1 n_)) = true then 240 else 0 : Int) (fun sc3 => sc3)))
theorem check_l2_at (r : Int × List Int) (n : Int) : ∀ (l : List Int) (f : Int → List Int), k_a8 r l f n = f n ++ (l.filter (fun y => decide (y = n))).map (fun _ => r.1)
  | [], f => by simp [k_a8]
  | y :: ys, f => by
    rw [k_a8, check_l2_at r n ys, List.filter_cons]
    unfold mset
    by_cases h : y = n
    · subst h; simp
    · rw [if_neg (fun q => h q.symm), if_neg (by simpa using h)]
theorem check_l1_at (n : Int) : ∀ (l : List (Int × List Int)) (f g : Int → List Int), k_79 l f = .go g → g n = f n ++ l.flatMap (fun r => (r.2.filter (fun y => decide (y = n))).map (fun _ => r.1))
  | [], f, g, h => by rw [k_79] at h; injection h with h; subst h; simp
  | r :: l, f, g, h => by
    rw [k_79] at h
    split at h
    · cases h
    · rw [LR.seq_go] at h
      rw [check_l1_at n l _ g h, check_l2_at, List.flatMap_cons, List.append_assoc]
theorem check_ks (l : List (Int × List Int)) (g : Int → List Int) (h : k_79 l (fun _ => []) = .go g) (n : Int) (hn : g n ≠ []) : n ∈ l.flatMap Prod.snd := by
  rw [check_l1_at n l _ g h, List.nil_append] at hn
  obtain ⟨x, hx⟩ := List.exists_mem_of_ne_nil _ hn
  obtain ⟨r, hr, hx⟩ := List.mem_flatMap.1 hx
  obtain ⟨y, hy, _⟩ := List.mem_map.1 hx
  obtain ⟨h1, h2⟩ := List.mem_filter.1 hy
  have : y = n := of_decide_eq_true h2
  subst this
  exact List.mem_flatMap.2 ⟨r, hr, h1⟩
set_option maxHeartbeats 3200000 in
theorem index_Check_c (H : Heap) (a0 : (List (Int × (List Int)))) (va0_0 : Value) (ha0_0 : RdS listedE H va0_0 a0) (hn : a0.length ≤ 1000) (hr : ∀ r ∈ a0, r.2.length ≤ 1000) : Fv Tryz.prog (fnv 17) [.agg #[va0_0]] H (.int .i64 (k_7c a0)) := by
 refine Fc.of_body (N := 64) Tryz.func17 rfl kA rfl rfl ?_
 intro w0
 obtain ⟨Aa0_0, ca0_0, rfl, hca0_0, hda0_0, ha0_0⟩ := ha0_0.shape
 refine sR ?_
 refine R.box rfl cA ?_
 intro b1
 refine R.asE rfl cA ?_
 refine TL.shut .hd ?_
 intro Hb1_1 sb1_1 qb1_1
 have hb1_1 : Hb1_1 b1 = some (.cells #[.slice Aa0_0 a0.length ca0_0] 24) := shut1 qb1_1
 refine nN ?_
 refine T.scope ?_
 refine T.seq ?_
 refine sR ?_
 refine R.fldA Tryz.underlying24 rfl Tryz.sizeOf22 (by decide) rfl rfl ?_
 refine R.ldH Tryz.isAgg22 rfl rfl hb1_1 rfl ?_
 refine R.callv rfl rfl rfl (index_rises_Listed_c _ _ a0 (ha0_0.mono sb1_1) _ (fun z0 z1 => k_2d z0 z1) (fun H2 h2 z0 vz0_1 hz0_1 z1 vz1_1 hz1_1 => index_compare_c H2 z0 vz0_1 hz0_1 z1 vz1_1 hz1_1) rfl bA) ?_
 refine R.not rfl rfl ?_
 refine nN ?_
 refine T.cond rfl (fun c15 => ?_) (fun c15 => ?_)
 ·refine T.set 15 (.bool true) (congrArg Value.bool c15) ?_
  refine sR ?_
  refine R.asE rfl cA ?_
  refine nN ?_
  refine T.has Has.nil ?_
  refine T.ret (Post.thnR (Post.ngR ?_))
  have hM : k_7c a0 = 240 := by rw [k_7c, if_t c15]
  exact fin1L (v := .int .i64 240) [] rfl rfl (List.Sublist.refl _) ⟨rfl, by first | rw [hM] | rfl⟩
 refine T.set 15 (.bool false) (congrArg Value.bool c15) ?_
 refine T.skip (Post.thnN ?_)
 refine sR ?_
 refine R.mkmO (intE .u64) 43 .i64 rfl ?_
 intro b16 w16
 refine R.asE rfl cA ?_
 refine nN ?_
 refine T.seq ?_
 refine sR ?_
 refine R.fldA Tryz.underlying24 rfl Tryz.sizeOf22 (by decide) rfl rfl ?_
 refine R.ldH Tryz.isAgg22 rfl rfl hb1_1 rfl ?_
 refine R.len Tryz.underlying22 rfl rfl ?_
 refine R.mvE rfl cA ?_
 refine nN ?_
 refine T.block ?_
 refine T.loop (ι := Nat × (Int → List Int) × Chunk) (fun ⟨kl1, xM16l1, cM16l1⟩ H' L' ds' => kl1 ≤ a0.length ∧ Has L' [cM16l1] ∧ MapO (intE .u64) 43 .i64 H' b16 xM16l1 cM16l1 ∧ (∀ n, (xM16l1 n).length ≤ 1000 * kl1) ∧ k_79 (a0.drop kl1) xM16l1 = k_79 a0 (((fun _ => []) : Int → List Int))) (fun ⟨kl1, xM16l1, cM16l1⟩ => [(20, .int .i64 (kl1 : Int)), (3, .map (some b16)), (18, .slice Aa0_0 a0.length ca0_0), (19, .int .i64 (a0.length : Int))]) (fun ⟨kl1, xM16l1, cM16l1⟩ => a0.length - kl1) (0, ((fun _ => []) : Int → List Int), [(b16, .map #[] 0)]) ?_ ?_ ?_
 ·exact ⟨oA, (Has.cons .hd Has.nil), w16, (by intro n; exact Nat.zero_le _), (by rfl)⟩
 ·exact ⟨rfl, rfl, rfl, rfl, trivial⟩
 intro ⟨kl1, xM16l1, cM16l1⟩ σ_l1 H_l1 L_l1 ds_l1 s_l1 hI_l1
 obtain ⟨hkl1, hI_l1⟩ := hI_l1
 obtain ⟨hLl1, wM16l1, hBl1_0, hQl1⟩ := hI_l1
 refine T.has hLl1 ?_
 refine sR ?_
 refine R.lss rfl rfl rfl ?_
 refine nN ?_
 refine T.seq ?_
 refine T.condD rfl (fun c21 => ?_) (fun c21 => ?_)
 ·have hltl1 : kl1 < a0.length := by omega
  obtain ⟨yl1, hyl1⟩ := getk (xs := a0) (k := kl1) oA
  have hrow := hr yl1 (List.mem_of_getElem? hyl1)
  refine T.skip (Post.thnN ?_)
  refine T.seq ?_
  refine T.block ?_
  refine sR ?_
  obtain ⟨b22, o22, i22, k22⟩ := RdS.elem (ha0_0.mono (sb1_1.trans s_l1)) hyl1
  obtain ⟨l22, g22, k22⟩ := k22
  obtain ⟨z22_1, rfl, r22_1⟩ := g22
  obtain ⟨A22_1, p22_1, rfl, m22_1, n22_1, r22_1⟩ := r22_1.shape
  refine R.ixp Tryz.underlying22 Tryz.sizeOf45 rfl rfl rfl oA i22 ?_
  refine R.ldK (l := [.int .u64 (yl1.1), .slice A22_1 yl1.2.length p22_1]) Tryz.isAgg45 Tryz.sizeOf45 rfl rfl k22 rfl ?_
  refine R.alloc Tryz.zeroValue45 rfl ?_
  intro b5
  refine R.stX (old := [.int .u64 0, .slice none 0 0]) (l := [.int .u64 (yl1.1), .slice A22_1 yl1.2.length p22_1]) (new := [.int .u64 (yl1.1), .slice A22_1 yl1.2.length p22_1]) (et := 45) Tryz.sizeOf45 rfl rfl rfl rfl rfl (by show 0 + 2 ≤ 2; decide) rfl (k_20 rfl) .hd ?_
  refine TL.shut .hd ?_
  intro Hb5_2 sb5_2 qb5_2
  have hb5_2 : Hb5_2 b5 = some (.cells #[.int .u64 (yl1.1), .slice A22_1 yl1.2.length p22_1] 45) := shut1 qb5_2
  refine nN ?_
  refine T.seq ?_
  refine sR ?_
  refine R.ldXH (cs := [.int .u64 (yl1.1), .slice A22_1 yl1.2.length p22_1]) (l := [.int .u64 (yl1.1), .slice A22_1 yl1.2.length p22_1]) Tryz.isAgg45 Tryz.sizeOf45 rfl rfl hb5_2 rfl rfl ?_
  refine R.callv rfl rfl rfl (index_row_c _ yl1 _ (r22_1.mono sb5_2) bA) ?_
  refine R.not rfl rfl ?_
  refine nN ?_
  refine T.cond rfl (fun c26 => ?_) (fun c26 => ?_)
  ·refine T.set 26 (.bool true) (congrArg Value.bool c26) ?_
   refine sR ?_
   refine R.asE rfl cA ?_
   refine nN ?_
   refine T.has Has.nil ?_
   refine T.ret (Post.thnR (Post.blkR (Post.thnR (Post.thnR (Post.blkR (Post.thnR (Post.ngR ?_)))))))
   have hXl1 : k_79 a0 (((fun _ => []) : Int → List Int)) = .ret 240 := by rw [← hQl1, k_16 hyl1, k_79]; rw [if_t c26]
   have hM : k_7c a0 = 240 := by rw [k_7c, if_f c15, hXl1, LR.on_ret]
   exact fin1L (v := .int .i64 240) [] rfl rfl (List.Sublist.refl _) ⟨rfl, by first | rw [hM] | rfl⟩
  refine T.set 26 (.bool false) (congrArg Value.bool c26) ?_
  refine T.skip (Post.thnN ?_)
  refine sR ?_
  refine R.fldA Tryz.underlying45 rfl Tryz.sizeOf25 (by decide) rfl rfl ?_
  refine R.ldH Tryz.isAgg25 rfl rfl hb5_2 rfl ?_
  refine R.len Tryz.underlying25 rfl rfl ?_
  refine R.mvE rfl cA ?_
  refine nN ?_
  refine T.block ?_
  refine T.loop (ι := Nat × (Int → List Int) × Chunk) (fun ⟨kl2, xM16l2, cM16l2⟩ H' L' ds' => kl2 ≤ yl1.2.length ∧ Has L' [cM16l2] ∧ MapO (intE .u64) 43 .i64 H' b16 xM16l2 cM16l2 ∧ (∀ n, (xM16l2 n).length ≤ 1000 * kl1 + kl2) ∧ k_a8 yl1 (yl1.2.drop kl2) xM16l2 = k_a8 yl1 yl1.2 xM16l1) (fun ⟨kl2, xM16l2, cM16l2⟩ => [(30, .int .i64 (kl2 : Int)), (3, .map (some b16)), (5, .pointer (some ⟨b5, 0, none⟩)), (18, .slice Aa0_0 a0.length ca0_0), (19, .int .i64 (a0.length : Int)), (20, .int .i64 (kl1 : Int)), (28, .slice A22_1 yl1.2.length p22_1), (29, .int .i64 (yl1.2.length : Int))]) (fun ⟨kl2, xM16l2, cM16l2⟩ => yl1.2.length - kl2) (0, xM16l1, cM16l1) ?_ ?_ ?_
  ·exact ⟨oA, (Has.cons .hd Has.nil), (wM16l1.mono sb5_2), (by intro n; have := hBl1_0 n; omega), (by rfl)⟩
  ·exact ⟨rfl, rfl, rfl, rfl, rfl, rfl, rfl, rfl, trivial⟩
  intro ⟨kl2, xM16l2, cM16l2⟩ σ_l2 H_l2 L_l2 ds_l2 s_l2 hI_l2
  obtain ⟨hkl2, hI_l2⟩ := hI_l2
  obtain ⟨hLl2, wM16l2, hBl2_0, hQl2⟩ := hI_l2
  refine T.has hLl2 ?_
  refine sR ?_
  refine R.lss rfl rfl rfl ?_
  refine nN ?_
  refine T.seq ?_
  refine T.condD rfl (fun c31 => ?_) (fun c31 => ?_)
  ·have hltl2 : kl2 < yl1.2.length := by omega
   obtain ⟨yl2, hyl2⟩ := getk (xs := yl1.2) (k := kl2) oA
   refine T.skip (Post.thnN ?_)
   refine T.seq ?_
   refine T.block ?_
   refine sR ?_
   obtain ⟨b32, o32, i32, k32⟩ := RdS.elem (r22_1.mono (sb5_2.trans s_l2)) hyl2
   obtain ⟨l32, g32, k32⟩ := k32
   obtain rfl : l32 = [.int .i64 yl2] := g32
   refine R.ixp Tryz.underlying25 Tryz.sizeOf3 rfl rfl rfl oA i32 ?_
   refine R.ldC Tryz.isAgg3 rfl rfl (k32 0 _ rfl) ?_
   refine R.asE rfl cA ?_
   refine nN ?_
   refine T.region ?_
   refine R.mvE rfl cA ?_
   refine R.mvE rfl cA ?_
   refine R.mvE rfl cA ?_
   refine R.mvE rfl cA ?_
   refine R.lkuO Tryz.underlying75 Tryz.underlying3 Tryz.zeroValue30 rfl rfl rfl .hd wM16l2 ?_
   intro v38 c38 mc38 mR38 w38 t38
   obtain ⟨A38, p38, rfl, m38, n38⟩ := OwnS.shape w38
   have hb38 := hBl2_0 yl2
   refine R.fldA Tryz.underlying45 rfl Tryz.sizeOf43 (by decide) rfl rfl ?_
   refine R.ldH Tryz.isAgg43 rfl rfl (s_l2 _ _ hb5_2) rfl ?_
   refine R.bs rfl (k_3f Tryz.underlying30 Tryz.sizeOf43 Tryz.zeroValue43 rfl rfl) ?_
   intro b41
   have w41 : OwnS (intE .u64) 43 H_l2 (.slice (some ⟨b41, 0, none⟩) 1 1) [yl1.1] [(b41, .cells #[.int .u64 (yl1.1)] 43)] := OwnS.lit (xs := [yl1.1]) (k_2a (a := [.int .u64 (yl1.1)]) rfl k_4d) (by show 1 ≤ maxLen; decide)
   obtain ⟨k42, y42, r42⟩ := Src.ownA w41
   refine R.app (E := (intE .u64)) (e := 43) (xs := (xM16l2 yl2)) (ys := [yl1.1]) k_b3 rfl rfl rfl w38 (.tl .hd) (r42 _ .hd) y42 (by (try simp only [List.length_append, List.length_cons, List.length_nil, List.length_replicate, List.length_take, List.length_drop]); omega) (by (try simp only [List.length_append, List.length_cons, List.length_nil, List.length_replicate, List.length_take, List.length_drop]); omega) ?_
   intro v42 c42 w42
   obtain ⟨A42, p42, rfl, m42, n42⟩ := OwnS.shape w42
   refine TL.del (.tl .hd) ?_
   refine R.mupO Tryz.underlying75 Tryz.underlying3 rfl rfl rfl rfl t38 (HLe.refl _) w42 .hd .hd .hd ?_
   intro cu16_8 wu16_8
   refine TL.nil (Post.blkN ?_)
   refine id (Post.thnN ?_)
   refine T.region ?_
   refine R.addI rfl rfl rfl oA ?_
   refine R.mvE rfl cA ?_
   refine nN ?_
   exact ⟨(kl2 + 1, (mset xM16l2 yl2 (((xM16l2 yl2) ++ [yl1.1]))), cu16_8), s_l2, ⟨oA, (Has.cons .hd Has.nil), wu16_8, (by intro n; have := mset_len hBl2_0 yl2 yl1.1 n; omega), (by rw [← hQl2, k_16 hyl2, k_a8])⟩, by show yl1.2.length - (kl2 + 1) < yl1.2.length - kl2; omega, rfl, rfl, rfl, rfl, rfl, rfl, rfl, rfl, trivial⟩
  refine T.exit (Post.thnE (Post.thnE (Post.blkX ?_)))
  have hEl2 : k_a8 yl1 yl1.2 xM16l1 = xM16l2 := (hQl2.symm.trans (by rw [show kl2 = yl1.2.length by omega, List.drop_length, k_a8]))
  refine id (Post.blkN ?_)
  refine id (Post.thnN ?_)
  refine T.region ?_
  refine R.addI rfl rfl rfl oA ?_
  refine R.mvE rfl cA ?_
  refine nN ?_
  exact ⟨(kl1 + 1, xM16l2, cM16l2), (s_l1.trans (sb5_2.trans s_l2)), ⟨oA, (Has.cons .hd Has.nil), wM16l2, (by intro n; have := hBl2_0 n; omega), (by rw [← hQl1, k_16 hyl1, k_79]; rw [if_f c26, hEl2, LR.seq_go])⟩, by show a0.length - (kl1 + 1) < a0.length - kl1; omega, rfl, rfl, rfl, rfl, trivial⟩
 refine T.exit (Post.thnE (Post.thnE (Post.blkX ?_)))
 have hEl1 : k_79 a0 (((fun _ => []) : Int → List Int)) = .go xM16l1 := (hQl1.symm.trans (by rw [show kl1 = a0.length by omega, List.drop_length, k_79]))
 refine id (Post.thnN ?_)
 refine sR ?_
 refine R.asE rfl cA ?_
 refine nN ?_
 refine T.seq ?_
 refine T.label (Post.thnN ?_)
 refine T.seq ?_
 refine sR ?_
 refine R.mvE rfl cA ?_
 refine TL.shut .hd ?_
 intro HF16_3 sF16_3 qF16_3
 have fF16_3 := MapO.read wM16l1 sF16_3 qF16_3
 obtain ⟨es16_3, ck16_3, mm16_3, kF16_3⟩ := MapO.readK wM16l1 sF16_3 qF16_3
 refine R.rngH Tryz.underlying75 rfl rfl kF16_3.hb ?_
 intro b46
 refine nN ?_
 refine T.cutK (ι := Int) (fun n8c3 H' L' ds' => Has L' [] ∧ (if (a0.flatMap Prod.snd).any (fun n_ => k_83 (xM16l1 n_)) = true then 240 else 0 : Int) = n8c3) (fun n8c3 => [(8, .int .i64 n8c3)]) ?_ ?_
 ·refine T.block ?_
  refine T.loop (ι := Array Nat) (fun snl4 H' L' ds' => Has L' [[(b46, .mapIter (some b16) ck16_3 snl4 ck16_3)]] ∧ SeenB es16_3 snl4 ∧ (∀ e ∈ es16_3.toList, e.born ∈ snl4 → ∀ q ∈ mm16_3, e.key = Value.int .i64 q.1 → k_83 (xM16l1 q.1) = false)) (fun snl4 => [(8, .int .i64 0), (46, .pointer (some ⟨b46, 0, none⟩))]) (fun snl4 => es16_3.size - snl4.size) #[] ?_ ?_ ?_
  ·exact ⟨(Has.cons .hd Has.nil), SeenB.nil _, fun e _ h => absurd h (Array.not_mem_empty _)⟩
  ·exact ⟨rfl, rfl, trivial⟩
  intro snl4 σ_l4 H_l4 L_l4 ds_l4 s_l4 hI_l4
  obtain ⟨hLl4, hSl4, hGl4⟩ := hI_l4
  refine T.has hLl4 ?_
  refine sR ?_
  refine R.nxtH rfl rfl .hd (MrK.mono kF16_3 s_l4).hb (MrK.mono kF16_3 s_l4).hk.2 ?_
  intro v47 sn47 h47
  rcases h47 with ⟨hv47, hs47, hall47⟩ | ⟨e47, he47, hn47, hv47, hs47⟩ <;> subst hv47 <;> rw [hs47] <;> clear hs47
  ·refine R.ext rfl rfl rfl ?_
   refine nN ?_
   refine T.seq ?_
   refine T.condN rfl ?_
   refine T.exit (Post.thnE (Post.thnE (Post.blkX ?_)))
   have hEl4 : (a0.flatMap Prod.snd).any (fun n_ => k_83 (xM16l1 n_)) = false := anyF kF16_3 (c := k_83) kA (a0.flatMap Prod.snd) hall47 hGl4
   refine id (Post.thnN ?_)
   exact ⟨0, s_l4, ⟨Has.nil, (by rw [if_f hEl4])⟩, rfl, trivial⟩
  refine R.ext rfl rfl rfl ?_
  refine nN ?_
  refine T.seq ?_
  refine T.condY rfl ?_
  refine T.skip (Post.thnN ?_)
  refine T.block ?_
  refine sR ?_
  obtain ⟨⟨q49, u49⟩, hq49, hk49, hu49⟩ := mapEntry (MrK.mono kF16_3 s_l4).hk.1 he47
  dsimp only at hk49 hu49
  have w49 := (MrK.mono kF16_3 s_l4).rd _ hq49
  dsimp only at w49
  obtain ⟨y49, ey49⟩ : ∃ y, y = xM16l1 q49 := ⟨_, rfl⟩
  rw [← ey49] at w49
  obtain ⟨A49, p49, rfl, m49, n49, w49⟩ := RdS.shape w49
  refine R.entH rfl rfl .hd (MrK.mono kF16_3 s_l4).hb (MrK.mono kF16_3 s_l4).hk.2 he47 ?_
  refine TL.set 49 (.tuple #[.int .i64 q49, .slice A49 y49.length p49]) (by rw [hk49, hu49]; rfl) ?_
  refine R.ext rfl rfl rfl ?_
  refine R.asE rfl cA ?_
  refine nN ?_
  refine sR ?_
  refine R.mvE rfl cA ?_
  obtain ⟨r52, er52⟩ : ∃ r, r = (k_bd y49) := ⟨_, rfl⟩
  refine TL.call [] rfl rfl rfl (index_bare_c _ _ y49 w49 (by rw [ey49]; have := hBl1_0 q49; omega)) ?_
  intro v52 H52 L52 s52 q52
  rw [← er52] at q52
  obtain ⟨u52_0_0, c52_0_0, rfl, rfl, w52_0_0⟩ := q52
  obtain ⟨A52_0_0, p52_0_0, rfl, m52_0_0, n52_0_0⟩ := OwnS.shape w52_0_0
  refine R.asE rfl cA ?_
  refine nN ?_
  refine T.seq ?_
  refine T.cutK (ι := Bool) (fun b62c5 H' L' ds' => Has L' [[(b46, .mapIter (some b16) ck16_3 (snl4.push e47.born) ck16_3)]] ∧ (if ((k_2e r52) : Int) ≠ 0 then true else (LR.seq (k_44 r52) (fun r58 => (decide (¬ (r58 = y49))))) : Bool) = b62c5) (fun b62c5 => [(8, .int .i64 0), (46, .pointer (some ⟨b46, 0, none⟩)), (62, .bool (b62c5))]) ?_ ?_
  ·refine T.region ?_
   refine R.mvE rfl cA ?_
   refine TL.shut .hd ?_
   intro HF52_0_0_4 sF52_0_0_4 qF52_0_0_4
   have fF52_0_0_4 := OwnS.read w52_0_0 sF52_0_0_4 qF52_0_0_4
   refine R.callv rfl rfl rfl (types_Check_c _ _ r52 fF52_0_0_4) ?_
   refine R.neq rfl rfl rfl ?_
   refine R.mvE rfl cA ?_
   refine TL.gsplitD 56 rfl (fun g56 => ?_) (fun g56 => ?_)
   ·refine TL.off rfl rfl rfl ?_
    refine TL.off rfl rfl rfl ?_
    refine TL.off rfl rfl rfl ?_
    refine TL.off rfl rfl rfl ?_
    refine TL.off rfl rfl rfl ?_
    refine R.pkTE rfl rfl cA ?_
    refine nN ?_
    exact ⟨true, sF52_0_0_4, ⟨(Has.cons .hd Has.nil), (by rw [if_pos g56])⟩, rfl, rfl, rfl, trivial⟩
   refine R.mvE rfl cA ?_
   obtain ⟨r58, er58⟩ : ∃ r, r = (k_44 r52) := ⟨_, rfl⟩
   refine TL.call [] rfl rfl rfl (index_Keys_c _ _ r52 fF52_0_0_4) ?_
   intro v58 H58 L58 s58 q58
   rw [← er58] at q58
   obtain ⟨u58_0_0, c58_0_0, rfl, rfl, w58_0_0⟩ := q58
   obtain ⟨A58_0_0, p58_0_0, rfl, m58_0_0, n58_0_0⟩ := OwnS.shape w58_0_0
   have tK58 := Keys_len _ _ er58
   refine R.mvE rfl cA ?_
   refine TL.shut .hd ?_
   intro HF58_0_0_5 sF58_0_0_5 qF58_0_0_5
   have fF58_0_0_5 := OwnS.read w58_0_0 sF58_0_0_5 qF58_0_0_5
   refine R.callv rfl rfl rfl (k_be _ _ r58 fF58_0_0_5 _ y49 (w49.mono (s52.trans (sF52_0_0_4.trans (s58.trans sF58_0_0_5))))) ?_
   refine R.notD rfl rfl ?_
   refine R.pkFE rfl rfl cA ?_
   refine nN ?_
   exact ⟨(decide (¬ (r58 = y49))), (sF52_0_0_4.trans (s58.trans sF58_0_0_5)), ⟨(Has.cons .hd Has.nil), (by subst er58; rw [if_neg g56, LR.seq_go])⟩, rfl, rfl, rfl, trivial⟩
  intro b62c5 σ_c5 H_c5 L_c5 ds_c5 s_c5 hI_c5
  obtain ⟨hLc5, hTc5⟩ := hI_c5
  refine T.has hLc5 ?_
  refine T.cond rfl (fun c62 => ?_) (fun c62 => ?_)
  ·refine T.set 62 (.bool true) (congrArg Value.bool c62) ?_
   have hZ62 := hTc5.trans c62
   try simp only [or_f, or_t, k_bf, k_c0, decide_eq_true_eq, decide_eq_false_iff_not, Bool.not_eq_true'] at hZ62
   refine sR ?_
   refine R.asE rfl cA ?_
   refine nN ?_
   refine T.exit (Post.blkE rfl (Post.thnE (Post.blkX ?_)))
   have hXl4 : k_83 y49 = true := by subst er52; rw [k_83, LR.seq_go, hTc5, LR.seq_go, if_t c62]
   have hEl4 : (a0.flatMap Prod.snd).any (fun n_ => k_83 (xM16l1 n_)) = true := anyT kF16_3 (c := k_83) kA (fun n hn => check_ks _ _ hEl1 n hn) (q := (q49, Value.bool false)) (by show k_83 (xM16l1 q49) = true; rw [← ey49]; exact hXl4)
   refine id (Post.thnN ?_)
   exact ⟨240, (s_l4.trans (s52.trans s_c5)), ⟨Has.nil, (by rw [if_t hEl4])⟩, rfl, trivial⟩
  refine T.set 62 (.bool false) (congrArg Value.bool c62) ?_
  have hZ62 := hTc5.trans c62
  try simp only [or_f, or_t, k_bf, k_c0, decide_eq_true_eq, decide_eq_false_iff_not, Bool.not_eq_true'] at hZ62
  refine T.skip (Post.blkN ?_)
  refine id (Post.thnN ?_)
  have hXl4 : k_83 y49 = false := by subst er52; rw [k_83, LR.seq_go, hTc5, LR.seq_go, if_f c62]
  exact ⟨snl4.push e47.born, (s_l4.trans (s52.trans s_c5)), ⟨(Has.cons .hd Has.nil), hSl4.push he47 hn47, seenStep kF16_3.hk.2 he47 hk49 (by rw [← ey49]; exact hXl4) hGl4⟩, SeenB.less hSl4 he47 hn47, rfl, rfl, trivial⟩
 intro n8c3 σ_c3 H_c3 L_c3 ds_c3 s_c3 hI_c3
 obtain ⟨hLc3, hTc3⟩ := hI_c3
 refine T.has hLc3 ?_
 refine sR ?_
 refine R.mvE rfl cA ?_
 refine R.asE rfl cA ?_
 refine nN ?_
 refine T.has Has.nil ?_
 refine T.ret (Post.ngR ?_)
 have hM : k_7c a0 = n8c3 := by rw [k_7c, if_f c15, hEl1, LR.on_go, hTc3, LR.seq_go]
 exact fin1L (v := .int .i64 n8c3) [] rfl rfl (List.Sublist.refl _) ⟨rfl, by first | rw [hM] | rfl⟩
end Go.SX

set_option linter.unusedVariables false
set_option linter.unusedSimpArgs false
namespace Go.SX
open Go
abbrev Ix := List (Int × List Int)
/-- each stands ahead of the next -/
def risesL {α : Type} (d : α) (a : List α) (c : α → α → Int) : Nat → Int → LR Bool Int
  | 0, _ => .go default
  | m + 1, s => if s < (a.length : Int) then (if (0 : Int) ≤ c (a.getD (s - 1).toNat d) (a.getD s.toNat d) then .ret false else risesL d a c m (s + 1)) else .go s
theorem rises_int_L (a : List Int) (c : Int → Int → Int) : ∀ (m : Nat) (s : Int), k_84 a c m s = risesL 0 a c m s
  | 0, _ => rfl
  | m + 1, s => by rw [k_84, risesL, rises_int_L a c m]
theorem rises_row_L (a : Ix) (c : Int × List Int → Int × List Int → Int) : ∀ (m : Nat) (s : Int), k_66 a c m s = risesL (0, []) a c m s
  | 0, _ => rfl
  | m + 1, s => by rw [k_66, risesL, rises_row_L a c m]
theorem risesL_iff {α : Type} (d : α) (a : List α) (c : α → α → Int) : ∀ (m k : Nat), a.length - k < m → 1 ≤ k →
    (LR.on (risesL d a c m (k : Int)) (fun r => r) (fun _ => true) = true ↔ ∀ i, k ≤ i → i < a.length → c (a.getD (i - 1) d) (a.getD i d) < 0)
  | 0, k, h, _ => by omega
  | m + 1, k, h, h1 => by
    rw [risesL]
    by_cases hk : k < a.length
    · rw [if_pos (show (k : Int) < (a.length : Int) by omega), show ((k : Int) - 1).toNat = k - 1 by omega, Int.toNat_natCast]
      by_cases hc : (0 : Int) ≤ c (a.getD (k - 1) d) (a.getD k d)
      · rw [if_pos hc, LR.on_ret]
        constructor
        · intro q; cases q
        · intro q; have := q k (Nat.le_refl _) hk; omega
      · rw [if_neg hc, show (k : Int) + 1 = ((k + 1 : Nat) : Int) by omega, risesL_iff d a c m (k + 1) (by omega) (by omega)]
        constructor
        · intro q i h2 h3
          rcases Nat.eq_or_lt_of_le h2 with e | e
          · subst e; omega
          · exact q i e h3
        · exact fun q i h2 h3 => q i (by omega) h3
    · rw [if_neg (show ¬ (k : Int) < (a.length : Int) by omega), LR.on_go]
      exact ⟨fun _ i h2 h3 => by omega, fun _ => rfl⟩
theorem cmp_Id_lt (x y : Int) : k_47 x y < 0 ↔ x < y := by
  unfold k_47 k_9c
  simp only [ne_eq, not_true_eq_false, decide_false, Bool.false_eq_true, if_false]
  by_cases h : x < y
  · rw [if_pos h]; exact ⟨fun _ => h, fun _ => by decide⟩
  · rw [if_neg h]; split <;> exact ⟨fun q => by omega, fun q => absurd q h⟩
theorem cmp_int_lt (x y : Int) : k_4c x y < 0 ↔ x < y := by
  unfold k_4c k_9a
  simp only [ne_eq, not_true_eq_false, decide_false, Bool.false_eq_true, if_false]
  by_cases h : x < y
  · rw [if_pos h]; exact ⟨fun _ => h, fun _ => by decide⟩
  · rw [if_neg h]; split <;> exact ⟨fun q => by omega, fun q => absurd q h⟩
theorem pw_adj {l : List Int} (h : l.Pairwise (· < ·)) (i : Nat) (h1 : 1 ≤ i) (h2 : i < l.length) : l.getD (i - 1) 0 < l.getD i 0 := by
  rw [List.getD_eq_getElem?_getD, List.getD_eq_getElem?_getD, List.getElem?_eq_getElem h2, List.getElem?_eq_getElem (by omega : i - 1 < l.length)]
  exact (List.pairwise_iff_getElem.1 h) (i - 1) i (by omega) h2 (by omega)
theorem rises_int_iff (l : List Int) : k_9f l (fun z0 z1 => k_4c z0 z1) = true ↔ l.Pairwise (· < ·) := by
  unfold k_9f
  rw [rises_int_L]
  refine (risesL_iff 0 l _ _ 1 (by omega) (by omega)).trans ?_
  constructor
  · intro h
    exact adj_up (fun i hi => (cmp_int_lt _ _).1 (h (i + 1) (by omega) hi))
  · intro h i h1 h2
    exact (cmp_int_lt _ _).2 (pw_adj h i h1 h2)
theorem getD_fst (x : Ix) (i : Nat) : (x.getD i (0, [])).1 = (x.map Prod.fst).getD i 0 := by
  rw [List.getD_eq_getElem?_getD, List.getD_eq_getElem?_getD, List.getElem?_map]
  cases x[i]? <;> rfl
theorem rises_row_iff (x : Ix) : k_88 x (fun z0 z1 => k_2d z0 z1) = true ↔ (x.map Prod.fst).Pairwise (· < ·) := by
  unfold k_88
  rw [rises_row_L]
  refine (risesL_iff (0, []) x _ _ 1 (by omega) (by omega)).trans ?_
  constructor
  · intro h
    refine adj_up (fun i hi => ?_)
    have := (cmp_Id_lt _ _).1 (h (i + 1) (by omega) (by rw [List.length_map] at hi; exact hi))
    rw [getD_fst, getD_fst] at this
    exact this
  · intro h i h1 h2
    refine (cmp_Id_lt _ _).2 ?_
    rw [getD_fst, getD_fst]
    exact pw_adj h i h1 (by rw [List.length_map]; exact h2)
theorem containsF_int (l : List Int) (p : Int → Bool) : k_5d l p = true ↔ ∃ y ∈ l, p y = true := by
  unfold k_5d
  rcases idxf_int l p with ⟨j, h1, h2, h3, _⟩ | ⟨h1, h2⟩
  · rw [h1]
    refine ⟨fun _ => ⟨l.getD j 0, ?_, h3⟩, fun _ => decide_eq_true (by omega)⟩
    rw [List.getD_eq_getElem?_getD, List.getElem?_eq_getElem h2]; exact List.getElem_mem h2
  · rw [h1]
    refine ⟨fun q => by exact absurd (of_decide_eq_true q) (by decide), ?_⟩
    rintro ⟨y, hy, hp⟩
    rw [h2 y hy] at hp; cases hp
theorem table_iff (n : Int) : k_87 n = true ↔ 1 ≤ n ∧ n ≤ 1048576 := by
  unfold k_87
  by_cases h : (1 : Int) ≤ n
  · rw [if_pos h, decide_eq_true_eq]; exact ⟨fun q => ⟨h, q⟩, fun q => q.2⟩
  · rw [if_neg h]; exact ⟨fun q => (by cases q), fun q => absurd q.1 h⟩
/-- A row that may be. -/
structure RowOk (r : Int × List Int) : Prop where
  kind : kindG r.1 = 2 ∨ kindG r.1 = 3 ∨ kindG r.1 = 4
  ne : r.2 ≠ []
  up : r.2.Pairwise (· < ·)
  rng : ∀ n ∈ r.2, 1 ≤ n ∧ n ≤ 1048576
theorem row_iff (r : Int × List Int) : k_ae r = true ↔ RowOk r := by
  unfold k_ae
  rw [LR.seq_go]
  have hk : (if (kindG r.1) = 2 then true else (if (kindG r.1) = 3 then true else decide ((kindG r.1) = 4))) = true ↔ (kindG r.1 = 2 ∨ kindG r.1 = 3 ∨ kindG r.1 = 4) := by
    by_cases h2 : kindG r.1 = 2 <;> by_cases h3 : kindG r.1 = 3 <;> simp [h2, h3]
  generalize (if (kindG r.1) = 2 then true else (if (kindG r.1) = 3 then true else decide ((kindG r.1) = 4))) = b at hk ⊢
  have hcf : (!(k_5d r.2 (fun z0 => k_ac z0))) = true ↔ ∀ n ∈ r.2, 1 ≤ n ∧ n ≤ 1048576 := by
    rw [Bool.not_eq_true', ← Bool.not_eq_true, containsF_int]
    constructor
    · intro q n hn
      refine (table_iff n).1 ?_
      cases e : k_87 n with
      | true => rfl
      | false => exact absurd ⟨n, hn, by unfold k_ac; rw [e]; rfl⟩ q
    · rintro q ⟨n, hn, e⟩
      unfold k_ac at e
      rw [(table_iff n).2 (q n hn)] at e; cases e
  constructor
  · intro q
    split at q
    · rename_i hb
      split at q
      · rename_i hl
        split at q
        · rename_i hr
          exact ⟨hk.1 hb, fun e => by rw [e] at hl; exact absurd hl (by decide), (rises_int_iff _).1 hr, hcf.1 q⟩
        · cases q
      · cases q
    · cases q
  · rintro ⟨h1, h2, h3, h4⟩
    have hl : (0 : Int) < (r.2.length : Int) := by
      have := List.length_pos_iff.2 h2; omega
    rw [if_pos (hk.2 h1), if_pos hl, if_pos ((rises_int_iff _).2 h3), hcf.2 h4]
def bareA (l : List Int) : List Int := l.filter (fun y => !decide (kindG y = 4))
theorem bare_eq (l : List Int) : k_bd l = bareA l := by
  unfold k_bd
  rw [LR.seq_go, delf_Id]; rfl
def inA (x : Ix) (n : Int) : List Int := (x.filter (fun r => decide (n ∈ r.2))).map (fun r => r.1)
theorem l4_iff (ids : List Int) : k_83 ids = false ↔ k_2e (bareA ids) = 0 ∧ k_44 (bareA ids) = ids := by
  unfold k_83
  simp only [LR.seq_go]
  rw [bare_eq]
  have hb : ∀ b : Bool, (if b = true then true else false) = b := fun b => by cases b <;> rfl
  rw [hb]
  by_cases h : k_2e (bareA ids) = 0
  · rw [if_neg (fun q => q h), decide_eq_false_iff_not, Decidable.not_not]
    exact ⟨fun e => ⟨h, e⟩, fun e => e.2⟩
  · rw [if_pos h]; exact ⟨fun q => (by cases q), fun q => absurd q.1 h⟩
theorem check_l1_go : ∀ (l : Ix) (f : Int → List Int), (∀ r ∈ l, RowOk r) → ∃ g, k_79 l f = .go g
  | [], f, _ => ⟨f, rfl⟩
  | r :: l, f, h => by
    rw [k_79, (row_iff r).2 (h r (List.mem_cons_self ..)), Bool.not_true, if_neg Bool.false_ne_true, LR.seq_go]
    exact check_l1_go l _ (fun q hq => h q (List.mem_cons_of_mem _ hq))
theorem check_l1_no : ∀ (l : Ix) (f : Int → List Int), (¬ ∀ r ∈ l, RowOk r) → k_79 l f = .ret 240
  | [], f, h => absurd (fun r hr => by cases hr) h
  | r :: l, f, h => by
    rw [k_79]
    cases e : k_ae r with
    | false => rw [Bool.not_false, if_pos rfl]
    | true =>
      rw [Bool.not_true, if_neg Bool.false_ne_true, LR.seq_go]
      refine check_l1_no l _ (fun q => h (fun z hz => ?_))
      rcases List.mem_cons.1 hz with rfl | hz
      · exact (row_iff z).1 e
      · exact q z hz
theorem filter_one : ∀ {l : List Int} (n : Int), l.Pairwise (· < ·) → l.filter (fun y => decide (y = n)) = if n ∈ l then [n] else []
  | [], n, _ => by simp
  | y :: l, n, h => by
    rw [List.pairwise_cons] at h
    rw [List.filter_cons, filter_one n h.2]
    by_cases e : y = n
    · subst e
      rw [if_pos (by simp), if_pos (List.mem_cons_self ..), if_neg (fun q => by have := h.1 y q; omega)]
    · rw [if_neg (by simpa using e)]
      by_cases q : n ∈ l
      · rw [if_pos q, if_pos (List.mem_cons_of_mem _ q)]
      · rw [if_neg q, if_neg (fun z => by rcases List.mem_cons.1 z with z | z; exact e z.symm; exact q z)]
theorem flat_inA (n : Int) : ∀ (x : Ix), (∀ r ∈ x, RowOk r) → x.flatMap (fun r => (r.2.filter (fun y => decide (y = n))).map (fun _ => r.1)) = inA x n
  | [], _ => rfl
  | r :: x, h => by
    have ih := flat_inA n x (fun q hq => h q (List.mem_cons_of_mem _ hq))
    rw [List.flatMap_cons, ih, filter_one n (h r (List.mem_cons_self ..)).up]
    unfold inA
    rw [List.filter_cons]
    by_cases e : n ∈ r.2
    · rw [if_pos e, if_pos (by simpa using e)]; rfl
    · rw [if_neg e, if_neg (by simpa using e)]; rfl
/-- An index that may be. -/
structure RightI (x : Ix) : Prop where
  up : (x.map Prod.fst).Pairwise (· < ·)
  rows : ∀ r ∈ x, RowOk r
  tabs : ∀ n, k_2e (bareA (inA x n)) = 0 ∧ k_44 (bareA (inA x n)) = inA x n
theorem inA_none {x : Ix} {n : Int} (h : ¬ n ∈ x.flatMap Prod.snd) : inA x n = [] := by
  unfold inA
  rw [List.map_eq_nil_iff, List.filter_eq_nil_iff]
  intro r hr q
  exact h (List.mem_flatMap.2 ⟨r, hr, of_decide_eq_true q⟩)
theorem check_iff (x : Ix) : (k_7c x = 0 ↔ RightI x) ∧ (k_7c x ≠ 0 → k_7c x = 240) := by
  unfold k_7c
  by_cases h1 : k_88 x (fun z0 z1 => k_2d z0 z1) = true
  rotate_left
  · rw [if_pos (by rw [Bool.not_eq_true', ← Bool.not_eq_true]; exact h1)]
    exact ⟨⟨fun q => (by cases q), fun q => absurd ((rises_row_iff x).2 q.up) h1⟩, fun _ => rfl⟩
  rw [h1, Bool.not_true, if_neg Bool.false_ne_true]
  by_cases h2 : ∀ r ∈ x, RowOk r
  rotate_left
  · rw [check_l1_no x _ h2, LR.on_ret]
    exact ⟨⟨fun q => (by cases q), fun q => absurd q.rows h2⟩, fun _ => rfl⟩
  obtain ⟨g, hg⟩ := check_l1_go x (fun _ => []) h2
  rw [hg, LR.on_go, LR.seq_go]
  have hgn : ∀ n, g n = inA x n := fun n => by rw [check_l1_at n x _ g hg, List.nil_append, flat_inA n x h2]
  have hany : (x.flatMap Prod.snd).any (fun n_ => k_83 (g n_)) = false ↔ ∀ n, k_2e (bareA (inA x n)) = 0 ∧ k_44 (bareA (inA x n)) = inA x n := by
    rw [List.any_eq_false]
    constructor
    · intro q n
      by_cases e : n ∈ x.flatMap Prod.snd
      · have := q n e
        rw [hgn n, Bool.not_eq_true] at this
        exact (l4_iff _).1 this
      · rw [inA_none e]
        exact (l4_iff []).1 (by kernel_rfl)
    · intro q n _
      rw [hgn n, Bool.not_eq_true]
      exact (l4_iff _).2 (q n)
  cases e : (x.flatMap Prod.snd).any (fun n_ => k_83 (g n_)) with
  | true =>
    rw [if_pos rfl]
    refine ⟨⟨fun q => (by cases q), fun q => ?_⟩, fun _ => rfl⟩
    rw [hany.2 q.tabs] at e; cases e
  | false =>
    rw [if_neg Bool.false_ne_true]
    exact ⟨⟨fun _ => ⟨(rises_row_iff x).1 h1, h2, hany.1 e⟩, fun _ => rfl⟩, fun q => absurd rfl q⟩
end Go.SX

set_option linter.unusedVariables false
set_option linter.unusedSimpArgs false
namespace Go.SX
open Go Go.Proofs

theorem getD_mem_or {α : Type} (l : List α) (i : Nat) (d : α) : l.getD i d ∈ l ∨ l.getD i d = d := by
  rw [List.getD_eq_getElem?_getD]
  cases h : l[i]? with
  | none => exact .inr rfl
  | some y => exact .inl (List.mem_of_getElem? h)
theorem bf_l1 (a : List (Int × List Int)) (x : Int × List Int) (c : Int × List Int → Int × List Int → Int) (hl : a.length ≤ 2000000) : ∀ (k m : Nat) (i j : Int), (j - i).toNat ≤ k → k < m → 0 ≤ i → i ≤ j → j ≤ (a.length : Int) → 0 ≤ (k_11 a x c m (i, j)).1 ∧ (k_11 a x c m (i, j)).1 ≤ (a.length : Int)
  | k, 0, i, j, _, h, _, _, _ => by omega
  | k, m + 1, i, j, h1, h2, h3, h4, h5 => by
    simp only [k_11]
    by_cases h : i < j
    · rw [if_pos h, midI h3 h (by omega)]
      cases k with
      | zero => omega
      | succ k =>
        split
        · exact bf_l1 a x c hl k m ((i + j) / 2 + 1) j (by omega) (by omega) (by omega) (by omega) h5
        · exact bf_l1 a x c hl k m i ((i + j) / 2) (by omega) (by omega) h3 (by omega) (by omega)
    · rw [if_neg h]; exact ⟨h3, by simp only; omega⟩
theorem bf_rng (a : List (Int × List Int)) (x : Int × List Int) (c : Int × List Int → Int × List Int → Int) (r : Int × Bool) (e : r = k_5 a x c) (hl : a.length ≤ 2000000) : 0 ≤ r.1 ∧ r.1 ≤ (a.length : Int) ∧ (r.2 = true → r.1 < (a.length : Int)) := by
  have h := bf_l1 a x c hl a.length (((a.length : Int) - 0).toNat + 1) 0 a.length (by omega) (by omega) (by omega) (by omega) (by omega)
  unfold k_5 at e
  simp only [LR.seq_go] at e
  rw [e]
  generalize k_11 a x c (((a.length : Int) - 0).toNat + 1) (0, (a.length : Int)) = q at h ⊢
  by_cases hq : q.1 < (a.length : Int)
  · rw [if_pos hq]
    exact ⟨h.1, h.2, fun _ => hq⟩
  · rw [if_neg hq]
    exact ⟨h.1, h.2, fun k => by cases k⟩
def k_a6 (a0 : Int) (a1 : Int) : Bool :=
  if (k_9a a0) = true then (if (!(k_9a a1)) = true then true else ((decide (a0 < a1)))) else ((decide (a0 < a1)))
set_option maxHeartbeats 3200000 in
theorem cmp_Less_int_c (H : Heap) (a0 : Int) (a1 : Int) : Fv Tryz.prog (fnv 67) [.int .i64 a0, .int .i64 a1] H (.bool (k_a6 a0 a1)) := by
 refine Fc.of_body (N := 17) Tryz.func67 rfl kA rfl rfl ?_
 intro w0
 refine sR ?_
 refine R.asE rfl cA ?_
 refine nN ?_
 refine sR ?_
 refine R.mvE rfl cA ?_
 refine R.callv rfl rfl rfl (cmp_isNaN_int_c _ (a0)) ?_
 refine R.mvE rfl cA ?_
 refine TL.gsplit 7 rfl (fun g7 => ?_) (fun g7 => ?_)
 ·refine R.mvE rfl cA ?_
  refine R.callv rfl rfl rfl (cmp_isNaN_int_c _ (a1)) ?_
  refine R.not rfl rfl ?_
  refine R.pkTE rfl rfl cA ?_
  refine R.mvE rfl cA ?_
  refine TL.gsplit 12 rfl (fun g12 => ?_) (fun g12 => ?_)
  ·refine TL.off rfl rfl rfl ?_
   refine TL.off rfl rfl rfl ?_
   refine TL.off rfl rfl rfl ?_
   refine R.pkTE rfl rfl cA ?_
   refine R.asE rfl cA ?_
   refine nN ?_
   refine T.has Has.nil ?_
   refine T.ret ?_
   have hM : k_a6 a0 a1 = true := by rw [k_a6, if_t g7, if_t g12]
   exact fin1L (v := .bool true) [] rfl rfl (List.Sublist.refl _) ⟨rfl, by first | rw [hM] | rfl⟩
  refine R.mvE rfl cA ?_
  refine R.mvE rfl cA ?_
  refine R.lss rfl rfl rfl ?_
  refine R.pkFE rfl rfl cA ?_
  refine R.asE rfl cA ?_
  refine nN ?_
  refine T.has Has.nil ?_
  refine T.ret ?_
  have hM : k_a6 a0 a1 = (decide (a0 < a1)) := by rw [k_a6, if_t g7, if_f g12]
  exact fin1L (v := .bool (decide (a0 < a1))) [] rfl rfl (List.Sublist.refl _) ⟨rfl, by first | rw [hM] | rfl⟩
 refine TL.off rfl rfl rfl ?_
 refine TL.off rfl rfl rfl ?_
 refine TL.off rfl rfl rfl ?_
 refine R.pkFE rfl rfl cA ?_
 refine R.mvE rfl cA ?_
 refine R.mvE rfl cA ?_
 refine R.mvE rfl cA ?_
 refine R.lss rfl rfl rfl ?_
 refine R.pkFE rfl rfl cA ?_
 refine R.asE rfl cA ?_
 refine nN ?_
 refine T.has Has.nil ?_
 refine T.ret ?_
 have hM : k_a6 a0 a1 = (decide (a0 < a1)) := by rw [k_a6, if_f g7]
 exact fin1L (v := .bool (decide (a0 < a1))) [] rfl rfl (List.Sublist.refl _) ⟨rfl, by first | rw [hM] | rfl⟩
def k_a3 (a0 : Int) : Bool :=
  (decide (a0 ≠ a0))
set_option maxHeartbeats 3200000 in
theorem slices_isNaN_int_c (H : Heap) (a0 : Int) : Fv Tryz.prog (fnv 68) [.int .i64 a0] H (.bool (k_a3 a0)) := by
 refine Fc.of_body (N := 6) Tryz.func68 rfl kA rfl rfl ?_
 intro w0
 refine sR ?_
 refine R.asE rfl cA ?_
 refine nN ?_
 refine sR ?_
 refine R.mvE rfl cA ?_
 refine R.mvE rfl cA ?_
 refine R.neq rfl rfl rfl ?_
 refine R.asE rfl cA ?_
 refine nN ?_
 refine T.has Has.nil ?_
 refine T.ret ?_
 have hM : k_a3 a0 = (decide (a0 ≠ a0)) := by rw [k_a3]
 exact fin1L (v := .bool (decide (a0 ≠ a0))) [] rfl rfl (List.Sublist.refl _) ⟨rfl, by first | rw [hM] | rfl⟩
def k_22 (a0 : List Int) (a1 : Int) : Nat → (Int × Int) → Int × Int
  | 0, _ => default
  | ml1 + 1, sl1 => if sl1.1 < sl1.2 then (if (k_a6 (a0.getD (((IntKind.i64.wrap (bshr .u64 (IntKind.u64.wrap (sl1.1 + sl1.2)) 1))).toNat) (0 : Int)) a1) = true then (k_22 a0 a1 ml1 ((((IntKind.i64.wrap (bshr .u64 (IntKind.u64.wrap (sl1.1 + sl1.2)) 1)) + 1), sl1.2))) else (k_22 a0 a1 ml1 ((sl1.1, (IntKind.i64.wrap (bshr .u64 (IntKind.u64.wrap (sl1.1 + sl1.2)) 1)))))) else ((sl1.1, sl1.2))
def k_1d (a0 : List Int) (a1 : Int) : Int × Bool :=
  LR.seq (k_22 a0 a1 ((((a0.length : Int)) - 0).toNat + 1) ((0, (a0.length : Int)))) (fun ol1 => if ol1.1 < (a0.length : Int) then (if (a0.getD ol1.1.toNat (0 : Int)) = a1 then ((ol1.1, true)) else (if (k_a3 (a0.getD ol1.1.toNat (0 : Int))) = true then ((ol1.1, (k_a3 a1))) else ((ol1.1, false)))) else ((ol1.1, false)))
set_option maxHeartbeats 3200000 in
theorem slices_BinarySearch_int_c (H : Heap) (va0 : Value) (a0 : List Int) (ha0 : RdS (intE .i64) H va0 a0) (a1 : Int) (hl : a0.length ≤ 2000000) : Fv Tryz.prog (fnv 37) [va0, .int .i64 a1] H (.tuple #[.int .i64 (k_1d a0 a1).1, .bool (k_1d a0 a1).2]) := by
 refine Fc.of_body (N := 54) Tryz.func37 rfl kA rfl rfl ?_
 intro w0
 obtain ⟨Aa0, ca0, rfl, hca0, hda0, ha0⟩ := ha0.shape
 refine sR ?_
 refine R.asE rfl cA ?_
 refine R.asE rfl cA ?_
 refine nN ?_
 refine sR ?_
 refine R.mvE rfl cA ?_
 refine R.len Tryz.underlying25 rfl rfl ?_
 refine R.asE rfl cA ?_
 refine nN ?_
 refine sR ?_
 refine R.mvE rfl cA ?_
 refine R.asE rfl cA ?_
 refine R.asE rfl cA ?_
 refine nN ?_
 refine T.seq ?_
 refine T.block ?_
 refine T.loop (ι := Nat × Int × Int) (fun ⟨kl1, n7l1, n8l1⟩ H' L' ds' => (n8l1 - n7l1).toNat < kl1 ∧ Has L' [] ∧ 0 ≤ n7l1 ∧ n7l1 ≤ n8l1 ∧ n8l1 ≤ (a0.length : Int) ∧ k_22 a0 a1 kl1 ((n7l1, n8l1)) = k_22 a0 a1 ((((a0.length : Int)) - 0).toNat + 1) ((0, (a0.length : Int)))) (fun ⟨kl1, n7l1, n8l1⟩ => [(0, .slice Aa0 a0.length ca0), (1, .int .i64 a1), (6, .int .i64 (a0.length : Int)), (7, .int .i64 n7l1), (8, .int .i64 n8l1)]) (fun ⟨kl1, n7l1, n8l1⟩ => kl1) (((((a0.length : Int)) - 0).toNat + 1), 0, (a0.length : Int)) ?_ ?_ ?_
 ·exact ⟨oA, Has.nil, bA, bA, bA, (by rfl)⟩
 ·exact ⟨rfl, rfl, rfl, rfl, rfl, trivial⟩
 intro ⟨kl1, n7l1, n8l1⟩ σ_l1 H_l1 L_l1 ds_l1 s_l1 hI_l1
 obtain ⟨hkl1, hI_l1⟩ := hI_l1
 obtain ⟨ml1, rfl⟩ : ∃ m, kl1 = m + 1 := ⟨kl1 - 1, by omega⟩
 obtain ⟨hLl1, hBl1_0, hBl1_1, hBl1_2, hQl1⟩ := hI_l1
 refine T.has hLl1 ?_
 refine T.seq ?_
 refine sR ?_
 refine R.mvE rfl cA ?_
 refine R.mvE rfl cA ?_
 refine R.lss rfl rfl rfl ?_
 refine nN ?_
 refine T.condD rfl (fun c15 => ?_) (fun c15 => ?_)
 ·refine T.set 15 (.bool true) (congrArg Value.bool (decide_eq_true c15)) ?_
  refine T.skip (Post.thnN ?_)
  refine T.block ?_
  refine sR ?_
  refine R.mvE rfl cA ?_
  refine R.mvE rfl cA ?_
  refine R.addI rfl rfl rfl oA ?_
  refine R.conv Tryz.underlying3 Tryz.underlying86 rfl rfl ?_
  refine R.shr rfl rfl rfl oA ?_
  refine R.conv Tryz.underlying86 Tryz.underlying3 rfl rfl ?_
  refine R.asE rfl cA ?_
  refine nN ?_
  refine T.seq ?_
  have hmid := midI (i := n7l1) (j := n8l1) oA oA oA
  refine T.region ?_
  refine R.mvE rfl cA ?_
  refine R.mvE rfl cA ?_
  have hl24 : ((IntKind.i64.wrap (bshr .u64 (IntKind.u64.wrap (n7l1 + n8l1)) 1))).toNat < a0.length := bA
  obtain ⟨y24, e24, h24⟩ : ∃ y, y = (a0.getD (((IntKind.i64.wrap (bshr .u64 (IntKind.u64.wrap (n7l1 + n8l1)) 1))).toNat) (0 : Int)) ∧ a0[((IntKind.i64.wrap (bshr .u64 (IntKind.u64.wrap (n7l1 + n8l1)) 1))).toNat]? = some y := ⟨_, rfl, k_6 (by first | exact hl24 | simpa using hl24 | (simp only [List.length_set]; omega) | omega | (rw [(k_1 _).length_eq]; exact hl24))⟩
  obtain ⟨b24, o24, i24, k24⟩ := RdS.elem (ha0.mono s_l1) h24
  obtain ⟨l24, g24, k24⟩ := k24
  obtain rfl : l24 = [.int .i64 y24] := g24
  refine R.ixp Tryz.underlying25 Tryz.sizeOf3 rfl rfl rfl bA i24 ?_
  refine R.ldC Tryz.isAgg3 rfl rfl (k24 0 _ rfl) ?_
  refine R.mvE rfl cA ?_
  refine R.callv rfl rfl rfl (cmp_Less_int_c _ (y24) (a1)) ?_
  refine nN ?_
  refine T.cond rfl (fun c27 => ?_) (fun c27 => ?_)
  ·refine T.set 27 (.bool true) (congrArg Value.bool c27) ?_
   refine T.region ?_
   refine R.mvE rfl cA ?_
   refine R.addI rfl rfl rfl oA ?_
   refine R.asE rfl cA ?_
   refine TL.nil (Post.blkN ?_)
   refine id (Post.thnN ?_)
   exact ⟨(ml1, ((IntKind.i64.wrap (bshr .u64 (IntKind.u64.wrap (n7l1 + n8l1)) 1)) + 1), n8l1), s_l1, ⟨(by first | omega | (simp; omega) | (simp at *; omega)), Has.nil, bA, bA, bA, (by subst e24; rw [← hQl1, k_22]; rw [if_pos c15, if_t c27])⟩, by show ml1 < ml1 + 1; omega, rfl, rfl, rfl, rfl, rfl, trivial⟩
  refine T.set 27 (.bool false) (congrArg Value.bool c27) ?_
  refine T.region ?_
  refine R.mvE rfl cA ?_
  refine R.asE rfl cA ?_
  refine TL.nil (Post.blkN ?_)
  refine id (Post.thnN ?_)
  exact ⟨(ml1, n7l1, (IntKind.i64.wrap (bshr .u64 (IntKind.u64.wrap (n7l1 + n8l1)) 1))), s_l1, ⟨(by first | omega | (simp; omega) | (simp at *; omega)), Has.nil, bA, bA, bA, (by subst e24; rw [← hQl1, k_22]; rw [if_pos c15, if_f c27])⟩, by show ml1 < ml1 + 1; omega, rfl, rfl, rfl, rfl, rfl, trivial⟩
 refine T.set 15 (.bool false) (congrArg Value.bool (decide_eq_false c15)) ?_
 refine T.exit (Post.thnE (Post.thnE (Post.blkX ?_)))
 have hEl1 : k_22 a0 a1 ((((a0.length : Int)) - 0).toNat + 1) ((0, (a0.length : Int))) = (n7l1, n8l1) := (by rw [← hQl1, k_22]; rw [if_neg c15])
 refine id (Post.thnN ?_)
 refine sR ?_
 refine R.mvE rfl cA ?_
 refine R.mvE rfl cA ?_
 refine R.mvE rfl cA ?_
 refine R.lss rfl rfl rfl ?_
 refine R.mvE rfl cA ?_
 refine TL.gsplitD 35 rfl (fun g35 => ?_) (fun g35 => ?_)
 ·refine R.mvE rfl cA ?_
  refine R.mvE rfl cA ?_
  have hl38 : n7l1.toNat < a0.length := bA
  obtain ⟨y38, e38, h38⟩ : ∃ y, y = (a0.getD n7l1.toNat (0 : Int)) ∧ a0[n7l1.toNat]? = some y := ⟨_, rfl, k_6 (by first | exact hl38 | simpa using hl38 | (simp only [List.length_set]; omega) | omega | (rw [(k_1 _).length_eq]; exact hl38))⟩
  obtain ⟨b38, o38, i38, k38⟩ := RdS.elem (ha0.mono s_l1) h38
  obtain ⟨l38, g38, k38⟩ := k38
  obtain rfl : l38 = [.int .i64 y38] := g38
  refine R.ixp Tryz.underlying25 Tryz.sizeOf3 rfl rfl rfl bA i38 ?_
  refine R.ldC Tryz.isAgg3 rfl rfl (k38 0 _ rfl) ?_
  refine R.mvE rfl cA ?_
  refine R.eql rfl rfl rfl ?_
  refine R.mvE rfl cA ?_
  refine TL.gsplitD 42 rfl (fun g42 => ?_) (fun g42 => ?_)
  ·refine TL.off rfl rfl rfl ?_
   refine TL.off rfl rfl rfl ?_
   refine TL.off rfl rfl rfl ?_
   refine TL.off rfl rfl rfl ?_
   refine TL.off rfl rfl rfl ?_
   refine TL.off rfl rfl rfl ?_
   refine TL.offU rfl rfl ?_
   refine TL.offU rfl rfl ?_
   refine TL.off rfl rfl rfl ?_
   refine R.pkTE rfl rfl cA ?_
   refine R.pkTE rfl rfl cA ?_
   refine R.asE rfl cA ?_
   refine R.asE rfl cA ?_
   refine nN ?_
   refine T.has Has.nil ?_
   refine T.ret ?_
   have hM : k_1d a0 a1 = (n7l1, true) := by subst e38; rw [k_1d, hEl1, LR.seq_go, if_pos g35, if_pos g42]
   exact fin2L (v := .int .i64 n7l1) (v' := .bool true) [] rfl rfl rfl (List.Sublist.refl _) ⟨rfl, by first | rw [hM] | rfl⟩
  refine R.mvE rfl cA ?_
  refine R.mvE rfl cA ?_
  have hl45 : n7l1.toNat < a0.length := bA
  obtain ⟨y45, e45, h45⟩ : ∃ y, y = (a0.getD n7l1.toNat (0 : Int)) ∧ a0[n7l1.toNat]? = some y := ⟨_, rfl, k_6 (by first | exact hl45 | simpa using hl45 | (simp only [List.length_set]; omega) | omega | (rw [(k_1 _).length_eq]; exact hl45))⟩
  obtain ⟨b45, o45, i45, k45⟩ := RdS.elem (ha0.mono s_l1) h45
  obtain ⟨l45, g45, k45⟩ := k45
  obtain rfl : l45 = [.int .i64 y45] := g45
  refine R.ixp Tryz.underlying25 Tryz.sizeOf3 rfl rfl rfl bA i45 ?_
  refine R.ldC Tryz.isAgg3 rfl rfl (k45 0 _ rfl) ?_
  refine R.callv rfl rfl rfl (slices_isNaN_int_c _ (y45)) ?_
  refine R.mvE rfl cA ?_
  refine TL.gsplit 48 rfl (fun g48 => ?_) (fun g48 => ?_)
  ·refine R.mvE rfl cA ?_
   refine R.callv rfl rfl rfl (slices_isNaN_int_c _ (a1)) ?_
   refine R.pkTE rfl rfl cA ?_
   refine R.pkFE rfl rfl cA ?_
   refine R.pkTE rfl rfl cA ?_
   refine R.asE rfl cA ?_
   refine R.asE rfl cA ?_
   refine nN ?_
   refine T.has Has.nil ?_
   refine T.ret ?_
   have hM : k_1d a0 a1 = (n7l1, (k_a3 a1)) := by subst e45; subst e38; rw [k_1d, hEl1, LR.seq_go, if_pos g35, if_neg g42, if_t g48]
   exact fin2L (v := .int .i64 n7l1) (v' := .bool ((k_a3 a1))) [] rfl rfl rfl (List.Sublist.refl _) ⟨rfl, by first | rw [hM] | rfl⟩
  refine TL.off rfl rfl rfl ?_
  refine TL.off rfl rfl rfl ?_
  refine R.pkFE rfl rfl cA ?_
  refine R.pkFE rfl rfl cA ?_
  refine R.pkTE rfl rfl cA ?_
  refine R.asE rfl cA ?_
  refine R.asE rfl cA ?_
  refine nN ?_
  refine T.has Has.nil ?_
  refine T.ret ?_
  have hM : k_1d a0 a1 = (n7l1, false) := by subst e45; subst e38; rw [k_1d, hEl1, LR.seq_go, if_pos g35, if_neg g42, if_f g48]
  exact fin2L (v := .int .i64 n7l1) (v' := .bool false) [] rfl rfl rfl (List.Sublist.refl _) ⟨rfl, by first | rw [hM] | rfl⟩
 refine TL.off rfl rfl rfl ?_
 refine TL.off rfl rfl rfl ?_
 refine TL.off rfl rfl rfl ?_
 refine TL.off rfl rfl rfl ?_
 refine TL.off rfl rfl rfl ?_
 refine TL.off rfl rfl rfl ?_
 refine TL.off rfl rfl rfl ?_
 refine TL.offU rfl rfl ?_
 refine TL.offU rfl rfl ?_
 refine TL.offU rfl rfl ?_
 refine TL.offU rfl rfl ?_
 refine TL.offU rfl rfl ?_
 refine TL.offU rfl rfl ?_
 refine TL.offU rfl rfl ?_
 refine TL.offU rfl rfl ?_
 refine TL.offU rfl rfl ?_
 refine TL.off rfl rfl rfl ?_
 refine R.pkFE rfl rfl cA ?_
 refine R.asE rfl cA ?_
 refine R.asE rfl cA ?_
 refine nN ?_
 refine T.has Has.nil ?_
 refine T.ret ?_
 have hM : k_1d a0 a1 = (n7l1, false) := by rw [k_1d, hEl1, LR.seq_go, if_neg g35]
 exact fin2L (v := .int .i64 n7l1) (v' := .bool false) [] rfl rfl rfl (List.Sublist.refl _) ⟨rfl, by first | rw [hM] | rfl⟩
theorem bsi_l1 (a : List Int) (x : Int) (hl : a.length ≤ 2000000) : ∀ (k m : Nat) (i j : Int), (j - i).toNat ≤ k → k < m → 0 ≤ i → i ≤ j → j ≤ (a.length : Int) → 0 ≤ (k_22 a x m (i, j)).1 ∧ (k_22 a x m (i, j)).1 ≤ (a.length : Int)
  | k, 0, i, j, _, h, _, _, _ => by omega
  | k, m + 1, i, j, h1, h2, h3, h4, h5 => by
    simp only [k_22, LR.seq_go]
    by_cases h : i < j
    · rw [if_pos h, midI h3 h (by omega)]
      cases k with
      | zero => omega
      | succ k =>
        split
        · exact bsi_l1 a x hl k m ((i + j) / 2 + 1) j (by omega) (by omega) (by omega) (by omega) h5
        · exact bsi_l1 a x hl k m i ((i + j) / 2) (by omega) (by omega) h3 (by omega) (by omega)
    · rw [if_neg h]; exact ⟨h3, by simp only; omega⟩
theorem bsi_rng (a : List Int) (x : Int) (r : Int × Bool) (e : r = k_1d a x) (hl : a.length ≤ 2000000) : 0 ≤ r.1 ∧ r.1 ≤ (a.length : Int) ∧ (r.2 = true → r.1 < (a.length : Int)) := by
  have h := bsi_l1 a x hl a.length (((a.length : Int) - 0).toNat + 1) 0 a.length (by omega) (by omega) (by omega) (by omega) (by omega)
  unfold k_1d at e
  simp only [LR.seq_go] at e
  rw [e]
  generalize k_22 a x (((a.length : Int) - 0).toNat + 1) (0, (a.length : Int)) = q at h ⊢
  by_cases hq : q.1 < (a.length : Int)
  · rw [if_pos hq]
    split
    · exact ⟨h.1, h.2, fun _ => hq⟩
    · split
      · exact ⟨h.1, h.2, fun _ => hq⟩
      · exact ⟨h.1, h.2, fun _ => hq⟩
  · rw [if_neg hq]
    exact ⟨h.1, h.2, fun k => by cases k⟩
def k_97 (a0 : (List (Int × (List Int)))) (a1 : Int) : (List Int) :=
  if ((k_7c a0) : Int) ≠ 0 then [] else (LR.seq (k_5 a0 (((a1, []) : Int × (List Int))) ((fun z0 z1 => k_2d z0 z1))) (fun r15 => if (!r15.2) = true then [] else (a0.getD r15.1.toNat (((0, []) : Int × (List Int)) : Int × (List Int))).2))
set_option maxHeartbeats 3200000 in
theorem index_Find_c (H : Heap) (a0 : (List (Int × (List Int)))) (va0_0 : Value) (ha0_0 : RdS listedE H va0_0 a0) (a1 : Int) (hn : a0.length ≤ 1000) (hr : ∀ r ∈ a0, r.2.length ≤ 1000) : Fc Tryz.prog (fnv 24) [.agg #[va0_0], .int .u64 a1] H [] (fun v' H' L' => ∃ u0_0 c0_0, v' = u0_0 ∧ L' = [c0_0] ∧ OwnS (intE .i64) 3 H' u0_0 (k_97 a0 a1) c0_0) := by
 refine Fc.of_body (N := 27) Tryz.func24 rfl kA rfl rfl ?_
 intro w0
 obtain ⟨Aa0_0, ca0_0, rfl, hca0_0, hda0_0, ha0_0⟩ := ha0_0.shape
 refine sR ?_
 refine R.box rfl cA ?_
 intro b2
 refine R.asE rfl cA ?_
 refine TL.shut .hd ?_
 intro Hb2_1 sb2_1 qb2_1
 have hb2_1 : Hb2_1 b2 = some (.cells #[.slice Aa0_0 a0.length ca0_0] 24) := shut1 qb2_1
 refine nN ?_
 refine T.seq ?_
 refine sR ?_
 refine R.ldXH (cs := [.slice Aa0_0 a0.length ca0_0]) (l := [.slice Aa0_0 a0.length ca0_0]) Tryz.isAgg24 Tryz.sizeOf24 rfl rfl hb2_1 rfl rfl ?_
 refine R.callv rfl rfl rfl (index_Check_c _ a0 _ (ha0_0.mono sb2_1) (by first | omega | assumption | (simp; done) | (simp; omega) | (simp at *; omega)) (by first | assumption | exact k_c5 (by assumption) oA | (intro r h; simp at h; done))) ?_
 refine R.neq rfl rfl rfl ?_
 refine nN ?_
 refine T.condD rfl (fun c9 => ?_) (fun c9 => ?_)
 ·refine T.set 9 (.bool true) (congrArg Value.bool (decide_eq_true c9)) ?_
  refine sR ?_
  refine R.asE rfl cA ?_
  refine nN ?_
  refine T.has (Has.none Has.nil) ?_
  refine T.ret (Post.thnR ?_)
  have hM : k_97 a0 a1 = [] := by rw [k_97, if_pos c9]
  exact fin1L (v := .slice none 0 0) [[]] rfl rfl (List.Sublist.refl _) ⟨.slice none 0 0, [], by first | rw [hM] | rfl, rfl, by rw [hM]; exact OwnS.nil⟩
 refine T.set 9 (.bool false) (congrArg Value.bool (decide_eq_false c9)) ?_
 refine T.skip (Post.thnN ?_)
 refine sR ?_
 refine R.fldA Tryz.underlying24 rfl Tryz.sizeOf22 (by decide) rfl rfl ?_
 refine R.ldH Tryz.isAgg22 rfl rfl hb2_1 rfl ?_
 refine R.mvE rfl cA ?_
 refine R.bld (cs := [.int .u64 a1, .slice none 0 0]) rfl (fun _ => by kernel_rfl) ?_
 obtain ⟨r15, er15⟩ : ∃ r, r = (k_5 a0 (((a1, []) : Int × (List Int))) ((fun z0 z1 => k_2d z0 z1))) := ⟨_, rfl⟩
 refine R.callv (v := .tuple #[.int .i64 r15.1, .bool r15.2]) rfl rfl rfl (by rw [er15]; exact k_b7 _ _ a0 (ha0_0.mono sb2_1) (((a1, []) : Int × (List Int))) _ RdS.nil _ (fun z0 z1 => k_2d z0 z1) (fun H2 h2 z0 vz0_1 hz0_1 z1 vz1_1 hz1_1 => index_compare_c H2 z0 vz0_1 hz0_1 z1 vz1_1 hz1_1) rfl bA) ?_
 have tb15 := bf_rng _ _ _ _ er15 (by first | omega | simp)
 refine R.mvE rfl cA ?_
 refine R.ext rfl rfl rfl ?_
 refine R.ext rfl rfl rfl ?_
 refine R.asE rfl cA ?_
 refine R.asE rfl cA ?_
 refine nN ?_
 refine T.seq ?_
 refine sR ?_
 refine R.mvE rfl cA ?_
 refine R.not rfl rfl ?_
 refine nN ?_
 refine T.cond rfl (fun c19 => ?_) (fun c19 => ?_)
 ·refine T.set 19 (.bool true) (congrArg Value.bool c19) ?_
  refine sR ?_
  refine R.asE rfl cA ?_
  refine nN ?_
  refine T.has (Has.none Has.nil) ?_
  refine T.ret (Post.thnR ?_)
  have hM : k_97 a0 a1 = [] := by subst er15; rw [k_97, if_neg c9, LR.seq_go, if_t c19]
  exact fin1L (v := .slice none 0 0) [[]] rfl rfl (List.Sublist.refl _) ⟨.slice none 0 0, [], by first | rw [hM] | rfl, rfl, by rw [hM]; exact OwnS.nil⟩
 refine T.set 19 (.bool false) (congrArg Value.bool c19) ?_
 refine T.skip (Post.thnN ?_)
 refine T.seq ?_
 have tq := tb15.2.2 (by simpa using c19)
 refine T.region ?_
 refine R.fldA Tryz.underlying24 rfl Tryz.sizeOf22 (by decide) rfl rfl ?_
 refine R.ldH Tryz.isAgg22 rfl rfl hb2_1 rfl ?_
 refine R.mvE rfl cA ?_
 have hl23 : r15.1.toNat < a0.length := bA
 obtain ⟨y23, e23, h23⟩ : ∃ y, y = (a0.getD r15.1.toNat (((0, []) : Int × (List Int)) : Int × (List Int))) ∧ a0[r15.1.toNat]? = some y := ⟨_, rfl, k_6 (by first | exact hl23 | simpa using hl23 | (simp only [List.length_set]; omega) | omega | (rw [(k_1 _).length_eq]; exact hl23))⟩
 obtain ⟨b23, o23, i23, k23⟩ := RdS.elem (ha0_0.mono sb2_1) h23
 obtain ⟨l23, g23, k23⟩ := k23
 obtain ⟨z23_1, rfl, r23_1⟩ := g23
 obtain ⟨A23_1, p23_1, rfl, m23_1, n23_1, r23_1⟩ := r23_1.shape
 have tr23 := hr y23 (List.mem_of_getElem? h23)
 refine R.ixp Tryz.underlying22 Tryz.sizeOf45 rfl rfl rfl bA i23 ?_
 refine R.fldA Tryz.underlying45 rfl Tryz.sizeOf25 (by decide) rfl rfl ?_
 refine R.ldC Tryz.isAgg25 rfl rfl (k23 1 _ rfl) ?_
 refine TL.call [] rfl rfl rfl (clone25_c _ _ y23.2 r23_1 bA) ?_
 intro v26 H26 L26 s26 q26
 obtain ⟨c26, rfl, w26⟩ := q26
 obtain ⟨x26, e26⟩ : ∃ x, x = y23.2 := ⟨_, rfl⟩
 rw [← e26] at w26
 obtain ⟨A26, p26, rfl, m26, n26⟩ := OwnS.shape w26
 have t26 : x26.length = y23.2.length := by rw [e26]
 refine R.asE rfl cA ?_
 refine nN ?_
 refine T.has (Has.cons .hd Has.nil) ?_
 refine T.ret ?_
 have hM : k_97 a0 a1 = x26 := by subst e26; subst e23; subst er15; rw [k_97, if_neg c9, LR.seq_go, if_f c19]
 exact fin1L (v := .slice A26 x26.length p26) [c26] rfl rfl (List.Sublist.refl _) ⟨.slice A26 x26.length p26, c26, by first | rw [hM] | rfl, rfl, by rw [hM]; exact w26⟩
def k_b6 (a0 : (List (Int × (List Int)))) (a1 : Int) : (List Int) :=
  if ((k_7c a0) : Int) ≠ 0 then [] else (LR.seq (k_b9 a0 a1) (fun r10 => LR.seq (k_bd r10) (fun r11 => r11)))
set_option maxHeartbeats 3200000 in
theorem index_Type_c (H : Heap) (a0 : (List (Int × (List Int)))) (va0_0 : Value) (ha0_0 : RdS listedE H va0_0 a0) (a1 : Int) (hn : a0.length ≤ 1000) (hr : ∀ r ∈ a0, r.2.length ≤ 1000) : Fc Tryz.prog (fnv 25) [.agg #[va0_0], .int .i64 a1] H [] (fun v' H' L' => ∃ u0_0 c0_0, v' = u0_0 ∧ L' = [c0_0] ∧ OwnS (intE .u64) 43 H' u0_0 (k_b6 a0 a1) c0_0) := by
 refine Fc.of_body (N := 12) Tryz.func25 rfl kA rfl rfl ?_
 intro w0
 obtain ⟨Aa0_0, ca0_0, rfl, hca0_0, hda0_0, ha0_0⟩ := ha0_0.shape
 refine sR ?_
 refine R.box rfl cA ?_
 intro b2
 refine R.asE rfl cA ?_
 refine TL.shut .hd ?_
 intro Hb2_1 sb2_1 qb2_1
 have hb2_1 : Hb2_1 b2 = some (.cells #[.slice Aa0_0 a0.length ca0_0] 24) := shut1 qb2_1
 refine nN ?_
 refine T.seq ?_
 refine sR ?_
 refine R.ldXH (cs := [.slice Aa0_0 a0.length ca0_0]) (l := [.slice Aa0_0 a0.length ca0_0]) Tryz.isAgg24 Tryz.sizeOf24 rfl rfl hb2_1 rfl rfl ?_
 refine R.callv rfl rfl rfl (index_Check_c _ a0 _ (ha0_0.mono sb2_1) (by first | omega | assumption | (simp; done) | (simp; omega) | (simp at *; omega)) (by first | assumption | exact k_c5 (by assumption) oA | (intro r h; simp at h; done))) ?_
 refine R.neq rfl rfl rfl ?_
 refine nN ?_
 refine T.condD rfl (fun c7 => ?_) (fun c7 => ?_)
 ·refine T.set 7 (.bool true) (congrArg Value.bool (decide_eq_true c7)) ?_
  refine sR ?_
  refine R.asE rfl cA ?_
  refine nN ?_
  refine T.has (Has.none Has.nil) ?_
  refine T.ret (Post.thnR ?_)
  have hM : k_b6 a0 a1 = [] := by rw [k_b6, if_pos c7]
  exact fin1L (v := .slice none 0 0) [[]] rfl rfl (List.Sublist.refl _) ⟨.slice none 0 0, [], by first | rw [hM] | rfl, rfl, by rw [hM]; exact OwnS.nil⟩
 refine T.set 7 (.bool false) (congrArg Value.bool (decide_eq_false c7)) ?_
 refine T.skip (Post.thnN ?_)
 refine sR ?_
 refine R.ldXH (cs := [.slice Aa0_0 a0.length ca0_0]) (l := [.slice Aa0_0 a0.length ca0_0]) Tryz.isAgg24 Tryz.sizeOf24 rfl rfl hb2_1 rfl rfl ?_
 refine R.mvE rfl cA ?_
 obtain ⟨r10, er10⟩ : ∃ r, r = (k_b9 a0 a1) := ⟨_, rfl⟩
 refine TL.call [] rfl rfl rfl (index_in_c _ a0 _ (ha0_0.mono sb2_1) (a1) bA) ?_
 intro v10 H10 L10 s10 q10
 rw [← er10] at q10
 obtain ⟨u10_0_0, c10_0_0, rfl, rfl, w10_0_0⟩ := q10
 obtain ⟨A10_0_0, p10_0_0, rfl, m10_0_0, n10_0_0⟩ := OwnS.shape w10_0_0
 have ti10 := in_len _ _ _ er10
 refine TL.shut .hd ?_
 intro HF10_0_0_2 sF10_0_0_2 qF10_0_0_2
 have fF10_0_0_2 := OwnS.read w10_0_0 sF10_0_0_2 qF10_0_0_2
 obtain ⟨r11, er11⟩ : ∃ r, r = (k_bd r10) := ⟨_, rfl⟩
 refine TL.call [] rfl rfl rfl (index_bare_c _ _ r10 fF10_0_0_2 bA) ?_
 intro v11 H11 L11 s11 q11
 rw [← er11] at q11
 obtain ⟨u11_0_0, c11_0_0, rfl, rfl, w11_0_0⟩ := q11
 obtain ⟨A11_0_0, p11_0_0, rfl, m11_0_0, n11_0_0⟩ := OwnS.shape w11_0_0
 refine R.asE rfl cA ?_
 refine nN ?_
 refine T.has (Has.cons .hd Has.nil) ?_
 refine T.ret ?_
 have hM : k_b6 a0 a1 = r11 := by subst er11; subst er10; rw [k_b6, if_neg c7, LR.seq_go, LR.seq_go]
 exact fin1L (v := .slice A11_0_0 r11.length p11_0_0) [c11_0_0] rfl rfl (List.Sublist.refl _) ⟨.slice A11_0_0 r11.length p11_0_0, c11_0_0, by first | rw [hM] | rfl, rfl, by rw [hM]; exact w11_0_0⟩
end Go.SX

set_option linter.unusedVariables false
set_option linter.unusedSimpArgs false
namespace Go.SX
open Go
def setl : Array Value → Nat → List Value → Array Value
  | cs, _, [] => cs
  | cs, o, v :: r => setl (cs.setIfInBounds o v) (o + 1) r
theorem setl_size : ∀ (vs : List Value) (o : Nat) (cs : Array Value), (setl cs o vs).size = cs.size
  | [], _, _ => rfl
  | v :: r, o, cs => by rw [setl, setl_size r, Array.size_setIfInBounds]
theorem setl_out : ∀ (vs : List Value) (o : Nat) (cs : Array Value) (k : Nat), (k < o ∨ o + vs.length ≤ k) → (setl cs o vs)[k]? = cs[k]?
  | [], _, _, _, _ => rfl
  | v :: r, o, cs, k, h => by
    rw [List.length_cons] at h
    rw [setl, setl_out r (o + 1) _ k (by omega), Array.getElem?_setIfInBounds_ne (by omega)]
theorem setl_in : ∀ (vs : List Value) (o : Nat) (cs : Array Value) (j : Nat), o + j < cs.size → j < vs.length → (setl cs o vs)[o + j]? = vs[j]?
  | [], _, _, _, _, h => by simp at h
  | v :: r, o, cs, 0, h, _ => by
    rw [setl, setl_out r (o + 1) _ (o + 0) (by omega)]
    simp only [Nat.add_zero] at h ⊢
    rw [Array.getElem?_setIfInBounds_self_of_lt h]; rfl
  | v :: r, o, cs, j + 1, h, h2 => by
    have := setl_in r (o + 1) (cs.setIfInBounds o v) j (by rw [Array.size_setIfInBounds]; omega) (by simpa using h2)
    rw [setl, show o + (j + 1) = o + 1 + j by omega, this]; rfl
theorem heap_setCell {w : World} {b : Nat} {e : TypeId} {cs : Array Value} {z : Nat × Nat} (h : w.heap[b]? = some (.cells cs e z)) (o : Nat) (v : Value) : (w.setCell ⟨b, o, none⟩ v).heap[b]? = some (.cells (cs.setIfInBounds o v) e z) := by
  simp [World.setCell, Array.getElem?_modify, h]
theorem heap_setCells {b : Nat} {e : TypeId} {z : Nat × Nat} : ∀ (vs : List Value) (o : Nat) {w : World} {cs : Array Value}, w.heap[b]? = some (.cells cs e z) → (w.setCells b o vs).heap[b]? = some (.cells (setl cs o vs) e z)
  | [], _, _, _, h => h
  | v :: r, o, w, cs, h => by
    rw [World.setCells, setl]; exact heap_setCells r (o + 1) (heap_setCell h o v)
theorem setCells_same (b : Nat) : ∀ (vs : List Value) (o : Nat) (w : World), (w.setCells b o vs).os = w.os ∧ (w.setCells b o vs).tape = w.tape ∧ (w.setCells b o vs).output = w.output ∧ (w.setCells b o vs).heap.size = w.heap.size ∧ (∀ c, c ≠ b → (w.setCells b o vs).heap[c]? = w.heap[c]?) ∧ w.drawn ≤ (w.setCells b o vs).drawn
  | [], _, _ => ⟨rfl, rfl, rfl, rfl, fun _ _ => rfl, Nat.le_refl _⟩
  | v :: r, o, w => by
    obtain ⟨h1, h2, h3, h4, h5, h6⟩ := setCells_same b r (o + 1) (w.setCell ⟨b, o, none⟩ v)
    refine ⟨h1, h2, h3, by rw [World.setCells, h4]; simp [World.setCell], fun c hc => ?_, h6⟩
    rw [World.setCells, h5 c hc]
    simp only [World.setCell, Array.getElem?_modify]
    rw [if_neg (fun e => hc e.symm)]
theorem St.setCells {x : Cx} {H : Heap} {L : Chunk} {w : World} {b : Nat} {e : TypeId} {cs : Array Value} (h : St x H ((b, .cells cs e) :: L) w) (o : Nat) (vs : List Value) : St x H ((b, .cells (setl cs o vs) e) :: L) (w.setCells b o vs) := by
  have hb := h.sat.l _ (List.mem_cons_self ..)
  simp only at hb
  obtain ⟨h1, h2, h3, h4, h5, h6⟩ := setCells_same b vs o w
  exact h.turn h1 h2 h3 h4 (heap_setCells vs o hb) h5 h6
/-- The row with one more number at i. -/
def ins (xs : List Int) (i : Nat) (x : Int) : List Int := xs.take i ++ x :: xs.drop i
theorem ins_length {xs : List Int} {i : Nat} {x : Int} (h : i ≤ xs.length) : (ins xs i x).length = xs.length + 1 := by
  simp only [ins, List.length_append, List.length_take, List.length_cons, List.length_drop]; omega
theorem ins_get {xs : List Int} {i : Nat} {x : Int} (h : i ≤ xs.length) (k : Nat) : (ins xs i x)[k]? = if k < i then xs[k]? else if k = i then some x else xs[k - 1]? := by
  unfold ins
  by_cases h1 : k < i
  · rw [if_pos h1, List.getElem?_append_left (by rw [List.length_take]; omega), List.getElem?_take_of_lt h1]
  · rw [if_neg h1, List.getElem?_append_right (by rw [List.length_take]; omega), List.length_take, Nat.min_eq_left h]
    by_cases h2 : k = i
    · subst h2; rw [if_pos rfl, Nat.sub_self]; rfl
    · rw [if_neg h2, show k - i = (k - i - 1) + 1 by omega, List.getElem?_cons_succ, List.getElem?_drop, show i + (k - i - 1) = k - 1 by omega]
theorem own_of_cells {e : TypeId} {H : Heap} {b cap : Nat} {cs : Array Value} {xs : List Int} (h1 : xs.length ≤ cap) (h2 : cap ≤ maxLen) (h3 : cap ≤ cs.size) (h : ∀ (k : Nat) (y : Int), xs[k]? = some y → cs[k]? = some (Value.int .i64 y)) :
    OwnS (intE .i64) e H (.slice (some ⟨b, 0, none⟩) xs.length cap) xs [(b, .cells cs e)] :=
  .inr ⟨b, cap, cs, rfl, rfl, h1, h2, by show cap * 1 ≤ _; omega, fun k y hk => ⟨[.int .i64 y], rfl, fun j u hj => by
    have hj0 : j = 0 := by have := (List.getElem?_eq_some_iff.1 hj).1; simpa using this
    subst hj0
    simp at hj; subst hj
    have := h k y hk
    simpa [intE] using this⟩⟩
theorem vals_one (xs : List Int) : ∀ v ∈ xs.map (Value.int .i64), v.oneCell' = true := by
  intro v hv; obtain ⟨y, _, rfl⟩ := List.mem_map.1 hv; rfl
theorem vals_get {xs : List Int} {j : Nat} {v : Value} (h : (xs.map (Value.int .i64))[j]? = some v) : ∃ y, xs[j]? = some y ∧ v = .int .i64 y := by
  rw [List.getElem?_map] at h
  cases hx : xs[j]? with
  | none => rw [hx] at h; cases h
  | some y => rw [hx] at h; injection h with h; exact ⟨y, rfl, h.symm⟩
open Go.Proofs Go.Shelf in
theorem insert_fc {P : Program} {ρ : Ren} (L : Lays2.n21 P ρ) {f : FuncId} (hf : f = ρ.f 21) {fn : Func} {cd : Code} (hfn : P.funcs[f]? = some fn) (hb : fn.body = some cd) (hname : (fn.name == "runtime.NumGoroutine") = false)
    {e : TypeId} (he : ρ.t 3 = e) {H : Heap} {v : Value} {xs : List Int} {x : Int} {c : Chunk} (ho : OwnS (intE .i64) e H v xs c) {vb : Nat} {te : TypeId} (hvH : H vb = some (.cells #[.int .i64 x] te)) (i : Nat) (hi : i ≤ xs.length) (hl : xs.length ≤ 4000000) :
    Fc P (fnv f) [v, .int .i64 i, .slice (some ⟨vb, 0, none⟩) 1 1] H [c] (fun v' H' L' => ∃ c', L' = [c'] ∧ OwnS (intE .i64) e H' v' (ins xs i x) c') := by
  obtain ⟨vo, hvo⟩ : ∃ vo, vo = 0 := ⟨_, rfl⟩
  obtain ⟨vc, hvc⟩ : ∃ vc, vc = 1 := ⟨_, rfl⟩
  rw [show (Value.slice (some ⟨vb, 0, none⟩) 1 1) = .slice (some ⟨vb, vo, none⟩) 1 vc by rw [hvo, hvc]]
  intro w hs
  have hvw := hs.h vb _ hvH
  have hvs : ∀ j u, [Value.int .i64 x][j]? = some u → w.cell? ⟨vb, vo + j, none⟩ = some u := fun j u hj => by
    have hj0 : j = 0 := by have := (List.getElem?_eq_some_iff.1 hj).1; simpa using this
    subst hj0
    simp at hj; subst hj
    simp [World.cell?, hvw, hvo]
  have h1v : ∀ u ∈ [Value.int .i64 x], u.oneCell' = true := fun u hu => by simp at hu; subst hu; rfl
  have hen := Go.Proofs.enters_of (P := P) hfn hname hb
  have fin : ∀ {vs : List Value} {R : Ending → World → Prop}, Calls P f vs.toArray w R → CallV P (fnv f) vs w R := fun {vs} {R} hc => by
    have h0 := hen vs.toArray w
    exact ⟨.enter f vs.toArray, w, by simp [Deferred.ofValue, invoke, h0], callsIn_wide.2 hc⟩
  rcases ho with ⟨rfl, rfl, rfl⟩ | ⟨b, cap, cs, rfl, rfl, h3, h4, h5, h6⟩
  · -- nil
    obtain rfl : i = 0 := by simpa using hi
    refine fin ?_
    rw [hf]
    refine Calls.mono (Any2.slices_Insert_int_end_grow L none 0 0 vb vo 1 vc [] [.int .i64 x] w (by omega) (by omega) (by omega) (by omega) rfl rfl (fun _ => rfl) (fun a h => by cases h) hvs h1v) ?_
    rintro e' w' ⟨rfl, rfl⟩
    obtain ⟨B, hB⟩ : ∃ B, B = ([] ++ [Value.int .i64 x]).toArray ++ Builtin.zeroCells (Value.int .i64 0).cells (grownCap w (0 + 1) 0 (ρ.t 3) - (0 + 1)) := ⟨_, rfl⟩
    rw [← hB]
    have hge := grownCap_ge w (0 + 1) 0 (ρ.t 3)
    refine ⟨_, H, [[(w.heap.size, .cells B (ρ.t 3))]], rfl, ?_, _, rfl, ?_⟩
    · have := (St.init hs).drew.alloc (.cells B (ρ.t 3))
      simpa using this
    · subst he
      refine own_of_cells (xs := [x]) hge (grownCap_le_maxLen w (0 + 1) 0 _ (by unfold maxLen; omega)) ?_ ?_
      · rw [hB]
        simp only [Array.size_append, List.size_toArray, size_zeroCells]
        show _ ≤ _ + (_ - (0 + 1)) * 1
        simp only [List.nil_append, List.length_cons, List.length_nil]
        omega
      · intro k y hk
        have hk0 : k = 0 := by have := (List.getElem?_eq_some_iff.1 hk).1; simpa using this
        subst hk0
        simp at hk; subst hk
        rw [hB, Array.getElem?_append_left (by simp)]; rfl
  · have hs' : Sat H [(b, .cells cs e)] w := by simpa using hs
    have hbl := hs'.l (b, .cells cs e) (List.mem_singleton.2 rfl)
    simp only at hbl
    have hH0 : H b = none := hs'.dj (b, .cells cs e) (List.mem_singleton.2 rfl)
    have hvb : vb ≠ b := fun q => by subst q; rw [hvH] at hH0; cases hH0
    have hcs : cap ≤ cs.size := by have : cap * 1 ≤ cs.size := h5; omega
    have hxc : ∀ (k : Nat) (y : Int), xs[k]? = some y → cs[k]? = some (Value.int .i64 y) := fun k y hk => by
      obtain ⟨l, h7, h8⟩ := h6 k y hk
      obtain rfl : l = [.int .i64 y] := h7
      have := h8 0 _ rfl
      simpa [intE] using this
    have hcw : ∀ k, k < cs.size → w.cell? ⟨b, k, none⟩ = cs[k]? := fun k hk => by simp [World.cell?, hbl]
    have hcs2 : ∀ j u, (xs.map (Value.int .i64))[j]? = some u → w.cell? ⟨b, 0 + j, none⟩ = some u := fun j u hj => by
      obtain ⟨y, hy1, rfl⟩ := vals_get hj
      have := hxc j y hy1
      rw [Nat.zero_add, hcw j ((Array.getElem?_eq_some_iff.1 this).1), this]
    have hsome : ∀ k, k < cs.size → (w.cell? ⟨b, k, none⟩).isSome = true := fun k hk => by rw [hcw k hk, Array.getElem?_eq_getElem hk]; rfl
    have hfz : ∀ k, w.frozen? ⟨b, k, none⟩ = false := fun k => by simp [World.frozen?, hbl]
    have st0 : St ⟨w, H, [(b, .cells cs e)]⟩ H [(b, .cells cs e)] w := St.init hs'
    have hml : maxLen = 9223372036854775807 := rfl
    refine fin ?_
    rw [hf]
    by_cases hroom : xs.length + 1 ≤ cap
    · by_cases hin : i = xs.length
      · subst hin
        refine Calls.mono (Any2.slices_Insert_int_end_room L b 0 xs.length cap vb vo 1 vc [.int .i64 x] w (by omega) hroom (by omega) rfl (fun j hj => hsome _ (by omega)) (fun j hj => hfz _) hvs h1v) ?_
        rintro e' w' ⟨rfl, rfl⟩
        have hlen := ins_length (x := x) (Nat.le_refl xs.length)
        refine ⟨_, H, [[(b, .cells (setl cs (0 + xs.length) [.int .i64 x]) e)]], rfl, by simpa using st0.setCells (0 + xs.length) [.int .i64 x], _, rfl, ?_⟩
        rw [← hlen]
        refine own_of_cells (by rw [hlen]; exact hroom) h4 (by rw [setl_size]; exact hcs) (fun k y hk => ?_)
        rw [ins_get (Nat.le_refl _)] at hk
        by_cases h7 : k < xs.length
        · rw [if_pos h7] at hk
          rw [setl_out _ _ _ _ (by omega)]; exact hxc k y hk
        · rw [if_neg h7] at hk
          by_cases h8 : k = xs.length
          · rw [if_pos h8] at hk
            injection hk with hk; subst hk; subst h8
            have := setl_in [.int .i64 x] (0 + xs.length) cs 0 (by omega) (by simp)
            rw [Nat.add_zero, Nat.zero_add] at this
            rw [Nat.zero_add]; exact this
          · rw [if_neg h8, List.getElem?_eq_none (by omega)] at hk; cases hk
      · refine Calls.mono (Any2.slices_Insert_int_shift L b 0 xs.length cap i vb vo 1 vc (xs.map (Value.int .i64)) [.int .i64 x] w (by omega) (by omega) hroom (by omega) hvb (by simp) rfl hcs2 (fun j hj => hsome _ (by omega)) (fun j hj => hfz _) hvs (vals_one xs) h1v
          te e 1 cs.size (by simp [World.shape?, hvw]) (by simp [World.shape?, hbl]) (by omega) ?_ ?_) ?_
        · simp [World.frozen?, hvw]
        · simp [World.frozen?, hvw]
        rintro e' w' ⟨rfl, rfl⟩
        have hlen := ins_length (x := x) hi
        refine ⟨_, H, [[(b, .cells (setl (setl cs (0 + (i + 1)) ((xs.map (Value.int .i64)).drop i)) (0 + i) [.int .i64 x]) e)]], rfl, by simpa using (st0.drew.setCells (0 + (i + 1)) ((xs.map (Value.int .i64)).drop i)).setCells (0 + i) [.int .i64 x], _, rfl, ?_⟩
        rw [← hlen]
        refine own_of_cells (by rw [hlen]; exact hroom) h4 (by rw [setl_size, setl_size]; exact hcs) (fun k y hk => ?_)
        rw [ins_get hi] at hk
        by_cases h7 : k < i
        · rw [if_pos h7] at hk
          rw [setl_out _ _ _ _ (by omega), setl_out _ _ _ _ (by omega)]; exact hxc k y hk
        · rw [if_neg h7] at hk
          by_cases h8 : k = i
          · rw [if_pos h8] at hk
            injection hk with hk; subst hk; subst h8
            have := setl_in [.int .i64 x] (0 + k) (setl cs (0 + (k + 1)) ((xs.map (Value.int .i64)).drop k)) 0 (by rw [setl_size]; omega) (by simp)
            simp only [Nat.add_zero, Nat.zero_add] at this ⊢; exact this
          · rw [if_neg h8] at hk
            have hlt := (List.getElem?_eq_some_iff.1 hk).1
            rw [setl_out _ _ _ _ (.inr (by simp; omega))]
            have := setl_in ((xs.map (Value.int .i64)).drop i) (0 + (i + 1)) cs (k - (i + 1)) (by omega) (by simp; omega)
            rw [show 0 + (i + 1) + (k - (i + 1)) = k by omega, List.getElem?_drop, show i + (k - (i + 1)) = k - 1 by omega, List.getElem?_map, hk] at this
            exact this
    · subst he
      have hge := grownCap_ge w (xs.length + 1) cap (ρ.t 3)
      have hle := grownCap_le_maxLen w (xs.length + 1) cap (ρ.t 3) (by omega)
      by_cases hin : i = xs.length
      · subst hin
        refine Calls.mono (Any2.slices_Insert_int_end_grow L (some ⟨b, 0, none⟩) xs.length cap vb vo 1 vc (xs.map (Value.int .i64)) [.int .i64 x] w (by omega) h3 (by omega) (by omega) (by simp) rfl (fun h => by cases h) (fun a h j u hj => by injection h with h; subst h; rw [Addr.add_lit]; exact hcs2 j u hj) hvs h1v) ?_
        rintro e' w' ⟨rfl, rfl⟩
        generalize grownCap w (xs.length + 1) cap (ρ.t 3) = G at hge hle ⊢
        have hlen := ins_length (x := x) (Nat.le_refl xs.length)
        refine ⟨_, H, [[(w.heap.size, .cells ((xs.map (Value.int .i64) ++ [Value.int .i64 x]).toArray ++ Builtin.zeroCells (Value.int .i64 0).cells (G - (xs.length + 1))) (ρ.t 3))]], rfl, ?_, _, rfl, ?_⟩
        · have := (st0.drew.alloc (.cells ((xs.map (Value.int .i64) ++ [Value.int .i64 x]).toArray ++ Builtin.zeroCells (Value.int .i64 0).cells (G - (xs.length + 1))) (ρ.t 3))).sub (L' := [(w.drew.heap.size, .cells ((xs.map (Value.int .i64) ++ [Value.int .i64 x]).toArray ++ Builtin.zeroCells (Value.int .i64 0).cells (G - (xs.length + 1))) (ρ.t 3))]) (List.Sublist.cons_cons _ (List.nil_sublist _))
          simpa using this
        · rw [← hlen]
          refine own_of_cells (by rw [hlen]; exact hge) hle ?_ (fun k y hk => ?_)
          · simp only [Array.size_append, List.size_toArray, size_zeroCells, List.length_append, List.length_map, List.length_cons, List.length_nil]
            rw [hlen, show (Value.int IntKind.i64 0).cells.size = 1 from rfl]
            omega
          · have hk' : (xs ++ [x])[k]? = some y := by simpa [ins] using hk
            have hlt := (List.getElem?_eq_some_iff.1 hk').1
            rw [Array.getElem?_append_left (by simpa using hlt), List.getElem?_toArray, show xs.map (Value.int .i64) ++ [Value.int .i64 x] = (xs ++ [x]).map (Value.int .i64) by simp, List.getElem?_map, hk']; rfl
      · refine Calls.mono (Any2.slices_Insert_int_grow L b 0 xs.length cap i vb vo 1 vc (xs.map (Value.int .i64)) [.int .i64 x] w (by omega) (by omega) h3 (by omega) (by omega) (by simp) rfl hcs2 hvs (vals_one xs) h1v) ?_
        rintro e' w' ⟨rfl, rfl⟩
        generalize grownCap w (xs.length + 1) cap (ρ.t 3) = G at hge hle ⊢
        have hlen := ins_length (x := x) hi
        obtain ⟨B, hB⟩ : ∃ B, B = ((xs.map (Value.int .i64)).take i).toArray ++ Builtin.zeroCells (Value.int .i64 0).cells (xs.length + 1 - i) ++ Builtin.zeroCells (Value.int .i64 0).cells (G - (xs.length + 1)) := ⟨_, rfl⟩
        rw [← hB]
        have hBs : G ≤ B.size := by
          rw [hB]
          simp only [Array.size_append, List.size_toArray, size_zeroCells, List.length_take, List.length_map]
          show _ ≤ _ + (xs.length + 1 - i) * 1 + (_ - (xs.length + 1)) * 1
          omega
        refine ⟨_, H, [[(w.heap.size, .cells (setl (setl B i [.int .i64 x]) (i + 1) ((xs.map (Value.int .i64)).drop i)) (ρ.t 3))]], rfl, ?_, _, rfl, ?_⟩
        · have h1 := (st0.alloc (.cells B (ρ.t 3))).sub (L' := [(w.heap.size, .cells B (ρ.t 3))]) (List.Sublist.cons_cons _ (List.nil_sublist _))
          have h2 := ((h1.drew.setCells i [.int .i64 x]).drew.setCells (i + 1) ((xs.map (Value.int .i64)).drop i))
          simpa using h2
        · rw [← hlen]
          refine own_of_cells (by rw [hlen]; exact hge) hle (by rw [setl_size, setl_size]; exact hBs) (fun k y hk => ?_)
          rw [ins_get hi] at hk
          by_cases h7 : k < i
          · rw [if_pos h7] at hk
            rw [setl_out _ _ _ _ (by omega), setl_out _ _ _ _ (by omega), hB, Array.getElem?_append_left (by simp [size_zeroCells]; omega), Array.getElem?_append_left (by simp; omega), List.getElem?_toArray, List.getElem?_take_of_lt h7, List.getElem?_map, hk]; rfl
          · rw [if_neg h7] at hk
            by_cases h8 : k = i
            · rw [if_pos h8] at hk
              injection hk with hk; subst hk; subst h8
              rw [setl_out _ _ _ _ (by omega)]
              have := setl_in [.int .i64 x] k B 0 (by omega) (by simp)
              rw [Nat.add_zero] at this; exact this
            · rw [if_neg h8] at hk
              have hlt := (List.getElem?_eq_some_iff.1 hk).1
              have := setl_in ((xs.map (Value.int .i64)).drop i) (i + 1) (setl B i [.int .i64 x]) (k - (i + 1)) (by rw [setl_size]; omega) (by simp; omega)
              rw [show i + 1 + (k - (i + 1)) = k by omega, List.getElem?_drop, show i + (k - (i + 1)) = k - 1 by omega, List.getElem?_map, hk] at this
              exact this
end Go.SX

namespace Go.Proofs
open Go.Shelf
def Tryz.lays21_ren : Go.Shelf.Ren := ⟨fun | 21 => 38 | 27 => 69 | 28 => 70 | 35 => 89 | 39 => 99 | n => n, fun | 22 => 25 | 3 => 3 | 4 => 4 | 0 => 0 | n => n, fun | n => n⟩
theorem Tryz.lays21 : Go.Proofs.Lays2.n21 Tryz.prog Tryz.lays21_ren := {
  mixed := by kernel_rfl
  f21 := Tryz.func38.trans (congrArg some (by kernel_rfl))
  f27 := Tryz.func69.trans (congrArg some (by kernel_rfl))
  f28 := Tryz.func70.trans (congrArg some (by kernel_rfl))
  f35 := Tryz.func89.trans (congrArg some (by kernel_rfl))
  f39 := Tryz.func99.trans (congrArg some (by kernel_rfl))
  t0 := Tryz.underlying0
  a0 := Tryz.isAgg0
  z0 := Tryz.sizeOf0
  v0 := Tryz.zeroValue0
  t3 := Tryz.underlying3
  a3 := Tryz.isAgg3
  z3 := Tryz.sizeOf3
  v3 := Tryz.zeroValue3
  t4 := Tryz.underlying4
  a4 := Tryz.isAgg4
  z4 := Tryz.sizeOf4
  v4 := Tryz.zeroValue4
  t22 := Tryz.underlying25
  a22 := Tryz.isAgg25
  z22 := Tryz.sizeOf25
  v22 := Tryz.zeroValue25
  i3 := by kernel_rfl }
end Go.Proofs
