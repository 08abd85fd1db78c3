/- 'IndexTurns' answers true, whatever it is handed, and what it is handed reads behind it as it did. -/
import Derived.RangeFuncNested
import Derived.RangeFuncBound
import Derived.RangeFuncCalls
import Derived.RangeFuncLeaves
import Derived.Shelf.Abstract
import Derived.Laws.AppendOwn
import Derived.Laws.OwnMore
import Derived.KernelRfl
import Derived.IntWalk
import Derived.Laws.Append
import Derived.WideLaws
import Derived.Laws.Slices
import Derived.Laws.MakeOwn
import Derived.OrdersIn
import Derived.Laws.Cover3
import Derived.Test.YtmigaagkfglabaaGreatProg
import Derived.Laws.StructEq
import Derived.Shelf.Sort.Plain
import Derived.Sort.OwnSortedInts
import Derived.Shelf.Slices.In.SortNone
import Derived.Maps.RangeRun
import Derived.Lib.AppendZeros
import Derived.Sort.AssemblyPlain
import Derived.Shelf.Small.Bits
import Derived.Sort.Walk7a
import Derived.Laws.Bits64
import Derived.Laws.Bits64b
import Derived.Shelf.Spec.SlicesInsert
import Derived.Shelf.Spec.SlicesInsertGrow
import Derived.ProofKit
import Derived.ChangeSlices
import Derived.Carry
import Derived.Deep.Slices
import Derived.OpenShut
import Derived.Test.YtmigaagkfglabaaGreatRows
import Derived.Test.YtmigaagkfglabaaGreatKT2
set_option linter.unusedVariables false
set_option linter.unusedSimpArgs false
namespace Go.SX
open Go Go.Proofs

def k_a  : Nat → (Int × (List Int)) → Int × (List Int)
  | 0, _ => default
  | ml6 + 1, sl6 => if (1 : Int) ≤ sl6.1 then (LR.seq ((!(k_8 (sl6.2.getD sl6.1.toNat (0 : Int)) (sl6.2.getD (((sl6.1 - 1)).toNat) (0 : Int)))) : Bool) (fun sc7 => if sc7 = true then ((sl6.1, sl6.2)) else (k_a ml6 (((sl6.1 - 1), (((sl6.2.set sl6.1.toNat (sl6.2.getD (((sl6.1 - 1)).toNat) (0 : Int)))).set (((sl6.1 - 1)).toNat) (sl6.2.getD sl6.1.toNat (0 : Int)))))))) else ((sl6.1, sl6.2))
def k_10 (a2 : Int) : Nat → (Int × (List Int)) → Int × (List Int)
  | 0, _ => default
  | ml8 + 1, sl8 => if sl8.1 < a2 then (LR.seq ((!(k_8 (sl8.2.getD sl8.1.toNat (0 : Int)) (sl8.2.getD (((sl8.1 - 1)).toNat) (0 : Int)))) : Bool) (fun sc9 => if sc9 = true then ((sl8.1, sl8.2)) else (k_10 a2 ml8 (((sl8.1 + 1), (((sl8.2.set sl8.1.toNat (sl8.2.getD (((sl8.1 - 1)).toNat) (0 : Int)))).set (((sl8.1 - 1)).toNat) (sl8.2.getD sl8.1.toNat (0 : Int)))))))) else ((sl8.1, sl8.2))
def k_1a (a2 : Int) (xPa0l1 : List Int) : Nat → Int → Int
  | 0, _ => default
  | ml2 + 1, sl2 => LR.seq (if sl2 < a2 then ((!(k_8 (xPa0l1.getD sl2.toNat (0 : Int)) (xPa0l1.getD (((sl2 - 1)).toNat) (0 : Int))))) else false : Bool) (fun sc3 => if sc3 = true then (k_1a a2 xPa0l1 ml2 ((sl2 + 1))) else sl2)
def k_4 (a1 : Int) (a2 : Int) : Nat → (Int × Int × (List Int)) → LR (Bool × (List Int)) (Int × Int × (List Int))
  | 0, _ => .go default
  | ml1 + 1, sl1 => if sl1.2.1 < 5 then (LR.seq (k_1a a2 sl1.2.2 ((a2 - sl1.1).toNat + 1) sl1.1) (fun ol2 => if ol2 = a2 then (.ret ((true, sl1.2.2))) else (if ((a2 - a1) : Int) < 50 then (.ret ((false, sl1.2.2))) else (LR.seq ((((sl1.2.2.set ol2.toNat (sl1.2.2.getD (((ol2 - 1)).toNat) (0 : Int)))).set (((ol2 - 1)).toNat) (sl1.2.2.getD ol2.toNat (0 : Int))) : (List Int)) (fun sc4 => LR.seq (if (2 : Int) ≤ (ol2 - a1) then (LR.seq (k_a (((ol2 - 1)).toNat + 1) (((ol2 - 1), sc4))) (fun ol6 => ol6.2)) else sc4 : (List Int)) (fun sc5 => if (2 : Int) ≤ (a2 - ol2) then (LR.seq (k_10 a2 ((a2 - ((ol2 + 1))).toNat + 1) (((ol2 + 1), sc5))) (fun ol8 => k_4 a1 a2 ml1 ((ol2, (sl1.2.1 + 1), ol8.2)))) else (k_4 a1 a2 ml1 ((ol2, (sl1.2.1 + 1), sc5))))))))) else (.go ((sl1.1, sl1.2.1, sl1.2.2)))
def k_e (a0 : List Int) (a1 : Int) (a2 : Int) : Bool × (List Int) :=
  LR.on (k_4 a1 a2 ((5 - 0 : Int).toNat + 1) (((a1 + 1), 0, a0))) (fun r => r) (fun ol1 => (false, ol1.2.2))
set_option maxHeartbeats 3200000 in
theorem k_c4 (H : Heap) (va0 : Value) (a0 : List Int) (Ca0 : Chunk) (ha0 : OwnS (intE .u64) 43 H va0 a0 Ca0) (a1 : Int) (a2 : Int) (h1 : 0 ≤ a1) (h2 : a1 < a2) (h3 : a2 ≤ (a0.length : Int)) (hl : a0.length ≤ 4000000) : Fc Tryz.prog (fnv 105) [va0, .int .i64 a1, .int .i64 a2] H [Ca0] (fun v' H' L' => ∃ Da0, v' = .bool (k_e a0 a1 a2).1 ∧ L' = [Da0] ∧ OwnS (intE .u64) 43 H' va0 (k_e a0 a1 a2).2 Da0) := by
 refine Fc.of_body (N := 133) Tryz.func105 rfl kA rfl rfl ?_
 intro w0
 obtain ⟨Aa0, pa0, rfl, ma0, na0⟩ := OwnS.shape ha0
 refine sR ?_
 refine R.asE rfl cA ?_
 refine nN ?_
 refine sR ?_
 refine R.mvE rfl cA ?_
 refine R.addI rfl rfl rfl oA ?_
 refine R.asE rfl cA ?_
 refine nN ?_
 refine T.seq ?_
 refine sR ?_
 refine R.asE rfl cA ?_
 refine nN ?_
 refine T.block ?_
 refine T.loop (ι := Nat × Int × Int × (List Int) × Chunk) (fun ⟨kl1, n7l1, n8l1, xPa0l1, cPa0l1⟩ H' L' ds' => (5 - n8l1 : Int).toNat < kl1 ∧ Has L' [cPa0l1] ∧ OwnS (intE .u64) 43 H' (.slice Aa0 a0.length pa0) xPa0l1 cPa0l1 ∧ 0 ≤ n8l1 ∧ n8l1 ≤ 5 ∧ a1 + 1 ≤ n7l1 ∧ n7l1 ≤ a2 ∧ k_4 a1 a2 kl1 ((n7l1, n8l1, xPa0l1)) = k_4 a1 a2 ((5 - 0 : Int).toNat + 1) (((a1 + 1), 0, a0))) (fun ⟨kl1, n7l1, n8l1, xPa0l1, cPa0l1⟩ => [(0, .slice Aa0 a0.length pa0), (1, .int .i64 a1), (2, .int .i64 a2), (7, .int .i64 n7l1), (8, .int .i64 n8l1)]) (fun ⟨kl1, n7l1, n8l1, xPa0l1, cPa0l1⟩ => kl1) (((5 - 0 : Int).toNat + 1), (a1 + 1), 0, a0, Ca0) ?_ ?_ ?_
 ·exact ⟨oA, (Has.cons .hd Has.nil), ha0, bA, bA, bA, bA, (by rfl)⟩
 ·exact ⟨rfl, rfl, rfl, rfl, rfl, trivial⟩
 intro ⟨kl1, n7l1, n8l1, xPa0l1, cPa0l1⟩ σ_l1 H_l1 L_l1 ds_l1 s_l1 hI_l1
 obtain ⟨hkl1, hI_l1⟩ := hI_l1
 obtain ⟨ml1, rfl⟩ : ∃ m, kl1 = m + 1 := ⟨kl1 - 1, by omega⟩
 obtain ⟨hLl1, wPa0l1, hBl1_0, hBl1_1, hBl1_2, hBl1_3, hQl1⟩ := hI_l1
 have nPa0l1_ := OwnS.len wPa0l1
 refine T.has hLl1 ?_
 refine T.seq ?_
 refine sR ?_
 refine R.mvE rfl cA ?_
 refine R.lss rfl rfl rfl ?_
 refine nN ?_
 refine T.condD rfl (fun c14 => ?_) (fun c14 => ?_)
 ·refine T.set 14 (.bool true) (congrArg Value.bool (decide_eq_true c14)) ?_
  refine T.skip (Post.thnN ?_)
  refine T.seq ?_
  refine T.block ?_
  refine T.seq ?_
  refine T.block ?_
  refine T.loop (ι := Nat × Int) (fun ⟨kl2, n7l2⟩ H' L' ds' => (a2 - n7l2).toNat < kl2 ∧ Has L' [cPa0l1] ∧ a1 + 1 ≤ n7l2 ∧ n7l2 ≤ a2 ∧ k_1a a2 xPa0l1 kl2 n7l2 = k_1a a2 xPa0l1 ((a2 - n7l1).toNat + 1) n7l1) (fun ⟨kl2, n7l2⟩ => [(0, .slice Aa0 a0.length pa0), (1, .int .i64 a1), (2, .int .i64 a2), (7, .int .i64 n7l2), (8, .int .i64 n8l1)]) (fun ⟨kl2, n7l2⟩ => kl2) (((a2 - n7l1).toNat + 1), n7l1) ?_ ?_ ?_
  ·exact ⟨oA, (Has.cons .hd Has.nil), bA, bA, (by rfl)⟩
  ·exact ⟨rfl, rfl, rfl, rfl, rfl, trivial⟩
  intro ⟨kl2, n7l2⟩ σ_l2 H_l2 L_l2 ds_l2 s_l2 hI_l2
  obtain ⟨hkl2, hI_l2⟩ := hI_l2
  obtain ⟨ml2, rfl⟩ : ∃ m, kl2 = m + 1 := ⟨kl2 - 1, by omega⟩
  obtain ⟨hLl2, hBl2_0, hBl2_1, hQl2⟩ := hI_l2
  refine T.has hLl2 ?_
  refine T.seq ?_
  refine T.seq ?_
  refine T.cutK (ι := Bool) (fun b32c3 H' L' ds' => Has L' [cPa0l1] ∧ (if n7l2 < a2 then ((!(k_8 (xPa0l1.getD n7l2.toNat (0 : Int)) (xPa0l1.getD (((n7l2 - 1)).toNat) (0 : Int))))) else false : Bool) = b32c3) (fun b32c3 => [(0, .slice Aa0 a0.length pa0), (1, .int .i64 a1), (2, .int .i64 a2), (7, .int .i64 n7l2), (8, .int .i64 n8l1), (32, .bool (b32c3))]) ?_ ?_
  ·refine T.draw k_2b kA ?_
   refine vM 0 [1, 2, 3, 4, 5, 6, 7, 8, 9, 10, 11, 12, 13, 14, 15] rfl rfl cA ?_
   refine vM 1 [2, 3, 4, 5, 6, 7, 8, 9, 10, 11, 12, 13, 14, 15] rfl rfl cA ?_
   refine vA 2 [3, 4, 5, 6, 7, 8, 9, 10, 11, 12, 13, 14, 15] rfl (fun _ _ h_ => R.lss rfl rfl rfl (TL.nil h_)) ?_
   refine vM 3 [4, 5, 6, 7, 8, 9, 10, 11, 12, 13, 14, 15] rfl rfl cA ?_
   refine Plan.gsplitD 20 rfl (fun g20 => ?_) (fun g20 => ?_)
   ·refine vM 4 [5, 6, 7, 8, 9, 10, 11, 12, 13, 14, 15] rfl rfl cA ?_
    refine vM 5 [6, 7, 8, 9, 10, 11, 12, 13, 14, 15] rfl rfl cA ?_
    have hl23 : n7l2.toNat < a0.length := bA
    obtain ⟨y23, e23, h23⟩ : ∃ y, y = (xPa0l1.getD n7l2.toNat (0 : Int)) ∧ xPa0l1[n7l2.toNat]? = some y := ⟨_, rfl, k_6 (by first | exact hl23 | simpa using hl23 | (simp only [List.length_set]; omega) | omega | (rw [(k_1 _).length_eq]; exact hl23))⟩
    obtain ⟨b23, u23, cs23, l23, f23, j23, i23, g23, k23⟩ := OwnS.elem (OwnS.mono wPa0l1 s_l2) h23
    obtain rfl : l23 = [.int .u64 y23] := g23
    refine vA 6 [7, 8, 9, 10, 11, 12, 13, 14, 15] rfl (fun _ _ h_ => R.ixp (sz := ((intE .u64)).size) Tryz.underlying30 Tryz.sizeOf43 rfl rfl rfl bA i23 (TL.nil h_)) ?_
    refine vM 8 [7, 9, 10, 11, 12, 13, 14, 15] rfl rfl cA ?_
    refine vM 9 [7, 10, 11, 12, 13, 14, 15] rfl rfl cA ?_
    refine vA 10 [7, 11, 12, 13, 14, 15] rfl (fun _ _ h_ => R.subI rfl rfl rfl oA (TL.nil h_)) ?_
    have hl28 : ((n7l2 - 1)).toNat < a0.length := bA
    obtain ⟨y28, e28, h28⟩ : ∃ y, y = (xPa0l1.getD (((n7l2 - 1)).toNat) (0 : Int)) ∧ xPa0l1[((n7l2 - 1)).toNat]? = some y := ⟨_, rfl, k_6 (by first | exact hl28 | simpa using hl28 | (simp only [List.length_set]; omega) | omega | (rw [(k_1 _).length_eq]; exact hl28))⟩
    obtain ⟨b28, u28, cs28, l28, f28, j28, i28, g28, k28⟩ := OwnS.elem (OwnS.mono wPa0l1 s_l2) h28
    obtain rfl : l28 = [.int .u64 y28] := g28
    refine vA 11 [7, 12, 13, 14, 15] rfl (fun _ _ h_ => R.ixp (sz := ((intE .u64)).size) Tryz.underlying30 Tryz.sizeOf43 rfl rfl rfl bA i28 (TL.nil h_)) ?_
    refine Plan.s2 7 12 [12, 13, 14, 15] [7, 13, 14, 15] kA kA kA rfl rfl ?_ ?_
    ·refine R.ld Tryz.isAgg43 rfl rfl (by rw [← f23]; exact .hd) (k23 0 _ rfl) ?_
     refine TL.nil (Plan.e1 (HLe.refl _) ?_)
     refine Plan.s1 12 [13, 14, 15] kA kA rfl ?_
     refine R.ld Tryz.isAgg43 rfl rfl (by rw [← f28]; exact .hd) (k28 0 _ rfl) ?_
     refine TL.nil (Plan.e1 (HLe.refl _) ?_)
     refine vA 13 [14, 15] rfl (fun _ _ h_ => R.callv rfl rfl rfl (k_41 _ (y23) (y28)) (TL.nil h_)) ?_
     refine vA 14 [15] rfl (fun _ _ h_ => R.not rfl rfl (TL.nil h_)) ?_
     refine vA 15 [] rfl (fun _ _ h_ => R.pkTE rfl rfl cA (TL.nil h_)) ?_
     refine Plan.done (Post.thnN ?_)
     exact ⟨(!(k_8 y23 y28)), HLe.refl _, ⟨(Has.cons .hd Has.nil), (by subst e28; subst e23; rw [if_pos g20])⟩, rfl, rfl, rfl, rfl, rfl, rfl, trivial⟩
    refine R.ld Tryz.isAgg43 rfl rfl (by rw [← f28]; exact .hd) (k28 0 _ rfl) ?_
    refine TL.nil (Plan.e1 (HLe.refl _) ?_)
    refine Plan.s1 7 [13, 14, 15] kA kA rfl ?_
    refine R.ld Tryz.isAgg43 rfl rfl (by rw [← f23]; exact .hd) (k23 0 _ rfl) ?_
    refine TL.nil (Plan.e1 (HLe.refl _) ?_)
    refine vA 13 [14, 15] rfl (fun _ _ h_ => R.callv rfl rfl rfl (k_41 _ (y23) (y28)) (TL.nil h_)) ?_
    refine vA 14 [15] rfl (fun _ _ h_ => R.not rfl rfl (TL.nil h_)) ?_
    refine vA 15 [] rfl (fun _ _ h_ => R.pkTE rfl rfl cA (TL.nil h_)) ?_
    refine Plan.done (Post.thnN ?_)
    exact ⟨(!(k_8 y23 y28)), HLe.refl _, ⟨(Has.cons .hd Has.nil), (by subst e28; subst e23; rw [if_pos g20])⟩, rfl, rfl, rfl, rfl, rfl, rfl, trivial⟩
   refine vO 4 [5, 6, 7, 8, 9, 10, 11, 12, 13, 14, 15] rfl rfl rfl rfl ?_
   refine vO 5 [6, 7, 8, 9, 10, 11, 12, 13, 14, 15] rfl rfl rfl rfl ?_
   refine vO 6 [7, 8, 9, 10, 11, 12, 13, 14, 15] rfl rfl rfl rfl ?_
   refine vO 7 [8, 9, 10, 11, 12, 13, 14, 15] rfl rfl rfl rfl ?_
   refine vO 8 [9, 10, 11, 12, 13, 14, 15] rfl rfl rfl rfl ?_
   refine vO 9 [10, 11, 12, 13, 14, 15] rfl rfl rfl rfl ?_
   refine vO 10 [11, 12, 13, 14, 15] rfl rfl rfl rfl ?_
   refine vO 11 [12, 13, 14, 15] rfl rfl rfl rfl ?_
   refine vO 12 [13, 14, 15] rfl rfl rfl rfl ?_
   refine vO 13 [14, 15] rfl rfl rfl rfl ?_
   refine vO 14 [15] rfl rfl rfl rfl ?_
   refine vA 15 [] rfl (fun _ _ h_ => R.pkFE rfl rfl cA (TL.nil h_)) ?_
   refine Plan.done (Post.thnN ?_)
   exact ⟨false, HLe.refl _, ⟨(Has.cons .hd Has.nil), (by rw [if_neg g20])⟩, rfl, rfl, rfl, rfl, rfl, rfl, trivial⟩
  intro b32c3 σ_c3 H_c3 L_c3 ds_c3 s_c3 hI_c3
  obtain ⟨hLc3, hTc3⟩ := hI_c3
  refine T.has hLc3 ?_
  refine T.cond rfl (fun c32 => ?_) (fun c32 => ?_)
  ·refine T.set 32 (.bool true) (congrArg Value.bool c32) ?_
   have hZ32 := hTc3.trans c32
   try simp only [or_f, or_t, k_bf, k_c0, decide_eq_true_eq, decide_eq_false_iff_not, Bool.not_eq_true'] at hZ32
   refine T.skip (Post.thnN ?_)
   refine T.block ?_
   refine T.region ?_
   refine R.mvE rfl cA ?_
   refine R.addI rfl rfl rfl oA ?_
   refine R.asE rfl cA ?_
   refine TL.nil (Post.blkN ?_)
   refine id (Post.thnN ?_)
   exact ⟨(ml2, (n7l2 + 1)), (s_l2.trans s_c3), ⟨(by first | omega | (simp; omega) | (simp at *; omega)), (Has.cons .hd Has.nil), bA, bA, (by rw [← hQl2, k_1a]; rw [hTc3, LR.seq_go, if_t c32])⟩, by show ml2 < ml2 + 1; omega, rfl, rfl, rfl, rfl, rfl, trivial⟩
  refine T.set 32 (.bool false) (congrArg Value.bool c32) ?_
  have hZ32 := hTc3.trans c32
  try simp only [or_f, or_t, k_bf, k_c0, decide_eq_true_eq, decide_eq_false_iff_not, Bool.not_eq_true'] at hZ32
  refine T.exit (Post.thnE (Post.thnE (Post.blkX ?_)))
  have hEl2 : k_1a a2 xPa0l1 ((a2 - n7l1).toNat + 1) n7l1 = n7l2 := (by rw [← hQl2, k_1a]; rw [hTc3, LR.seq_go, if_f c32])
  refine id (Post.thnN ?_)
  refine T.seq ?_
  refine sR ?_
  refine R.mvE rfl cA ?_
  refine R.mvE rfl cA ?_
  refine R.eql rfl rfl rfl ?_
  refine nN ?_
  refine T.condD rfl (fun c37 => ?_) (fun c37 => ?_)
  ·refine T.set 37 (.bool true) (congrArg Value.bool (decide_eq_true c37)) ?_
   refine sR ?_
   refine R.asE rfl cA ?_
   refine nN ?_
   refine T.has (Has.cons .hd Has.nil) ?_
   refine T.ret (Post.thnR (Post.blkR (Post.thnR (Post.thnR (Post.blkR (Post.thnR ?_))))))
   have hXl1 : k_4 a1 a2 ((5 - 0 : Int).toNat + 1) (((a1 + 1), 0, a0)) = .ret ((true, xPa0l1)) := by rw [← hQl1, k_4]; rw [if_pos c14, hEl2, LR.seq_go, if_pos c37]
   have hM : k_e a0 a1 a2 = (true, xPa0l1) := by rw [k_e, hXl1, LR.on_ret]
   exact fin1L (v := .bool true) [cPa0l1] rfl rfl (List.Sublist.refl _) ⟨cPa0l1, by first | rw [hM] | rfl, by first | rw [hM] | rfl, by rw [hM]; exact (OwnS.mono wPa0l1 (s_l2.trans s_c3))⟩
  refine T.set 37 (.bool false) (congrArg Value.bool (decide_eq_false c37)) ?_
  refine T.skip (Post.thnN ?_)
  refine T.seq ?_
  refine sR ?_
  refine R.mvE rfl cA ?_
  refine R.mvE rfl cA ?_
  refine R.subI rfl rfl rfl oA ?_
  refine R.lss rfl rfl rfl ?_
  refine nN ?_
  refine T.condD rfl (fun c41 => ?_) (fun c41 => ?_)
  ·refine T.set 41 (.bool true) (congrArg Value.bool (decide_eq_true c41)) ?_
   refine sR ?_
   refine R.asE rfl cA ?_
   refine nN ?_
   refine T.has (Has.cons .hd Has.nil) ?_
   refine T.ret (Post.thnR (Post.blkR (Post.thnR (Post.thnR (Post.blkR (Post.thnR ?_))))))
   have hXl1 : k_4 a1 a2 ((5 - 0 : Int).toNat + 1) (((a1 + 1), 0, a0)) = .ret ((false, xPa0l1)) := by rw [← hQl1, k_4]; rw [if_pos c14, hEl2, LR.seq_go, if_neg c37, if_pos c41]
   have hM : k_e a0 a1 a2 = (false, xPa0l1) := by rw [k_e, hXl1, LR.on_ret]
   exact fin1L (v := .bool false) [cPa0l1] rfl rfl (List.Sublist.refl _) ⟨cPa0l1, by first | rw [hM] | rfl, by first | rw [hM] | rfl, by rw [hM]; exact (OwnS.mono wPa0l1 (s_l2.trans s_c3))⟩
  refine T.set 41 (.bool false) (congrArg Value.bool (decide_eq_false c41)) ?_
  refine T.skip (Post.thnN ?_)
  refine T.seq ?_
  refine T.cutK (ι := (List Int) × Chunk) (fun ⟨xPa0c4, cPa0c4⟩ H' L' ds' => Has L' [cPa0c4] ∧ OwnS (intE .u64) 43 H' (.slice Aa0 a0.length pa0) xPa0c4 cPa0c4 ∧ ((((xPa0l1.set n7l2.toNat (xPa0l1.getD (((n7l2 - 1)).toNat) (0 : Int)))).set (((n7l2 - 1)).toNat) (xPa0l1.getD n7l2.toNat (0 : Int))) : (List Int)) = xPa0c4) (fun ⟨xPa0c4, cPa0c4⟩ => [(0, .slice Aa0 a0.length pa0), (1, .int .i64 a1), (2, .int .i64 a2), (7, .int .i64 n7l2), (8, .int .i64 n8l1)]) ?_ ?_
  ·refine T.draw k_2b kA ?_
   refine vM 0 [1, 2, 3, 4, 5, 6, 7, 8, 9, 10, 11, 12, 13, 14, 15, 16, 17] rfl rfl cA ?_
   refine vM 1 [2, 3, 4, 5, 6, 7, 8, 9, 10, 11, 12, 13, 14, 15, 16, 17] rfl rfl cA ?_
   refine vM 2 [3, 4, 5, 6, 7, 8, 9, 10, 11, 12, 13, 14, 15, 16, 17] rfl rfl cA ?_
   refine vM 3 [4, 5, 6, 7, 8, 9, 10, 11, 12, 13, 14, 15, 16, 17] rfl rfl cA ?_
   refine vA 4 [5, 6, 7, 8, 9, 10, 11, 12, 13, 14, 15, 16, 17] rfl (fun _ _ h_ => R.subI rfl rfl rfl oA (TL.nil h_)) ?_
   refine vM 5 [6, 7, 8, 9, 10, 11, 12, 13, 14, 15, 16, 17] rfl rfl cA ?_
   refine vM 6 [7, 8, 9, 10, 11, 12, 13, 14, 15, 16, 17] rfl rfl cA ?_
   refine vA 7 [8, 9, 10, 11, 12, 13, 14, 15, 16, 17] rfl (fun _ _ h_ => R.subI rfl rfl rfl oA (TL.nil h_)) ?_
   have hl50 : ((n7l2 - 1)).toNat < a0.length := bA
   obtain ⟨y50, e50, h50⟩ : ∃ y, y = (xPa0l1.getD (((n7l2 - 1)).toNat) (0 : Int)) ∧ xPa0l1[((n7l2 - 1)).toNat]? = some y := ⟨_, rfl, k_6 (by first | exact hl50 | simpa using hl50 | (simp only [List.length_set]; omega) | omega | (rw [(k_1 _).length_eq]; exact hl50))⟩
   obtain ⟨b50, u50, cs50, l50, f50, j50, i50, g50, k50⟩ := OwnS.elem (OwnS.mono wPa0l1 (s_l2.trans s_c3)) h50
   obtain rfl : l50 = [.int .u64 y50] := g50
   refine vA 8 [9, 10, 11, 12, 13, 14, 15, 16, 17] rfl (fun _ _ h_ => R.ixp (sz := ((intE .u64)).size) Tryz.underlying30 Tryz.sizeOf43 rfl rfl rfl bA i50 (TL.nil h_)) ?_
   refine vM 10 [9, 11, 12, 13, 14, 15, 16, 17] rfl rfl cA ?_
   refine vM 11 [9, 12, 13, 14, 15, 16, 17] rfl rfl cA ?_
   have hl54 : n7l2.toNat < a0.length := bA
   obtain ⟨y54, e54, h54⟩ : ∃ y, y = (xPa0l1.getD n7l2.toNat (0 : Int)) ∧ xPa0l1[n7l2.toNat]? = some y := ⟨_, rfl, k_6 (by first | exact hl54 | simpa using hl54 | (simp only [List.length_set]; omega) | omega | (rw [(k_1 _).length_eq]; exact hl54))⟩
   obtain ⟨b54, u54, cs54, l54, f54, j54, i54, g54, k54⟩ := OwnS.elem (OwnS.mono wPa0l1 (s_l2.trans s_c3)) h54
   obtain rfl : l54 = [.int .u64 y54] := g54
   refine vA 12 [9, 13, 14, 15, 16, 17] rfl (fun _ _ h_ => R.ixp (sz := ((intE .u64)).size) Tryz.underlying30 Tryz.sizeOf43 rfl rfl rfl bA i54 (TL.nil h_)) ?_
   refine Plan.s2 9 13 [13, 14, 15, 16, 17] [9, 14, 15, 16, 17] kA kA kA rfl rfl ?_ ?_
   ·refine R.ld Tryz.isAgg43 rfl rfl (by rw [← f50]; exact .hd) (k50 0 _ rfl) ?_
    refine TL.nil (Plan.e1 (HLe.refl _) ?_)
    refine Plan.s1 13 [14, 15, 16, 17] kA kA rfl ?_
    refine R.ld Tryz.isAgg43 rfl rfl (by rw [← f54]; exact .hd) (k54 0 _ rfl) ?_
    refine TL.nil (Plan.e1 (HLe.refl _) ?_)
    have hl56 : n7l2.toNat < a0.length := bA
    obtain ⟨y56, e56, h56⟩ : ∃ y, y = (xPa0l1.getD n7l2.toNat (0 : Int)) ∧ xPa0l1[n7l2.toNat]? = some y := ⟨_, rfl, k_6 (by first | exact hl56 | simpa using hl56 | (simp only [List.length_set]; omega) | omega | (rw [(k_1 _).length_eq]; exact hl56))⟩
    obtain ⟨b56, u56, cs56, l56, f56, j56, i56, g56, k56⟩ := OwnS.elem (OwnS.mono wPa0l1 (s_l2.trans s_c3)) h56
    obtain rfl : l56 = [.int .u64 y56] := g56
    refine vA 14 [15, 16, 17] rfl (fun _ _ h_ => R.ixp (sz := ((intE .u64)).size) Tryz.underlying30 Tryz.sizeOf43 rfl rfl rfl bA i56 (TL.nil h_)) ?_
    refine Plan.s1 15 [16, 17] kA kA rfl ?_
    refine R.stEF (E := (intE .u64)) (e := 43) (v := (.slice Aa0 a0.length pa0)) (m := [.int .u64 y50]) (o := 0) (y := y56) (y' := y50) (j := n7l2.toNat) Tryz.sizeOf43 rfl (OwnS.mono wPa0l1 (s_l2.trans s_c3)) .hd i56 rfl rfl (cells1 rfl) (k_20 rfl) h56 (by show 0 + 1 ≤ 1; decide) (fun l hl => by have e0 : l = [.int .u64 y56] := hl; subst e0; exact rfl) ?_
    intro cst159 wst159
    refine TL.nil (Plan.e0 (HLe.refl _) ?_)
    have hl57 : ((n7l2 - 1)).toNat < a0.length := bA
    obtain ⟨y57, e57, h57⟩ : ∃ y, y = (((xPa0l1.set n7l2.toNat y50)).getD (((n7l2 - 1)).toNat) (0 : Int)) ∧ ((xPa0l1.set n7l2.toNat y50))[((n7l2 - 1)).toNat]? = some y := ⟨_, rfl, k_6 (by first | exact hl57 | simpa using hl57 | (simp only [List.length_set]; omega) | omega | (rw [(k_1 _).length_eq]; exact hl57))⟩
    obtain ⟨b57, u57, cs57, l57, f57, j57, i57, g57, k57⟩ := OwnS.elem wst159 h57
    obtain rfl : l57 = [.int .u64 y57] := g57
    refine vA 16 [17] rfl (fun _ _ h_ => R.ixp (sz := ((intE .u64)).size) Tryz.underlying30 Tryz.sizeOf43 rfl rfl rfl bA i57 (TL.nil h_)) ?_
    refine Plan.s1 17 [] kA kA rfl ?_
    refine R.stEF (E := (intE .u64)) (e := 43) (v := (.slice Aa0 a0.length pa0)) (m := [.int .u64 y54]) (o := 0) (y := y57) (y' := y54) (j := ((n7l2 - 1)).toNat) Tryz.sizeOf43 rfl wst159 .hd i57 rfl rfl (cells1 rfl) (k_20 rfl) h57 (by show 0 + 1 ≤ 1; decide) (fun l hl => by have e0 : l = [.int .u64 y57] := hl; subst e0; exact rfl) ?_
    intro cst160 wst160
    refine TL.nil (Plan.e0 (HLe.refl _) ?_)
    refine Plan.done (Post.thnN ?_)
    exact ⟨((((xPa0l1.set n7l2.toNat y50)).set (((n7l2 - 1)).toNat) y54), cst160), HLe.refl _, ⟨(Has.cons .hd Has.nil), wst160, (by subst e57; subst e56; subst e54; subst e50; rfl)⟩, rfl, rfl, rfl, rfl, rfl, trivial⟩
   refine R.ld Tryz.isAgg43 rfl rfl (by rw [← f54]; exact .hd) (k54 0 _ rfl) ?_
   refine TL.nil (Plan.e1 (HLe.refl _) ?_)
   refine Plan.s1 9 [14, 15, 16, 17] kA kA rfl ?_
   refine R.ld Tryz.isAgg43 rfl rfl (by rw [← f50]; exact .hd) (k50 0 _ rfl) ?_
   refine TL.nil (Plan.e1 (HLe.refl _) ?_)
   have hl56 : n7l2.toNat < a0.length := bA
   obtain ⟨y56, e56, h56⟩ : ∃ y, y = (xPa0l1.getD n7l2.toNat (0 : Int)) ∧ xPa0l1[n7l2.toNat]? = some y := ⟨_, rfl, k_6 (by first | exact hl56 | simpa using hl56 | (simp only [List.length_set]; omega) | omega | (rw [(k_1 _).length_eq]; exact hl56))⟩
   obtain ⟨b56, u56, cs56, l56, f56, j56, i56, g56, k56⟩ := OwnS.elem (OwnS.mono wPa0l1 (s_l2.trans s_c3)) h56
   obtain rfl : l56 = [.int .u64 y56] := g56
   refine vA 14 [15, 16, 17] rfl (fun _ _ h_ => R.ixp (sz := ((intE .u64)).size) Tryz.underlying30 Tryz.sizeOf43 rfl rfl rfl bA i56 (TL.nil h_)) ?_
   refine Plan.s1 15 [16, 17] kA kA rfl ?_
   refine R.stEF (E := (intE .u64)) (e := 43) (v := (.slice Aa0 a0.length pa0)) (m := [.int .u64 y50]) (o := 0) (y := y56) (y' := y50) (j := n7l2.toNat) Tryz.sizeOf43 rfl (OwnS.mono wPa0l1 (s_l2.trans s_c3)) .hd i56 rfl rfl (cells1 rfl) (k_20 rfl) h56 (by show 0 + 1 ≤ 1; decide) (fun l hl => by have e0 : l = [.int .u64 y56] := hl; subst e0; exact rfl) ?_
   intro cst161 wst161
   refine TL.nil (Plan.e0 (HLe.refl _) ?_)
   have hl57 : ((n7l2 - 1)).toNat < a0.length := bA
   obtain ⟨y57, e57, h57⟩ : ∃ y, y = (((xPa0l1.set n7l2.toNat y50)).getD (((n7l2 - 1)).toNat) (0 : Int)) ∧ ((xPa0l1.set n7l2.toNat y50))[((n7l2 - 1)).toNat]? = some y := ⟨_, rfl, k_6 (by first | exact hl57 | simpa using hl57 | (simp only [List.length_set]; omega) | omega | (rw [(k_1 _).length_eq]; exact hl57))⟩
   obtain ⟨b57, u57, cs57, l57, f57, j57, i57, g57, k57⟩ := OwnS.elem wst161 h57
   obtain rfl : l57 = [.int .u64 y57] := g57
   refine vA 16 [17] rfl (fun _ _ h_ => R.ixp (sz := ((intE .u64)).size) Tryz.underlying30 Tryz.sizeOf43 rfl rfl rfl bA i57 (TL.nil h_)) ?_
   refine Plan.s1 17 [] kA kA rfl ?_
   refine R.stEF (E := (intE .u64)) (e := 43) (v := (.slice Aa0 a0.length pa0)) (m := [.int .u64 y54]) (o := 0) (y := y57) (y' := y54) (j := ((n7l2 - 1)).toNat) Tryz.sizeOf43 rfl wst161 .hd i57 rfl rfl (cells1 rfl) (k_20 rfl) h57 (by show 0 + 1 ≤ 1; decide) (fun l hl => by have e0 : l = [.int .u64 y57] := hl; subst e0; exact rfl) ?_
   intro cst162 wst162
   refine TL.nil (Plan.e0 (HLe.refl _) ?_)
   refine Plan.done (Post.thnN ?_)
   exact ⟨((((xPa0l1.set n7l2.toNat y50)).set (((n7l2 - 1)).toNat) y54), cst162), HLe.refl _, ⟨(Has.cons .hd Has.nil), wst162, (by subst e57; subst e56; subst e54; subst e50; rfl)⟩, rfl, rfl, rfl, rfl, rfl, trivial⟩
  intro ⟨xPa0c4, cPa0c4⟩ σ_c4 H_c4 L_c4 ds_c4 s_c4 hI_c4
  obtain ⟨hLc4, wPa0c4, hTc4⟩ := hI_c4
  have nPa0c4_ := OwnS.len wPa0c4
  refine T.has hLc4 ?_
  refine T.seq ?_
  refine sR ?_
  refine R.mvE rfl cA ?_
  refine R.mvE rfl cA ?_
  refine R.subI rfl rfl rfl oA ?_
  refine R.geq rfl rfl rfl ?_
  refine nN ?_
  refine T.cutK (ι := (List Int) × Chunk) (fun ⟨xPa0c5, cPa0c5⟩ H' L' ds' => Has L' [cPa0c5] ∧ OwnS (intE .u64) 43 H' (.slice Aa0 a0.length pa0) xPa0c5 cPa0c5 ∧ (if (2 : Int) ≤ (n7l2 - a1) then (LR.seq (k_a (((n7l2 - 1)).toNat + 1) (((n7l2 - 1), xPa0c4))) (fun ol6 => ol6.2)) else xPa0c4 : (List Int)) = xPa0c5) (fun ⟨xPa0c5, cPa0c5⟩ => [(0, .slice Aa0 a0.length pa0), (1, .int .i64 a1), (2, .int .i64 a2), (7, .int .i64 n7l2), (8, .int .i64 n8l1)]) ?_ ?_
  ·refine T.condD rfl (fun c61 => ?_) (fun c61 => ?_)
   ·refine T.set 61 (.bool true) (congrArg Value.bool (decide_eq_true c61)) ?_
    refine sR ?_
    refine R.mvE rfl cA ?_
    refine R.subI rfl rfl rfl oA ?_
    refine R.asE rfl cA ?_
    refine nN ?_
    refine T.block ?_
    refine T.loop (ι := Nat × Int × (List Int) × Chunk) (fun ⟨kl6, n9l6, xPa0l6, cPa0l6⟩ H' L' ds' => n9l6.toNat < kl6 ∧ Has L' [cPa0l6] ∧ OwnS (intE .u64) 43 H' (.slice Aa0 a0.length pa0) xPa0l6 cPa0l6 ∧ 0 ≤ n9l6 ∧ n9l6 < a2 ∧ k_a kl6 ((n9l6, xPa0l6)) = k_a (((n7l2 - 1)).toNat + 1) (((n7l2 - 1), xPa0c4))) (fun ⟨kl6, n9l6, xPa0l6, cPa0l6⟩ => [(0, .slice Aa0 a0.length pa0), (1, .int .i64 a1), (2, .int .i64 a2), (7, .int .i64 n7l2), (8, .int .i64 n8l1), (9, .int .i64 n9l6)]) (fun ⟨kl6, n9l6, xPa0l6, cPa0l6⟩ => kl6) ((((n7l2 - 1)).toNat + 1), (n7l2 - 1), xPa0c4, cPa0c4) ?_ ?_ ?_
    ·exact ⟨oA, (Has.cons .hd Has.nil), wPa0c4, bA, bA, (by rfl)⟩
    ·exact ⟨rfl, rfl, rfl, rfl, rfl, rfl, trivial⟩
    intro ⟨kl6, n9l6, xPa0l6, cPa0l6⟩ σ_l6 H_l6 L_l6 ds_l6 s_l6 hI_l6
    obtain ⟨hkl6, hI_l6⟩ := hI_l6
    obtain ⟨ml6, rfl⟩ : ∃ m, kl6 = m + 1 := ⟨kl6 - 1, by omega⟩
    obtain ⟨hLl6, wPa0l6, hBl6_0, hBl6_1, hQl6⟩ := hI_l6
    have nPa0l6_ := OwnS.len wPa0l6
    refine T.has hLl6 ?_
    refine T.seq ?_
    refine sR ?_
    refine R.mvE rfl cA ?_
    refine R.geq rfl rfl rfl ?_
    refine nN ?_
    refine T.condD rfl (fun c65 => ?_) (fun c65 => ?_)
    ·refine T.set 65 (.bool true) (congrArg Value.bool (decide_eq_true c65)) ?_
     refine T.skip (Post.thnN ?_)
     refine T.seq ?_
     refine T.block ?_
     refine T.seq ?_
     refine T.seq ?_
     refine T.cutK (ι := Bool) (fun b78c7 H' L' ds' => Has L' [cPa0l6] ∧ ((!(k_8 (xPa0l6.getD n9l6.toNat (0 : Int)) (xPa0l6.getD (((n9l6 - 1)).toNat) (0 : Int)))) : Bool) = b78c7) (fun b78c7 => [(0, .slice Aa0 a0.length pa0), (1, .int .i64 a1), (2, .int .i64 a2), (7, .int .i64 n7l2), (8, .int .i64 n8l1), (9, .int .i64 n9l6), (78, .bool (b78c7))]) ?_ ?_
     ·refine T.draw k_2b kA ?_
      refine vM 0 [1, 2, 3, 4, 5, 6, 7, 8, 9, 10] rfl rfl cA ?_
      refine vM 1 [2, 3, 4, 5, 6, 7, 8, 9, 10] rfl rfl cA ?_
      have hl70 : n9l6.toNat < a0.length := bA
      obtain ⟨y70, e70, h70⟩ : ∃ y, y = (xPa0l6.getD n9l6.toNat (0 : Int)) ∧ xPa0l6[n9l6.toNat]? = some y := ⟨_, rfl, k_6 (by first | exact hl70 | simpa using hl70 | (simp only [List.length_set]; omega) | omega | (rw [(k_1 _).length_eq]; exact hl70))⟩
      obtain ⟨b70, u70, cs70, l70, f70, j70, i70, g70, k70⟩ := OwnS.elem wPa0l6 h70
      obtain rfl : l70 = [.int .u64 y70] := g70
      refine vA 2 [3, 4, 5, 6, 7, 8, 9, 10] rfl (fun _ _ h_ => R.ixp (sz := ((intE .u64)).size) Tryz.underlying30 Tryz.sizeOf43 rfl rfl rfl bA i70 (TL.nil h_)) ?_
      refine vM 4 [3, 5, 6, 7, 8, 9, 10] rfl rfl cA ?_
      refine vM 5 [3, 6, 7, 8, 9, 10] rfl rfl cA ?_
      refine vA 6 [3, 7, 8, 9, 10] rfl (fun _ _ h_ => R.subI rfl rfl rfl oA (TL.nil h_)) ?_
      have hl75 : ((n9l6 - 1)).toNat < a0.length := bA
      obtain ⟨y75, e75, h75⟩ : ∃ y, y = (xPa0l6.getD (((n9l6 - 1)).toNat) (0 : Int)) ∧ xPa0l6[((n9l6 - 1)).toNat]? = some y := ⟨_, rfl, k_6 (by first | exact hl75 | simpa using hl75 | (simp only [List.length_set]; omega) | omega | (rw [(k_1 _).length_eq]; exact hl75))⟩
      obtain ⟨b75, u75, cs75, l75, f75, j75, i75, g75, k75⟩ := OwnS.elem wPa0l6 h75
      obtain rfl : l75 = [.int .u64 y75] := g75
      refine vA 7 [3, 8, 9, 10] rfl (fun _ _ h_ => R.ixp (sz := ((intE .u64)).size) Tryz.underlying30 Tryz.sizeOf43 rfl rfl rfl bA i75 (TL.nil h_)) ?_
      refine Plan.s2 3 8 [8, 9, 10] [3, 9, 10] kA kA kA rfl rfl ?_ ?_
      ·refine R.ld Tryz.isAgg43 rfl rfl (by rw [← f70]; exact .hd) (k70 0 _ rfl) ?_
       refine TL.nil (Plan.e1 (HLe.refl _) ?_)
       refine Plan.s1 8 [9, 10] kA kA rfl ?_
       refine R.ld Tryz.isAgg43 rfl rfl (by rw [← f75]; exact .hd) (k75 0 _ rfl) ?_
       refine TL.nil (Plan.e1 (HLe.refl _) ?_)
       refine vA 9 [10] rfl (fun _ _ h_ => R.callv rfl rfl rfl (k_41 _ (y70) (y75)) (TL.nil h_)) ?_
       refine vA 10 [] rfl (fun _ _ h_ => R.not rfl rfl (TL.nil h_)) ?_
       refine Plan.done (Post.thnN ?_)
       exact ⟨(!(k_8 y70 y75)), HLe.refl _, ⟨(Has.cons .hd Has.nil), (by subst e75; subst e70; rfl)⟩, rfl, rfl, rfl, rfl, rfl, rfl, rfl, trivial⟩
      refine R.ld Tryz.isAgg43 rfl rfl (by rw [← f75]; exact .hd) (k75 0 _ rfl) ?_
      refine TL.nil (Plan.e1 (HLe.refl _) ?_)
      refine Plan.s1 3 [9, 10] kA kA rfl ?_
      refine R.ld Tryz.isAgg43 rfl rfl (by rw [← f70]; exact .hd) (k70 0 _ rfl) ?_
      refine TL.nil (Plan.e1 (HLe.refl _) ?_)
      refine vA 9 [10] rfl (fun _ _ h_ => R.callv rfl rfl rfl (k_41 _ (y70) (y75)) (TL.nil h_)) ?_
      refine vA 10 [] rfl (fun _ _ h_ => R.not rfl rfl (TL.nil h_)) ?_
      refine Plan.done (Post.thnN ?_)
      exact ⟨(!(k_8 y70 y75)), HLe.refl _, ⟨(Has.cons .hd Has.nil), (by subst e75; subst e70; rfl)⟩, rfl, rfl, rfl, rfl, rfl, rfl, rfl, trivial⟩
     intro b78c7 σ_c7 H_c7 L_c7 ds_c7 s_c7 hI_c7
     obtain ⟨hLc7, hTc7⟩ := hI_c7
     refine T.has hLc7 ?_
     refine T.cond rfl (fun c78 => ?_) (fun c78 => ?_)
     ·refine T.set 78 (.bool true) (congrArg Value.bool c78) ?_
      have hZ78 := hTc7.trans c78
      try simp only [or_f, or_t, k_bf, k_c0, decide_eq_true_eq, decide_eq_false_iff_not, Bool.not_eq_true'] at hZ78
      refine T.exit (Post.thnE (Post.blkE rfl (Post.thnE (Post.thnE (Post.blkX ?_)))))
      have hEl6 : k_a (((n7l2 - 1)).toNat + 1) (((n7l2 - 1), xPa0c4)) = (n9l6, xPa0l6) := (by rw [← hQl6, k_a]; rw [if_pos c65, hTc7, LR.seq_go, if_t c78])
      refine id (Post.thnN ?_)
      exact ⟨(xPa0l6, cPa0l6), (s_l6.trans s_c7), ⟨(Has.cons .hd Has.nil), (OwnS.mono wPa0l6 s_c7), (by rw [if_pos c61, hEl6, LR.seq_go])⟩, rfl, rfl, rfl, rfl, rfl, trivial⟩
     refine T.set 78 (.bool false) (congrArg Value.bool c78) ?_
     have hZ78 := hTc7.trans c78
     try simp only [or_f, or_t, k_bf, k_c0, decide_eq_true_eq, decide_eq_false_iff_not, Bool.not_eq_true'] at hZ78
     refine T.skip (Post.thnN ?_)
     refine T.draw k_2b kA ?_
     refine vM 0 [1, 2, 3, 4, 5, 6, 7, 8, 9, 10, 11, 12, 13, 14, 15, 16, 17] rfl rfl cA ?_
     refine vM 1 [2, 3, 4, 5, 6, 7, 8, 9, 10, 11, 12, 13, 14, 15, 16, 17] rfl rfl cA ?_
     refine vM 2 [3, 4, 5, 6, 7, 8, 9, 10, 11, 12, 13, 14, 15, 16, 17] rfl rfl cA ?_
     refine vM 3 [4, 5, 6, 7, 8, 9, 10, 11, 12, 13, 14, 15, 16, 17] rfl rfl cA ?_
     refine vA 4 [5, 6, 7, 8, 9, 10, 11, 12, 13, 14, 15, 16, 17] rfl (fun _ _ h_ => R.subI rfl rfl rfl oA (TL.nil h_)) ?_
     refine vM 5 [6, 7, 8, 9, 10, 11, 12, 13, 14, 15, 16, 17] rfl rfl cA ?_
     refine vM 6 [7, 8, 9, 10, 11, 12, 13, 14, 15, 16, 17] rfl rfl cA ?_
     refine vA 7 [8, 9, 10, 11, 12, 13, 14, 15, 16, 17] rfl (fun _ _ h_ => R.subI rfl rfl rfl oA (TL.nil h_)) ?_
     have hl87 : ((n9l6 - 1)).toNat < a0.length := bA
     obtain ⟨y87, e87, h87⟩ : ∃ y, y = (xPa0l6.getD (((n9l6 - 1)).toNat) (0 : Int)) ∧ xPa0l6[((n9l6 - 1)).toNat]? = some y := ⟨_, rfl, k_6 (by first | exact hl87 | simpa using hl87 | (simp only [List.length_set]; omega) | omega | (rw [(k_1 _).length_eq]; exact hl87))⟩
     obtain ⟨b87, u87, cs87, l87, f87, j87, i87, g87, k87⟩ := OwnS.elem (OwnS.mono wPa0l6 s_c7) h87
     obtain rfl : l87 = [.int .u64 y87] := g87
     refine vA 8 [9, 10, 11, 12, 13, 14, 15, 16, 17] rfl (fun _ _ h_ => R.ixp (sz := ((intE .u64)).size) Tryz.underlying30 Tryz.sizeOf43 rfl rfl rfl bA i87 (TL.nil h_)) ?_
     refine vM 10 [9, 11, 12, 13, 14, 15, 16, 17] rfl rfl cA ?_
     refine vM 11 [9, 12, 13, 14, 15, 16, 17] rfl rfl cA ?_
     have hl91 : n9l6.toNat < a0.length := bA
     obtain ⟨y91, e91, h91⟩ : ∃ y, y = (xPa0l6.getD n9l6.toNat (0 : Int)) ∧ xPa0l6[n9l6.toNat]? = some y := ⟨_, rfl, k_6 (by first | exact hl91 | simpa using hl91 | (simp only [List.length_set]; omega) | omega | (rw [(k_1 _).length_eq]; exact hl91))⟩
     obtain ⟨b91, u91, cs91, l91, f91, j91, i91, g91, k91⟩ := OwnS.elem (OwnS.mono wPa0l6 s_c7) h91
     obtain rfl : l91 = [.int .u64 y91] := g91
     refine vA 12 [9, 13, 14, 15, 16, 17] rfl (fun _ _ h_ => R.ixp (sz := ((intE .u64)).size) Tryz.underlying30 Tryz.sizeOf43 rfl rfl rfl bA i91 (TL.nil h_)) ?_
     refine Plan.s2 9 13 [13, 14, 15, 16, 17] [9, 14, 15, 16, 17] kA kA kA rfl rfl ?_ ?_
     ·refine R.ld Tryz.isAgg43 rfl rfl (by rw [← f87]; exact .hd) (k87 0 _ rfl) ?_
      refine TL.nil (Plan.e1 (HLe.refl _) ?_)
      refine Plan.s1 13 [14, 15, 16, 17] kA kA rfl ?_
      refine R.ld Tryz.isAgg43 rfl rfl (by rw [← f91]; exact .hd) (k91 0 _ rfl) ?_
      refine TL.nil (Plan.e1 (HLe.refl _) ?_)
      have hl93 : n9l6.toNat < a0.length := bA
      obtain ⟨y93, e93, h93⟩ : ∃ y, y = (xPa0l6.getD n9l6.toNat (0 : Int)) ∧ xPa0l6[n9l6.toNat]? = some y := ⟨_, rfl, k_6 (by first | exact hl93 | simpa using hl93 | (simp only [List.length_set]; omega) | omega | (rw [(k_1 _).length_eq]; exact hl93))⟩
      obtain ⟨b93, u93, cs93, l93, f93, j93, i93, g93, k93⟩ := OwnS.elem (OwnS.mono wPa0l6 s_c7) h93
      obtain rfl : l93 = [.int .u64 y93] := g93
      refine vA 14 [15, 16, 17] rfl (fun _ _ h_ => R.ixp (sz := ((intE .u64)).size) Tryz.underlying30 Tryz.sizeOf43 rfl rfl rfl bA i93 (TL.nil h_)) ?_
      refine Plan.s1 15 [16, 17] kA kA rfl ?_
      refine R.stEF (E := (intE .u64)) (e := 43) (v := (.slice Aa0 a0.length pa0)) (m := [.int .u64 y87]) (o := 0) (y := y93) (y' := y87) (j := n9l6.toNat) Tryz.sizeOf43 rfl (OwnS.mono wPa0l6 s_c7) .hd i93 rfl rfl (cells1 rfl) (k_20 rfl) h93 (by show 0 + 1 ≤ 1; decide) (fun l hl => by have e0 : l = [.int .u64 y93] := hl; subst e0; exact rfl) ?_
      intro cst163 wst163
      refine TL.nil (Plan.e0 (HLe.refl _) ?_)
      have hl94 : ((n9l6 - 1)).toNat < a0.length := bA
      obtain ⟨y94, e94, h94⟩ : ∃ y, y = (((xPa0l6.set n9l6.toNat y87)).getD (((n9l6 - 1)).toNat) (0 : Int)) ∧ ((xPa0l6.set n9l6.toNat y87))[((n9l6 - 1)).toNat]? = some y := ⟨_, rfl, k_6 (by first | exact hl94 | simpa using hl94 | (simp only [List.length_set]; omega) | omega | (rw [(k_1 _).length_eq]; exact hl94))⟩
      obtain ⟨b94, u94, cs94, l94, f94, j94, i94, g94, k94⟩ := OwnS.elem wst163 h94
      obtain rfl : l94 = [.int .u64 y94] := g94
      refine vA 16 [17] rfl (fun _ _ h_ => R.ixp (sz := ((intE .u64)).size) Tryz.underlying30 Tryz.sizeOf43 rfl rfl rfl bA i94 (TL.nil h_)) ?_
      refine Plan.s1 17 [] kA kA rfl ?_
      refine R.stEF (E := (intE .u64)) (e := 43) (v := (.slice Aa0 a0.length pa0)) (m := [.int .u64 y91]) (o := 0) (y := y94) (y' := y91) (j := ((n9l6 - 1)).toNat) Tryz.sizeOf43 rfl wst163 .hd i94 rfl rfl (cells1 rfl) (k_20 rfl) h94 (by show 0 + 1 ≤ 1; decide) (fun l hl => by have e0 : l = [.int .u64 y94] := hl; subst e0; exact rfl) ?_
      intro cst164 wst164
      refine TL.nil (Plan.e0 (HLe.refl _) ?_)
      refine Plan.done (Post.blkN ?_)
      refine id (Post.thnN ?_)
      refine T.region ?_
      refine R.mvE rfl cA ?_
      refine R.subI rfl rfl rfl oA ?_
      refine R.asE rfl cA ?_
      refine nN ?_
      exact ⟨(ml6, (n9l6 - 1), (((xPa0l6.set n9l6.toNat y87)).set (((n9l6 - 1)).toNat) y91), cst164), (s_l6.trans s_c7), ⟨(by first | omega | (simp; omega) | (simp at *; omega)), (Has.cons .hd Has.nil), wst164, bA, bA, (by subst e94; subst e93; subst e91; subst e87; rw [← hQl6, k_a]; rw [if_pos c65, hTc7, LR.seq_go, if_f c78])⟩, by show ml6 < ml6 + 1; omega, rfl, rfl, rfl, rfl, rfl, rfl, trivial⟩
     refine R.ld Tryz.isAgg43 rfl rfl (by rw [← f91]; exact .hd) (k91 0 _ rfl) ?_
     refine TL.nil (Plan.e1 (HLe.refl _) ?_)
     refine Plan.s1 9 [14, 15, 16, 17] kA kA rfl ?_
     refine R.ld Tryz.isAgg43 rfl rfl (by rw [← f87]; exact .hd) (k87 0 _ rfl) ?_
     refine TL.nil (Plan.e1 (HLe.refl _) ?_)
     have hl93 : n9l6.toNat < a0.length := bA
     obtain ⟨y93, e93, h93⟩ : ∃ y, y = (xPa0l6.getD n9l6.toNat (0 : Int)) ∧ xPa0l6[n9l6.toNat]? = some y := ⟨_, rfl, k_6 (by first | exact hl93 | simpa using hl93 | (simp only [List.length_set]; omega) | omega | (rw [(k_1 _).length_eq]; exact hl93))⟩
     obtain ⟨b93, u93, cs93, l93, f93, j93, i93, g93, k93⟩ := OwnS.elem (OwnS.mono wPa0l6 s_c7) h93
     obtain rfl : l93 = [.int .u64 y93] := g93
     refine vA 14 [15, 16, 17] rfl (fun _ _ h_ => R.ixp (sz := ((intE .u64)).size) Tryz.underlying30 Tryz.sizeOf43 rfl rfl rfl bA i93 (TL.nil h_)) ?_
     refine Plan.s1 15 [16, 17] kA kA rfl ?_
     refine R.stEF (E := (intE .u64)) (e := 43) (v := (.slice Aa0 a0.length pa0)) (m := [.int .u64 y87]) (o := 0) (y := y93) (y' := y87) (j := n9l6.toNat) Tryz.sizeOf43 rfl (OwnS.mono wPa0l6 s_c7) .hd i93 rfl rfl (cells1 rfl) (k_20 rfl) h93 (by show 0 + 1 ≤ 1; decide) (fun l hl => by have e0 : l = [.int .u64 y93] := hl; subst e0; exact rfl) ?_
     intro cst165 wst165
     refine TL.nil (Plan.e0 (HLe.refl _) ?_)
     have hl94 : ((n9l6 - 1)).toNat < a0.length := bA
     obtain ⟨y94, e94, h94⟩ : ∃ y, y = (((xPa0l6.set n9l6.toNat y87)).getD (((n9l6 - 1)).toNat) (0 : Int)) ∧ ((xPa0l6.set n9l6.toNat y87))[((n9l6 - 1)).toNat]? = some y := ⟨_, rfl, k_6 (by first | exact hl94 | simpa using hl94 | (simp only [List.length_set]; omega) | omega | (rw [(k_1 _).length_eq]; exact hl94))⟩
     obtain ⟨b94, u94, cs94, l94, f94, j94, i94, g94, k94⟩ := OwnS.elem wst165 h94
     obtain rfl : l94 = [.int .u64 y94] := g94
     refine vA 16 [17] rfl (fun _ _ h_ => R.ixp (sz := ((intE .u64)).size) Tryz.underlying30 Tryz.sizeOf43 rfl rfl rfl bA i94 (TL.nil h_)) ?_
     refine Plan.s1 17 [] kA kA rfl ?_
     refine R.stEF (E := (intE .u64)) (e := 43) (v := (.slice Aa0 a0.length pa0)) (m := [.int .u64 y91]) (o := 0) (y := y94) (y' := y91) (j := ((n9l6 - 1)).toNat) Tryz.sizeOf43 rfl wst165 .hd i94 rfl rfl (cells1 rfl) (k_20 rfl) h94 (by show 0 + 1 ≤ 1; decide) (fun l hl => by have e0 : l = [.int .u64 y94] := hl; subst e0; exact rfl) ?_
     intro cst166 wst166
     refine TL.nil (Plan.e0 (HLe.refl _) ?_)
     refine Plan.done (Post.blkN ?_)
     refine id (Post.thnN ?_)
     refine T.region ?_
     refine R.mvE rfl cA ?_
     refine R.subI rfl rfl rfl oA ?_
     refine R.asE rfl cA ?_
     refine nN ?_
     exact ⟨(ml6, (n9l6 - 1), (((xPa0l6.set n9l6.toNat y87)).set (((n9l6 - 1)).toNat) y91), cst166), (s_l6.trans s_c7), ⟨(by first | omega | (simp; omega) | (simp at *; omega)), (Has.cons .hd Has.nil), wst166, bA, bA, (by subst e94; subst e93; subst e91; subst e87; rw [← hQl6, k_a]; rw [if_pos c65, hTc7, LR.seq_go, if_f c78])⟩, by show ml6 < ml6 + 1; omega, rfl, rfl, rfl, rfl, rfl, rfl, trivial⟩
    refine T.set 65 (.bool false) (congrArg Value.bool (decide_eq_false c65)) ?_
    refine T.exit (Post.thnE (Post.thnE (Post.blkX ?_)))
    have hEl6 : k_a (((n7l2 - 1)).toNat + 1) (((n7l2 - 1), xPa0c4)) = (n9l6, xPa0l6) := (by rw [← hQl6, k_a]; rw [if_neg c65])
    refine id (Post.thnN ?_)
    exact ⟨(xPa0l6, cPa0l6), s_l6, ⟨(Has.cons .hd Has.nil), wPa0l6, (by rw [if_pos c61, hEl6, LR.seq_go])⟩, rfl, rfl, rfl, rfl, rfl, trivial⟩
   refine T.set 61 (.bool false) (congrArg Value.bool (decide_eq_false c61)) ?_
   refine T.skip (Post.thnN ?_)
   exact ⟨(xPa0c4, cPa0c4), HLe.refl _, ⟨(Has.cons .hd Has.nil), wPa0c4, (by rw [if_neg c61])⟩, rfl, rfl, rfl, rfl, rfl, trivial⟩
  intro ⟨xPa0c5, cPa0c5⟩ σ_c5 H_c5 L_c5 ds_c5 s_c5 hI_c5
  obtain ⟨hLc5, wPa0c5, hTc5⟩ := hI_c5
  have nPa0c5_ := OwnS.len wPa0c5
  refine T.has hLc5 ?_
  refine sR ?_
  refine R.mvE rfl cA ?_
  refine R.mvE rfl cA ?_
  refine R.subI rfl rfl rfl oA ?_
  refine R.geq rfl rfl rfl ?_
  refine nN ?_
  refine T.condD rfl (fun c98 => ?_) (fun c98 => ?_)
  ·refine T.set 98 (.bool true) (congrArg Value.bool (decide_eq_true c98)) ?_
   refine sR ?_
   refine R.mvE rfl cA ?_
   refine R.addI rfl rfl rfl oA ?_
   refine R.asE rfl cA ?_
   refine nN ?_
   refine T.block ?_
   refine T.loop (ι := Nat × Int × (List Int) × Chunk) (fun ⟨kl8, n10l8, xPa0l8, cPa0l8⟩ H' L' ds' => (a2 - n10l8).toNat < kl8 ∧ Has L' [cPa0l8] ∧ OwnS (intE .u64) 43 H' (.slice Aa0 a0.length pa0) xPa0l8 cPa0l8 ∧ a1 + 1 ≤ n10l8 ∧ n10l8 ≤ a2 ∧ k_10 a2 kl8 ((n10l8, xPa0l8)) = k_10 a2 ((a2 - ((n7l2 + 1))).toNat + 1) (((n7l2 + 1), xPa0c5))) (fun ⟨kl8, n10l8, xPa0l8, cPa0l8⟩ => [(0, .slice Aa0 a0.length pa0), (1, .int .i64 a1), (2, .int .i64 a2), (7, .int .i64 n7l2), (8, .int .i64 n8l1), (10, .int .i64 n10l8)]) (fun ⟨kl8, n10l8, xPa0l8, cPa0l8⟩ => kl8) (((a2 - ((n7l2 + 1))).toNat + 1), (n7l2 + 1), xPa0c5, cPa0c5) ?_ ?_ ?_
   ·exact ⟨oA, (Has.cons .hd Has.nil), wPa0c5, bA, bA, (by rfl)⟩
   ·exact ⟨rfl, rfl, rfl, rfl, rfl, rfl, trivial⟩
   intro ⟨kl8, n10l8, xPa0l8, cPa0l8⟩ σ_l8 H_l8 L_l8 ds_l8 s_l8 hI_l8
   obtain ⟨hkl8, hI_l8⟩ := hI_l8
   obtain ⟨ml8, rfl⟩ : ∃ m, kl8 = m + 1 := ⟨kl8 - 1, by omega⟩
   obtain ⟨hLl8, wPa0l8, hBl8_0, hBl8_1, hQl8⟩ := hI_l8
   have nPa0l8_ := OwnS.len wPa0l8
   refine T.has hLl8 ?_
   refine T.seq ?_
   refine sR ?_
   refine R.mvE rfl cA ?_
   refine R.mvE rfl cA ?_
   refine R.lss rfl rfl rfl ?_
   refine nN ?_
   refine T.condD rfl (fun c103 => ?_) (fun c103 => ?_)
   ·refine T.set 103 (.bool true) (congrArg Value.bool (decide_eq_true c103)) ?_
    refine T.skip (Post.thnN ?_)
    refine T.seq ?_
    refine T.block ?_
    refine T.seq ?_
    refine T.seq ?_
    refine T.cutK (ι := Bool) (fun b116c9 H' L' ds' => Has L' [cPa0l8] ∧ ((!(k_8 (xPa0l8.getD n10l8.toNat (0 : Int)) (xPa0l8.getD (((n10l8 - 1)).toNat) (0 : Int)))) : Bool) = b116c9) (fun b116c9 => [(0, .slice Aa0 a0.length pa0), (1, .int .i64 a1), (2, .int .i64 a2), (7, .int .i64 n7l2), (8, .int .i64 n8l1), (10, .int .i64 n10l8), (116, .bool (b116c9))]) ?_ ?_
    ·refine T.draw k_2b kA ?_
     refine vM 0 [1, 2, 3, 4, 5, 6, 7, 8, 9, 10] rfl rfl cA ?_
     refine vM 1 [2, 3, 4, 5, 6, 7, 8, 9, 10] rfl rfl cA ?_
     have hl108 : n10l8.toNat < a0.length := bA
     obtain ⟨y108, e108, h108⟩ : ∃ y, y = (xPa0l8.getD n10l8.toNat (0 : Int)) ∧ xPa0l8[n10l8.toNat]? = some y := ⟨_, rfl, k_6 (by first | exact hl108 | simpa using hl108 | (simp only [List.length_set]; omega) | omega | (rw [(k_1 _).length_eq]; exact hl108))⟩
     obtain ⟨b108, u108, cs108, l108, f108, j108, i108, g108, k108⟩ := OwnS.elem wPa0l8 h108
     obtain rfl : l108 = [.int .u64 y108] := g108
     refine vA 2 [3, 4, 5, 6, 7, 8, 9, 10] rfl (fun _ _ h_ => R.ixp (sz := ((intE .u64)).size) Tryz.underlying30 Tryz.sizeOf43 rfl rfl rfl bA i108 (TL.nil h_)) ?_
     refine vM 4 [3, 5, 6, 7, 8, 9, 10] rfl rfl cA ?_
     refine vM 5 [3, 6, 7, 8, 9, 10] rfl rfl cA ?_
     refine vA 6 [3, 7, 8, 9, 10] rfl (fun _ _ h_ => R.subI rfl rfl rfl oA (TL.nil h_)) ?_
     have hl113 : ((n10l8 - 1)).toNat < a0.length := bA
     obtain ⟨y113, e113, h113⟩ : ∃ y, y = (xPa0l8.getD (((n10l8 - 1)).toNat) (0 : Int)) ∧ xPa0l8[((n10l8 - 1)).toNat]? = some y := ⟨_, rfl, k_6 (by first | exact hl113 | simpa using hl113 | (simp only [List.length_set]; omega) | omega | (rw [(k_1 _).length_eq]; exact hl113))⟩
     obtain ⟨b113, u113, cs113, l113, f113, j113, i113, g113, k113⟩ := OwnS.elem wPa0l8 h113
     obtain rfl : l113 = [.int .u64 y113] := g113
     refine vA 7 [3, 8, 9, 10] rfl (fun _ _ h_ => R.ixp (sz := ((intE .u64)).size) Tryz.underlying30 Tryz.sizeOf43 rfl rfl rfl bA i113 (TL.nil h_)) ?_
     refine Plan.s2 3 8 [8, 9, 10] [3, 9, 10] kA kA kA rfl rfl ?_ ?_
     ·refine R.ld Tryz.isAgg43 rfl rfl (by rw [← f108]; exact .hd) (k108 0 _ rfl) ?_
      refine TL.nil (Plan.e1 (HLe.refl _) ?_)
      refine Plan.s1 8 [9, 10] kA kA rfl ?_
      refine R.ld Tryz.isAgg43 rfl rfl (by rw [← f113]; exact .hd) (k113 0 _ rfl) ?_
      refine TL.nil (Plan.e1 (HLe.refl _) ?_)
      refine vA 9 [10] rfl (fun _ _ h_ => R.callv rfl rfl rfl (k_41 _ (y108) (y113)) (TL.nil h_)) ?_
      refine vA 10 [] rfl (fun _ _ h_ => R.not rfl rfl (TL.nil h_)) ?_
      refine Plan.done (Post.thnN ?_)
      exact ⟨(!(k_8 y108 y113)), HLe.refl _, ⟨(Has.cons .hd Has.nil), (by subst e113; subst e108; rfl)⟩, rfl, rfl, rfl, rfl, rfl, rfl, rfl, trivial⟩
     refine R.ld Tryz.isAgg43 rfl rfl (by rw [← f113]; exact .hd) (k113 0 _ rfl) ?_
     refine TL.nil (Plan.e1 (HLe.refl _) ?_)
     refine Plan.s1 3 [9, 10] kA kA rfl ?_
     refine R.ld Tryz.isAgg43 rfl rfl (by rw [← f108]; exact .hd) (k108 0 _ rfl) ?_
     refine TL.nil (Plan.e1 (HLe.refl _) ?_)
     refine vA 9 [10] rfl (fun _ _ h_ => R.callv rfl rfl rfl (k_41 _ (y108) (y113)) (TL.nil h_)) ?_
     refine vA 10 [] rfl (fun _ _ h_ => R.not rfl rfl (TL.nil h_)) ?_
     refine Plan.done (Post.thnN ?_)
     exact ⟨(!(k_8 y108 y113)), HLe.refl _, ⟨(Has.cons .hd Has.nil), (by subst e113; subst e108; rfl)⟩, rfl, rfl, rfl, rfl, rfl, rfl, rfl, trivial⟩
    intro b116c9 σ_c9 H_c9 L_c9 ds_c9 s_c9 hI_c9
    obtain ⟨hLc9, hTc9⟩ := hI_c9
    refine T.has hLc9 ?_
    refine T.cond rfl (fun c116 => ?_) (fun c116 => ?_)
    ·refine T.set 116 (.bool true) (congrArg Value.bool c116) ?_
     have hZ116 := hTc9.trans c116
     try simp only [or_f, or_t, k_bf, k_c0, decide_eq_true_eq, decide_eq_false_iff_not, Bool.not_eq_true'] at hZ116
     refine T.exit (Post.thnE (Post.blkE rfl (Post.thnE (Post.thnE (Post.blkX ?_)))))
     have hEl8 : k_10 a2 ((a2 - ((n7l2 + 1))).toNat + 1) (((n7l2 + 1), xPa0c5)) = (n10l8, xPa0l8) := (by rw [← hQl8, k_10]; rw [if_pos c103, hTc9, LR.seq_go, if_t c116])
     refine id (Post.blkN ?_)
     refine id (Post.thnN ?_)
     refine T.region ?_
     refine R.mvE rfl cA ?_
     refine R.addI rfl rfl rfl oA ?_
     refine R.asE rfl cA ?_
     refine nN ?_
     exact ⟨(ml1, n7l2, (n8l1 + 1), xPa0l8, cPa0l8), (s_l1.trans (s_l2.trans (s_c3.trans (s_c4.trans (s_c5.trans (s_l8.trans s_c9)))))), ⟨(by first | omega | (simp; omega) | (simp at *; omega)), (Has.cons .hd Has.nil), (OwnS.mono wPa0l8 s_c9), bA, bA, bA, bA, (by rw [← hQl1, k_4]; rw [if_pos c14, hEl2, LR.seq_go, if_neg c37, if_neg c41, hTc4, LR.seq_go, hTc5, LR.seq_go, if_pos c98, hEl8, LR.seq_go])⟩, by show ml1 < ml1 + 1; omega, rfl, rfl, rfl, rfl, rfl, trivial⟩
    refine T.set 116 (.bool false) (congrArg Value.bool c116) ?_
    have hZ116 := hTc9.trans c116
    try simp only [or_f, or_t, k_bf, k_c0, decide_eq_true_eq, decide_eq_false_iff_not, Bool.not_eq_true'] at hZ116
    refine T.skip (Post.thnN ?_)
    refine T.draw k_2b kA ?_
    refine vM 0 [1, 2, 3, 4, 5, 6, 7, 8, 9, 10, 11, 12, 13, 14, 15, 16, 17] rfl rfl cA ?_
    refine vM 1 [2, 3, 4, 5, 6, 7, 8, 9, 10, 11, 12, 13, 14, 15, 16, 17] rfl rfl cA ?_
    refine vM 2 [3, 4, 5, 6, 7, 8, 9, 10, 11, 12, 13, 14, 15, 16, 17] rfl rfl cA ?_
    refine vM 3 [4, 5, 6, 7, 8, 9, 10, 11, 12, 13, 14, 15, 16, 17] rfl rfl cA ?_
    refine vA 4 [5, 6, 7, 8, 9, 10, 11, 12, 13, 14, 15, 16, 17] rfl (fun _ _ h_ => R.subI rfl rfl rfl oA (TL.nil h_)) ?_
    refine vM 5 [6, 7, 8, 9, 10, 11, 12, 13, 14, 15, 16, 17] rfl rfl cA ?_
    refine vM 6 [7, 8, 9, 10, 11, 12, 13, 14, 15, 16, 17] rfl rfl cA ?_
    refine vA 7 [8, 9, 10, 11, 12, 13, 14, 15, 16, 17] rfl (fun _ _ h_ => R.subI rfl rfl rfl oA (TL.nil h_)) ?_
    have hl125 : ((n10l8 - 1)).toNat < a0.length := bA
    obtain ⟨y125, e125, h125⟩ : ∃ y, y = (xPa0l8.getD (((n10l8 - 1)).toNat) (0 : Int)) ∧ xPa0l8[((n10l8 - 1)).toNat]? = some y := ⟨_, rfl, k_6 (by first | exact hl125 | simpa using hl125 | (simp only [List.length_set]; omega) | omega | (rw [(k_1 _).length_eq]; exact hl125))⟩
    obtain ⟨b125, u125, cs125, l125, f125, j125, i125, g125, k125⟩ := OwnS.elem (OwnS.mono wPa0l8 s_c9) h125
    obtain rfl : l125 = [.int .u64 y125] := g125
    refine vA 8 [9, 10, 11, 12, 13, 14, 15, 16, 17] rfl (fun _ _ h_ => R.ixp (sz := ((intE .u64)).size) Tryz.underlying30 Tryz.sizeOf43 rfl rfl rfl bA i125 (TL.nil h_)) ?_
    refine vM 10 [9, 11, 12, 13, 14, 15, 16, 17] rfl rfl cA ?_
    refine vM 11 [9, 12, 13, 14, 15, 16, 17] rfl rfl cA ?_
    have hl129 : n10l8.toNat < a0.length := bA
    obtain ⟨y129, e129, h129⟩ : ∃ y, y = (xPa0l8.getD n10l8.toNat (0 : Int)) ∧ xPa0l8[n10l8.toNat]? = some y := ⟨_, rfl, k_6 (by first | exact hl129 | simpa using hl129 | (simp only [List.length_set]; omega) | omega | (rw [(k_1 _).length_eq]; exact hl129))⟩
    obtain ⟨b129, u129, cs129, l129, f129, j129, i129, g129, k129⟩ := OwnS.elem (OwnS.mono wPa0l8 s_c9) h129
    obtain rfl : l129 = [.int .u64 y129] := g129
    refine vA 12 [9, 13, 14, 15, 16, 17] rfl (fun _ _ h_ => R.ixp (sz := ((intE .u64)).size) Tryz.underlying30 Tryz.sizeOf43 rfl rfl rfl bA i129 (TL.nil h_)) ?_
    refine Plan.s2 9 13 [13, 14, 15, 16, 17] [9, 14, 15, 16, 17] kA kA kA rfl rfl ?_ ?_
    ·refine R.ld Tryz.isAgg43 rfl rfl (by rw [← f125]; exact .hd) (k125 0 _ rfl) ?_
     refine TL.nil (Plan.e1 (HLe.refl _) ?_)
     refine Plan.s1 13 [14, 15, 16, 17] kA kA rfl ?_
     refine R.ld Tryz.isAgg43 rfl rfl (by rw [← f129]; exact .hd) (k129 0 _ rfl) ?_
     refine TL.nil (Plan.e1 (HLe.refl _) ?_)
     have hl131 : n10l8.toNat < a0.length := bA
     obtain ⟨y131, e131, h131⟩ : ∃ y, y = (xPa0l8.getD n10l8.toNat (0 : Int)) ∧ xPa0l8[n10l8.toNat]? = some y := ⟨_, rfl, k_6 (by first | exact hl131 | simpa using hl131 | (simp only [List.length_set]; omega) | omega | (rw [(k_1 _).length_eq]; exact hl131))⟩
     obtain ⟨b131, u131, cs131, l131, f131, j131, i131, g131, k131⟩ := OwnS.elem (OwnS.mono wPa0l8 s_c9) h131
     obtain rfl : l131 = [.int .u64 y131] := g131
     refine vA 14 [15, 16, 17] rfl (fun _ _ h_ => R.ixp (sz := ((intE .u64)).size) Tryz.underlying30 Tryz.sizeOf43 rfl rfl rfl bA i131 (TL.nil h_)) ?_
     refine Plan.s1 15 [16, 17] kA kA rfl ?_
     refine R.stEF (E := (intE .u64)) (e := 43) (v := (.slice Aa0 a0.length pa0)) (m := [.int .u64 y125]) (o := 0) (y := y131) (y' := y125) (j := n10l8.toNat) Tryz.sizeOf43 rfl (OwnS.mono wPa0l8 s_c9) .hd i131 rfl rfl (cells1 rfl) (k_20 rfl) h131 (by show 0 + 1 ≤ 1; decide) (fun l hl => by have e0 : l = [.int .u64 y131] := hl; subst e0; exact rfl) ?_
     intro cst167 wst167
     refine TL.nil (Plan.e0 (HLe.refl _) ?_)
     have hl132 : ((n10l8 - 1)).toNat < a0.length := bA
     obtain ⟨y132, e132, h132⟩ : ∃ y, y = (((xPa0l8.set n10l8.toNat y125)).getD (((n10l8 - 1)).toNat) (0 : Int)) ∧ ((xPa0l8.set n10l8.toNat y125))[((n10l8 - 1)).toNat]? = some y := ⟨_, rfl, k_6 (by first | exact hl132 | simpa using hl132 | (simp only [List.length_set]; omega) | omega | (rw [(k_1 _).length_eq]; exact hl132))⟩
     obtain ⟨b132, u132, cs132, l132, f132, j132, i132, g132, k132⟩ := OwnS.elem wst167 h132
     obtain rfl : l132 = [.int .u64 y132] := g132
     refine vA 16 [17] rfl (fun _ _ h_ => R.ixp (sz := ((intE .u64)).size) Tryz.underlying30 Tryz.sizeOf43 rfl rfl rfl bA i132 (TL.nil h_)) ?_
     refine Plan.s1 17 [] kA kA rfl ?_
     refine R.stEF (E := (intE .u64)) (e := 43) (v := (.slice Aa0 a0.length pa0)) (m := [.int .u64 y129]) (o := 0) (y := y132) (y' := y129) (j := ((n10l8 - 1)).toNat) Tryz.sizeOf43 rfl wst167 .hd i132 rfl rfl (cells1 rfl) (k_20 rfl) h132 (by show 0 + 1 ≤ 1; decide) (fun l hl => by have e0 : l = [.int .u64 y132] := hl; subst e0; exact rfl) ?_
     intro cst168 wst168
     refine TL.nil (Plan.e0 (HLe.refl _) ?_)
     refine Plan.done (Post.blkN ?_)
     refine id (Post.thnN ?_)
     refine T.region ?_
     refine R.mvE rfl cA ?_
     refine R.addI rfl rfl rfl oA ?_
     refine R.asE rfl cA ?_
     refine nN ?_
     exact ⟨(ml8, (n10l8 + 1), (((xPa0l8.set n10l8.toNat y125)).set (((n10l8 - 1)).toNat) y129), cst168), (s_l8.trans s_c9), ⟨(by first | omega | (simp; omega) | (simp at *; omega)), (Has.cons .hd Has.nil), wst168, bA, bA, (by subst e132; subst e131; subst e129; subst e125; rw [← hQl8, k_10]; rw [if_pos c103, hTc9, LR.seq_go, if_f c116])⟩, by show ml8 < ml8 + 1; omega, rfl, rfl, rfl, rfl, rfl, rfl, trivial⟩
    refine R.ld Tryz.isAgg43 rfl rfl (by rw [← f129]; exact .hd) (k129 0 _ rfl) ?_
    refine TL.nil (Plan.e1 (HLe.refl _) ?_)
    refine Plan.s1 9 [14, 15, 16, 17] kA kA rfl ?_
    refine R.ld Tryz.isAgg43 rfl rfl (by rw [← f125]; exact .hd) (k125 0 _ rfl) ?_
    refine TL.nil (Plan.e1 (HLe.refl _) ?_)
    have hl131 : n10l8.toNat < a0.length := bA
    obtain ⟨y131, e131, h131⟩ : ∃ y, y = (xPa0l8.getD n10l8.toNat (0 : Int)) ∧ xPa0l8[n10l8.toNat]? = some y := ⟨_, rfl, k_6 (by first | exact hl131 | simpa using hl131 | (simp only [List.length_set]; omega) | omega | (rw [(k_1 _).length_eq]; exact hl131))⟩
    obtain ⟨b131, u131, cs131, l131, f131, j131, i131, g131, k131⟩ := OwnS.elem (OwnS.mono wPa0l8 s_c9) h131
    obtain rfl : l131 = [.int .u64 y131] := g131
    refine vA 14 [15, 16, 17] rfl (fun _ _ h_ => R.ixp (sz := ((intE .u64)).size) Tryz.underlying30 Tryz.sizeOf43 rfl rfl rfl bA i131 (TL.nil h_)) ?_
    refine Plan.s1 15 [16, 17] kA kA rfl ?_
    refine R.stEF (E := (intE .u64)) (e := 43) (v := (.slice Aa0 a0.length pa0)) (m := [.int .u64 y125]) (o := 0) (y := y131) (y' := y125) (j := n10l8.toNat) Tryz.sizeOf43 rfl (OwnS.mono wPa0l8 s_c9) .hd i131 rfl rfl (cells1 rfl) (k_20 rfl) h131 (by show 0 + 1 ≤ 1; decide) (fun l hl => by have e0 : l = [.int .u64 y131] := hl; subst e0; exact rfl) ?_
    intro cst169 wst169
    refine TL.nil (Plan.e0 (HLe.refl _) ?_)
    have hl132 : ((n10l8 - 1)).toNat < a0.length := bA
    obtain ⟨y132, e132, h132⟩ : ∃ y, y = (((xPa0l8.set n10l8.toNat y125)).getD (((n10l8 - 1)).toNat) (0 : Int)) ∧ ((xPa0l8.set n10l8.toNat y125))[((n10l8 - 1)).toNat]? = some y := ⟨_, rfl, k_6 (by first | exact hl132 | simpa using hl132 | (simp only [List.length_set]; omega) | omega | (rw [(k_1 _).length_eq]; exact hl132))⟩
    obtain ⟨b132, u132, cs132, l132, f132, j132, i132, g132, k132⟩ := OwnS.elem wst169 h132
    obtain rfl : l132 = [.int .u64 y132] := g132
    refine vA 16 [17] rfl (fun _ _ h_ => R.ixp (sz := ((intE .u64)).size) Tryz.underlying30 Tryz.sizeOf43 rfl rfl rfl bA i132 (TL.nil h_)) ?_
    refine Plan.s1 17 [] kA kA rfl ?_
    refine R.stEF (E := (intE .u64)) (e := 43) (v := (.slice Aa0 a0.length pa0)) (m := [.int .u64 y129]) (o := 0) (y := y132) (y' := y129) (j := ((n10l8 - 1)).toNat) Tryz.sizeOf43 rfl wst169 .hd i132 rfl rfl (cells1 rfl) (k_20 rfl) h132 (by show 0 + 1 ≤ 1; decide) (fun l hl => by have e0 : l = [.int .u64 y132] := hl; subst e0; exact rfl) ?_
    intro cst170 wst170
    refine TL.nil (Plan.e0 (HLe.refl _) ?_)
    refine Plan.done (Post.blkN ?_)
    refine id (Post.thnN ?_)
    refine T.region ?_
    refine R.mvE rfl cA ?_
    refine R.addI rfl rfl rfl oA ?_
    refine R.asE rfl cA ?_
    refine nN ?_
    exact ⟨(ml8, (n10l8 + 1), (((xPa0l8.set n10l8.toNat y125)).set (((n10l8 - 1)).toNat) y129), cst170), (s_l8.trans s_c9), ⟨(by first | omega | (simp; omega) | (simp at *; omega)), (Has.cons .hd Has.nil), wst170, bA, bA, (by subst e132; subst e131; subst e129; subst e125; rw [← hQl8, k_10]; rw [if_pos c103, hTc9, LR.seq_go, if_f c116])⟩, by show ml8 < ml8 + 1; omega, rfl, rfl, rfl, rfl, rfl, rfl, trivial⟩
   refine T.set 103 (.bool false) (congrArg Value.bool (decide_eq_false c103)) ?_
   refine T.exit (Post.thnE (Post.thnE (Post.blkX ?_)))
   have hEl8 : k_10 a2 ((a2 - ((n7l2 + 1))).toNat + 1) (((n7l2 + 1), xPa0c5)) = (n10l8, xPa0l8) := (by rw [← hQl8, k_10]; rw [if_neg c103])
   refine id (Post.blkN ?_)
   refine id (Post.thnN ?_)
   refine T.region ?_
   refine R.mvE rfl cA ?_
   refine R.addI rfl rfl rfl oA ?_
   refine R.asE rfl cA ?_
   refine nN ?_
   exact ⟨(ml1, n7l2, (n8l1 + 1), xPa0l8, cPa0l8), (s_l1.trans (s_l2.trans (s_c3.trans (s_c4.trans (s_c5.trans s_l8))))), ⟨(by first | omega | (simp; omega) | (simp at *; omega)), (Has.cons .hd Has.nil), wPa0l8, bA, bA, bA, bA, (by rw [← hQl1, k_4]; rw [if_pos c14, hEl2, LR.seq_go, if_neg c37, if_neg c41, hTc4, LR.seq_go, hTc5, LR.seq_go, if_pos c98, hEl8, LR.seq_go])⟩, by show ml1 < ml1 + 1; omega, rfl, rfl, rfl, rfl, rfl, trivial⟩
  refine T.set 98 (.bool false) (congrArg Value.bool (decide_eq_false c98)) ?_
  refine T.skip (Post.blkN ?_)
  refine id (Post.thnN ?_)
  refine T.region ?_
  refine R.mvE rfl cA ?_
  refine R.addI rfl rfl rfl oA ?_
  refine R.asE rfl cA ?_
  refine nN ?_
  exact ⟨(ml1, n7l2, (n8l1 + 1), xPa0c5, cPa0c5), (s_l1.trans (s_l2.trans (s_c3.trans (s_c4.trans s_c5)))), ⟨(by first | omega | (simp; omega) | (simp at *; omega)), (Has.cons .hd Has.nil), wPa0c5, bA, bA, bA, bA, (by rw [← hQl1, k_4]; rw [if_pos c14, hEl2, LR.seq_go, if_neg c37, if_neg c41, hTc4, LR.seq_go, hTc5, LR.seq_go, if_neg c98])⟩, by show ml1 < ml1 + 1; omega, rfl, rfl, rfl, rfl, rfl, trivial⟩
 refine T.set 14 (.bool false) (congrArg Value.bool (decide_eq_false c14)) ?_
 refine T.exit (Post.thnE (Post.thnE (Post.blkX ?_)))
 have hEl1 : k_4 a1 a2 ((5 - 0 : Int).toNat + 1) (((a1 + 1), 0, a0)) = .go ((n7l1, n8l1, xPa0l1)) := (by rw [← hQl1, k_4]; rw [if_neg c14])
 refine id (Post.thnN ?_)
 refine sR ?_
 refine R.asE rfl cA ?_
 refine nN ?_
 refine T.has (Has.cons .hd Has.nil) ?_
 refine T.ret ?_
 have hM : k_e a0 a1 a2 = (false, xPa0l1) := by rw [k_e, hEl1, LR.on_go]
 exact fin1L (v := .bool false) [cPa0l1] rfl rfl (List.Sublist.refl _) ⟨cPa0l1, by first | rw [hM] | rfl, by first | rw [hM] | rfl, by rw [hM]; exact wPa0l1⟩
end Go.SX

set_option linter.unusedVariables false
set_option linter.unusedSimpArgs false
namespace Go.SX
open Go
theorem so_less (x y : Int) : k_8 x y = Sort.ltInt x y := by
  unfold k_8 k_9c Sort.ltInt; simp
theorem so_get (xs : List Int) (i : Nat) : xs.toArray[i]! = xs.getD i 0 := by
  simp [getElem!_def, List.getD_eq_getElem?_getD]
  cases xs[i]? <;> rfl
def sw (xs : List Int) (i j : Nat) : List Int := (xs.set i (xs.getD j 0)).set j (xs.getD i 0)
theorem so_swp (xs : List Int) (i j : Nat) : Sort.swp xs.toArray i j = (sw xs i j).toArray := by
  unfold Sort.swp sw; rw [so_get, so_get]; simp
theorem tn1 (j : Nat) : (((j + 1 : Nat) : Int) - 1).toNat = j := by omega
theorem tn1i (j : Nat) : (((j + 1 : Nat) : Int) - 1) = (j : Int) := by omega
theorem so_ifd (p : Prop) [Decidable p] (b : Bool) : (if p then b else false) = (decide p && b) := by by_cases h : p <;> simp [h]
theorem so_lt (i b : Nat) : decide ((i : Int) < (b : Int)) = decide (i < b) := by rw [decide_eq_decide]; omega
theorem so_le (i b : Nat) : decide ((i : Int) ≤ (b : Int)) = decide (i ≤ b) := by rw [decide_eq_decide]; omega
theorem so_ins_in (a : Nat) : ∀ (j m : Nat) (xs : List Int), j < a + m → 0 < m → (k_24 (a : Int) m ((j : Int), xs)).2 = (Sort.insInner Sort.ltInt a j xs.toArray).toList
  | j, 0, xs, _, h => absurd h (Nat.lt_irrefl _)
  | 0, m + 1, xs, _, _ => by
    simp only [k_24, LR.seq_go]
    rw [if_neg (by omega : ¬ (a : Int) < ((0 : Nat) : Int)), if_neg Bool.false_ne_true, Sort.insInner]
  | j + 1, m + 1, xs, h, _ => by
    simp only [k_24, LR.seq_go, Sort.insInner, so_get, so_less, tn1, tn1i, Int.toNat_natCast, so_swp]
    by_cases ha : a < j + 1
    · rw [if_pos (show (a : Int) < ((j + 1 : Nat) : Int) by omega), decide_eq_true (show j + 1 > a from ha), Bool.true_and]
      cases Sort.ltInt (xs.getD (j + 1) 0) (xs.getD j 0) with
      | true => rw [if_pos rfl, if_pos rfl]; exact so_ins_in a j m (sw xs (j + 1) j) (by omega) (by omega)
      | false => rw [if_neg Bool.false_ne_true, if_neg Bool.false_ne_true]
    · rw [if_neg (show ¬ (a : Int) < ((j + 1 : Nat) : Int) by omega), decide_eq_false (show ¬ j + 1 > a from ha), Bool.false_and, if_neg Bool.false_ne_true, if_neg Bool.false_ne_true]
theorem so_ins_out (a b : Nat) : ∀ (k i m : Nat) (xs : List Int), b - i ≤ k → k < m → a ≤ i → (k_30 (a : Int) (b : Int) m ((i : Int), xs)).2 = (Sort.insOuter Sort.ltInt a b i xs.toArray).toList
  | k, i, 0, xs, _, h, _ => by omega
  | k, i, m + 1, xs, h1, h2, h3 => by
    simp only [k_30, LR.seq_go]
    rw [Sort.insOuter]
    by_cases hb : i < b
    · rw [if_pos (show (i : Int) < (b : Int) by omega), if_pos hb, so_ins_in a i _ xs (by omega) (by omega)]
      cases k with
      | zero => omega
      | succ k =>
        have := so_ins_out a b k (i + 1) m (Sort.insInner Sort.ltInt a i xs.toArray).toList (by omega) (by omega) (by omega)
        rw [Array.toArray_toList] at this
        exact this
    · rw [if_neg (show ¬ (i : Int) < (b : Int) by omega), if_neg hb]
theorem so_ins (xs : List Int) (a b : Nat) : k_56 xs (a : Int) (b : Int) = (Sort.insertionSort Sort.ltInt xs.toArray a b).toList := by
  unfold k_56 Sort.insertionSort
  rw [LR.seq_go]
  exact so_ins_out a b (b - (a + 1)) (a + 1) _ xs (Nat.le_refl _) (by omega) (by omega)
theorem so_sift_l (hi first : Nat) : ∀ (k root m : Nat) (xs : List Int), hi - root ≤ k → k < m → LR.on (k_27 (hi : Int) (first : Int) m ((root : Int), xs)) (fun r => r) (fun o => o.2) = (Sort.siftDown Sort.ltInt hi first root xs.toArray).toList
  | k, root, 0, xs, _, h => by omega
  | k, root, m + 1, xs, h1, h2 => by
    simp only [k_27, LR.seq_go]
    rw [Sort.siftDown]
    by_cases hc : 2 * root + 1 ≥ hi
    · rw [if_pos (show (hi : Int) ≤ 2 * (root : Int) + 1 by omega), dif_pos hc, LR.on_go]
    rw [if_neg (show ¬ (hi : Int) ≤ 2 * (root : Int) + 1 by omega), dif_neg hc]
    simp only [so_get, so_less, so_swp]
    have e1 : ((first : Int) + (2 * (root : Int) + 1)).toNat = first + (2 * root + 1) := by omega
    have e2 : ((first : Int) + (2 * (root : Int) + 1) + 1).toNat = first + (2 * root + 1) + 1 := by omega
    have e3 : ((first : Int) + (root : Int)).toNat = first + root := by omega
    rw [e1, e2, e3]
    have key : ∀ c : Nat, root < c → c < hi → LR.on (if (!(Sort.ltInt (xs.getD (first + root) 0) (xs.getD ((first : Int) + (c : Int)).toNat 0))) = true then LR.ret xs else k_27 (hi : Int) (first : Int) m ((c : Int), (xs.set (first + root) (xs.getD ((first : Int) + (c : Int)).toNat 0)).set ((first : Int) + (c : Int)).toNat (xs.getD (first + root) 0))) (fun r => r) (fun o => o.2)
        = (if (!(Sort.ltInt (xs.getD (first + root) 0) (xs.getD (first + c) 0))) = true then xs.toArray else Sort.siftDown Sort.ltInt hi first c (sw xs (first + root) (first + c)).toArray).toList := fun c hc1 hc2 => by
      rw [show ((first : Int) + (c : Int)).toNat = first + c by omega]
      cases Sort.ltInt (xs.getD (first + root) 0) (xs.getD (first + c) 0) with
      | false => rfl
      | true =>
        rw [if_neg (by decide), if_neg (by decide)]
        cases k with
        | zero => omega
        | succ k => exact so_sift_l hi first k c m (sw xs (first + root) (first + c)) (by omega) (by omega)
    have hb : (if 2 * (root : Int) + 1 + 1 < (hi : Int) then Sort.ltInt (xs.getD (first + (2 * root + 1)) 0) (xs.getD (first + (2 * root + 1) + 1) 0) else false) = (decide (2 * root + 1 + 1 < hi) && Sort.ltInt (xs.getD (first + (2 * root + 1)) 0) (xs.getD (first + (2 * root + 1) + 1) 0)) := by
      by_cases h : 2 * root + 1 + 1 < hi
      · rw [if_pos (by omega), decide_eq_true h, Bool.true_and]
      · rw [if_neg (by omega), decide_eq_false h, Bool.false_and]
    rw [hb]
    by_cases hx : (decide (2 * root + 1 + 1 < hi) && Sort.ltInt (xs.getD (first + (2 * root + 1)) 0) (xs.getD (first + (2 * root + 1) + 1) 0)) = true
    · rw [hx, if_pos rfl, if_pos rfl]
      have hlt : 2 * root + 1 + 1 < hi := of_decide_eq_true (Bool.and_eq_true_iff.1 hx).1
      have := key (2 * root + 2) (by omega) (by omega)
      rw [show (((2 * root + 2 : Nat) : Int)) = 2 * (root : Int) + 1 + 1 by omega] at this
      rw [this]
      split
      · rfl
      · first | rfl | rw [dif_pos (show 2 * root + 2 < hi by omega)]
    · rw [Bool.eq_false_iff.2 hx, if_neg Bool.false_ne_true, if_neg Bool.false_ne_true]
      have := key (2 * root + 1) (by omega) (by omega)
      rw [show (((2 * root + 1 : Nat) : Int)) = 2 * (root : Int) + 1 by omega] at this
      exact this
theorem so_sift (xs : List Int) (lo hi first : Nat) : k_36 xs (lo : Int) (hi : Int) (first : Int) = (Sort.siftDown Sort.ltInt hi first lo xs.toArray).toList := by
  unfold k_36
  exact so_sift_l hi first (hi - lo) lo _ xs (Nat.le_refl _) (by omega)
theorem so_build (a b : Nat) (hab : a ≤ b) : ∀ (k m : Nat) (xs : List Int), k < m → (k_3c (a : Int) (b : Int) m ((k : Int) - 1, xs)).2 = (Sort.heapBuild Sort.ltInt (b - a) a k xs.toArray).toList
  | k, 0, xs, h => by omega
  | 0, m + 1, xs, h => by
    simp only [k_3c]
    rw [if_neg (by omega), Sort.heapBuild]
  | k + 1, m + 1, xs, h => by
    simp only [k_3c, LR.seq_go, tn1i]
    rw [if_pos (by omega), Sort.heapBuild, show (b : Int) - (a : Int) = ((b - a : Nat) : Int) by omega, so_sift]
    have := so_build a b hab k m (Sort.siftDown Sort.ltInt (b - a) a k xs.toArray).toList (by omega)
    rw [Array.toArray_toList] at this
    exact this
theorem so_pop (a : Nat) : ∀ (k m : Nat) (xs : List Int), k < m → (k_3e (a : Int) m ((k : Int) - 1, xs)).2 = (Sort.heapPop Sort.ltInt a k xs.toArray).toList
  | k, 0, xs, h => by omega
  | 0, m + 1, xs, h => by
    simp only [k_3e]
    rw [if_neg (by omega), Sort.heapPop]
  | k + 1, m + 1, xs, h => by
    simp only [k_3e, LR.seq_go, tn1i, Int.toNat_natCast]
    rw [if_pos (by omega), Sort.heapPop, show ((a : Int) + (k : Int)).toNat = a + k by omega, show (0 : Int) = ((0 : Nat) : Int) from rfl, so_sift, so_swp]
    have := so_pop a k m (Sort.siftDown Sort.ltInt k a 0 (sw xs a (a + k)).toArray).toList (by omega)
    rw [Array.toArray_toList] at this
    exact this
theorem so_heap (xs : List Int) (a b : Nat) (hab : a < b) : k_75 xs (a : Int) (b : Int) = (Sort.heapSort Sort.ltInt xs.toArray a b).toList := by
  unfold k_75 Sort.heapSort
  rw [LR.seq_go, LR.seq_go]
  have e1 : ((b : Int) - (a : Int) - 1) / 2 = (((b - a - 1) / 2 + 1 : Nat) : Int) - 1 := by omega
  have e2 : (b : Int) - (a : Int) - 1 = ((b - a : Nat) : Int) - 1 := by omega
  rw [e1, so_build a b (by omega) _ _ xs (by omega), e2]
  have := so_pop a (b - a) ((((b - a : Nat) : Int) - 1 + 1).toNat + 1) (Sort.heapBuild Sort.ltInt (b - a) a ((b - a - 1) / 2 + 1) xs.toArray).toList (by omega)
  rw [Array.toArray_toList] at this
  exact this
theorem so_rev_l : ∀ (k i j m : Nat) (xs : List Int), j - i ≤ k → k < m → (k_35 m ((i : Int), (j : Int), xs)).2.2 = (Sort.reverseLoop i j xs.toArray).toList
  | k, i, j, 0, xs, _, h => by omega
  | k, i, j, m + 1, xs, h1, h2 => by
    simp only [k_35, LR.seq_go, Int.toNat_natCast]
    rw [Sort.reverseLoop]
    by_cases h : i < j
    · rw [if_pos (by omega), if_pos h, so_swp, show (j : Int) - 1 = ((j - 1 : Nat) : Int) by omega]
      cases k with
      | zero => omega
      | succ k => exact so_rev_l k (i + 1) (j - 1) m (sw xs i j) (by omega) (by omega)
    · rw [if_neg (by omega), if_neg h]
theorem so_rev (xs : List Int) (a b : Nat) (hab : a < b) : k_3b xs (a : Int) (b : Int) = (Sort.reverseRange xs.toArray a b).toList := by
  unfold k_3b Sort.reverseRange
  rw [LR.seq_go, show (b : Int) - 1 = ((b - 1 : Nat) : Int) by omega]
  exact so_rev_l (b - 1 - a) a (b - 1) _ xs (Nat.le_refl _) (by omega)
end Go.SX

set_option linter.unusedVariables false
set_option linter.unusedSimpArgs false
namespace Go.SX
open Go Go.Proofs

def k_28 (a1 : Int) (n9l3 : Int) (xPa0l2 : List Int) : Nat → Int → Int
  | 0, _ => default
  | ml5 + 1, sl5 => LR.seq (if n9l3 ≤ sl5 then ((k_8 (xPa0l2.getD a1.toNat (0 : Int)) (xPa0l2.getD sl5.toNat (0 : Int)))) else false : Bool) (fun sc6 => if sc6 = true then (k_28 a1 n9l3 xPa0l2 ml5 ((sl5 - 1))) else sl5)
def k_2f (a1 : Int) (n10l2 : Int) (xPa0l2 : List Int) : Nat → Int → Int
  | 0, _ => default
  | ml3 + 1, sl3 => LR.seq (if sl3 ≤ n10l2 then ((!(k_8 (xPa0l2.getD a1.toNat (0 : Int)) (xPa0l2.getD sl3.toNat (0 : Int))))) else false : Bool) (fun sc4 => if sc4 = true then (k_2f a1 n10l2 xPa0l2 ml3 ((sl3 + 1))) else sl3)
def k_29 (a1 : Int) : Nat → (Int × Int × (List Int)) → Int × (List Int)
  | 0, _ => default
  | ml2 + 1, sl2 => LR.seq (k_2f a1 sl2.2.1 sl2.2.2 ((sl2.2.1 - sl2.1 + 1).toNat + 1) sl2.1) (fun ol3 => LR.seq (k_28 a1 ol3 sl2.2.2 ((sl2.2.1 - ol3 + 1).toNat + 1) sl2.2.1) (fun ol5 => if ol5 < ol3 then ((ol3, sl2.2.2)) else (LR.seq ((((sl2.2.2.set ol3.toNat (sl2.2.2.getD ol5.toNat (0 : Int)))).set ol5.toNat (sl2.2.2.getD ol3.toNat (0 : Int))) : (List Int)) (fun sc8 => k_29 a1 ml2 (((ol3 + 1), (ol5 - 1), sc8))))))
def k_23 (a0 : List Int) (a1 : Int) (a2 : Int) (a3 : Int) : Int × (List Int) :=
  LR.seq ((((a0.set a1.toNat (a0.getD a3.toNat (0 : Int)))).set a3.toNat (a0.getD a1.toNat (0 : Int))) : (List Int)) (fun sc1 => LR.seq (LR.seq (k_29 a1 ((((a2 - 1)) - ((a1 + 1)) + 2).toNat + 1) (((a1 + 1), (a2 - 1), sc1))) (fun ol2 => ol2) : Int × (List Int)) (fun sc7 => (sc7.1, sc7.2)))
set_option maxHeartbeats 3200000 in
theorem slices_partitionEqualOrdered_Id_c (H : Heap) (va0 : Value) (a0 : List Int) (Ca0 : Chunk) (ha0 : OwnS (intE .u64) 43 H va0 a0 Ca0) (a1 : Int) (a2 : Int) (a3 : Int) (h1 : 0 ≤ a1) (h2 : a1 ≤ a3) (h3 : a3 < a2) (h4 : a2 ≤ (a0.length : Int)) (hl : a0.length ≤ 4000000) : Fc Tryz.prog (fnv 107) [va0, .int .i64 a1, .int .i64 a2, .int .i64 a3] H [Ca0] (fun v' H' L' => ∃ Da0, v' = .int .i64 (k_23 a0 a1 a2 a3).1 ∧ L' = [Da0] ∧ OwnS (intE .u64) 43 H' va0 (k_23 a0 a1 a2 a3).2 Da0) := by
 refine Fc.of_body (N := 84) Tryz.func107 rfl kA rfl rfl ?_
 intro w0
 obtain ⟨Aa0, pa0, rfl, ma0, na0⟩ := OwnS.shape ha0
 refine sR ?_
 refine R.asE rfl cA ?_
 refine nN ?_
 refine T.seq ?_
 refine T.cutK (ι := (List Int) × Chunk) (fun ⟨xPa0c1, cPa0c1⟩ H' L' ds' => Has L' [cPa0c1] ∧ OwnS (intE .u64) 43 H' (.slice Aa0 a0.length pa0) xPa0c1 cPa0c1 ∧ ((((a0.set a1.toNat (a0.getD a3.toNat (0 : Int)))).set a3.toNat (a0.getD a1.toNat (0 : Int))) : (List Int)) = xPa0c1) (fun ⟨xPa0c1, cPa0c1⟩ => [(0, .slice Aa0 a0.length pa0), (1, .int .i64 a1), (2, .int .i64 a2)]) ?_ ?_
 ·refine T.draw k_2b kA ?_
  refine vM 0 [1, 2, 3, 4, 5, 6, 7, 8, 9, 10, 11, 12, 13, 14, 15] rfl rfl cA ?_
  refine vM 1 [2, 3, 4, 5, 6, 7, 8, 9, 10, 11, 12, 13, 14, 15] rfl rfl cA ?_
  refine vM 2 [3, 4, 5, 6, 7, 8, 9, 10, 11, 12, 13, 14, 15] rfl rfl cA ?_
  refine vM 3 [4, 5, 6, 7, 8, 9, 10, 11, 12, 13, 14, 15] rfl rfl cA ?_
  refine vM 4 [5, 6, 7, 8, 9, 10, 11, 12, 13, 14, 15] rfl rfl cA ?_
  refine vM 5 [6, 7, 8, 9, 10, 11, 12, 13, 14, 15] rfl rfl cA ?_
  have hl17 : a3.toNat < a0.length := bA
  obtain ⟨y17, e17, h17⟩ : ∃ y, y = (a0.getD a3.toNat (0 : Int)) ∧ a0[a3.toNat]? = some y := ⟨_, rfl, k_6 (by first | exact hl17 | simpa using hl17 | (simp only [List.length_set]; omega) | omega | (rw [(k_1 _).length_eq]; exact hl17))⟩
  obtain ⟨b17, u17, cs17, l17, f17, j17, i17, g17, k17⟩ := OwnS.elem ha0 h17
  obtain rfl : l17 = [.int .u64 y17] := g17
  refine vA 6 [7, 8, 9, 10, 11, 12, 13, 14, 15] rfl (fun _ _ h_ => R.ixp (sz := ((intE .u64)).size) Tryz.underlying30 Tryz.sizeOf43 rfl rfl rfl bA i17 (TL.nil h_)) ?_
  refine vM 8 [7, 9, 10, 11, 12, 13, 14, 15] rfl rfl cA ?_
  refine vM 9 [7, 10, 11, 12, 13, 14, 15] rfl rfl cA ?_
  have hl21 : a1.toNat < a0.length := bA
  obtain ⟨y21, e21, h21⟩ : ∃ y, y = (a0.getD a1.toNat (0 : Int)) ∧ a0[a1.toNat]? = some y := ⟨_, rfl, k_6 (by first | exact hl21 | simpa using hl21 | (simp only [List.length_set]; omega) | omega | (rw [(k_1 _).length_eq]; exact hl21))⟩
  obtain ⟨b21, u21, cs21, l21, f21, j21, i21, g21, k21⟩ := OwnS.elem ha0 h21
  obtain rfl : l21 = [.int .u64 y21] := g21
  refine vA 10 [7, 11, 12, 13, 14, 15] rfl (fun _ _ h_ => R.ixp (sz := ((intE .u64)).size) Tryz.underlying30 Tryz.sizeOf43 rfl rfl rfl bA i21 (TL.nil h_)) ?_
  refine Plan.s2 7 11 [11, 12, 13, 14, 15] [7, 12, 13, 14, 15] kA kA kA rfl rfl ?_ ?_
  ·refine R.ld Tryz.isAgg43 rfl rfl (by rw [← f17]; exact .hd) (k17 0 _ rfl) ?_
   refine TL.nil (Plan.e1 (HLe.refl _) ?_)
   refine Plan.s1 11 [12, 13, 14, 15] kA kA rfl ?_
   refine R.ld Tryz.isAgg43 rfl rfl (by rw [← f21]; exact .hd) (k21 0 _ rfl) ?_
   refine TL.nil (Plan.e1 (HLe.refl _) ?_)
   have hl23 : a1.toNat < a0.length := bA
   obtain ⟨y23, e23, h23⟩ : ∃ y, y = (a0.getD a1.toNat (0 : Int)) ∧ a0[a1.toNat]? = some y := ⟨_, rfl, k_6 (by first | exact hl23 | simpa using hl23 | (simp only [List.length_set]; omega) | omega | (rw [(k_1 _).length_eq]; exact hl23))⟩
   obtain ⟨b23, u23, cs23, l23, f23, j23, i23, g23, k23⟩ := OwnS.elem ha0 h23
   obtain rfl : l23 = [.int .u64 y23] := g23
   refine vA 12 [13, 14, 15] rfl (fun _ _ h_ => R.ixp (sz := ((intE .u64)).size) Tryz.underlying30 Tryz.sizeOf43 rfl rfl rfl bA i23 (TL.nil h_)) ?_
   refine Plan.s1 13 [14, 15] kA kA rfl ?_
   refine R.stEF (E := (intE .u64)) (e := 43) (v := (.slice Aa0 a0.length pa0)) (m := [.int .u64 y17]) (o := 0) (y := y23) (y' := y17) (j := a1.toNat) Tryz.sizeOf43 rfl ha0 .hd i23 rfl rfl (cells1 rfl) (k_20 rfl) h23 (by show 0 + 1 ≤ 1; decide) (fun l hl => by have e0 : l = [.int .u64 y23] := hl; subst e0; exact rfl) ?_
   intro cst113 wst113
   refine TL.nil (Plan.e0 (HLe.refl _) ?_)
   have hl24 : a3.toNat < a0.length := bA
   obtain ⟨y24, e24, h24⟩ : ∃ y, y = (((a0.set a1.toNat y17)).getD a3.toNat (0 : Int)) ∧ ((a0.set a1.toNat y17))[a3.toNat]? = some y := ⟨_, rfl, k_6 (by first | exact hl24 | simpa using hl24 | (simp only [List.length_set]; omega) | omega | (rw [(k_1 _).length_eq]; exact hl24))⟩
   obtain ⟨b24, u24, cs24, l24, f24, j24, i24, g24, k24⟩ := OwnS.elem wst113 h24
   obtain rfl : l24 = [.int .u64 y24] := g24
   refine vA 14 [15] rfl (fun _ _ h_ => R.ixp (sz := ((intE .u64)).size) Tryz.underlying30 Tryz.sizeOf43 rfl rfl rfl bA i24 (TL.nil h_)) ?_
   refine Plan.s1 15 [] kA kA rfl ?_
   refine R.stEF (E := (intE .u64)) (e := 43) (v := (.slice Aa0 a0.length pa0)) (m := [.int .u64 y21]) (o := 0) (y := y24) (y' := y21) (j := a3.toNat) Tryz.sizeOf43 rfl wst113 .hd i24 rfl rfl (cells1 rfl) (k_20 rfl) h24 (by show 0 + 1 ≤ 1; decide) (fun l hl => by have e0 : l = [.int .u64 y24] := hl; subst e0; exact rfl) ?_
   intro cst114 wst114
   refine TL.nil (Plan.e0 (HLe.refl _) ?_)
   refine Plan.done (Post.thnN ?_)
   exact ⟨((((a0.set a1.toNat y17)).set a3.toNat y21), cst114), HLe.refl _, ⟨(Has.cons .hd Has.nil), wst114, (by subst e24; subst e23; subst e21; subst e17; rfl)⟩, rfl, rfl, rfl, trivial⟩
  refine R.ld Tryz.isAgg43 rfl rfl (by rw [← f21]; exact .hd) (k21 0 _ rfl) ?_
  refine TL.nil (Plan.e1 (HLe.refl _) ?_)
  refine Plan.s1 7 [12, 13, 14, 15] kA kA rfl ?_
  refine R.ld Tryz.isAgg43 rfl rfl (by rw [← f17]; exact .hd) (k17 0 _ rfl) ?_
  refine TL.nil (Plan.e1 (HLe.refl _) ?_)
  have hl23 : a1.toNat < a0.length := bA
  obtain ⟨y23, e23, h23⟩ : ∃ y, y = (a0.getD a1.toNat (0 : Int)) ∧ a0[a1.toNat]? = some y := ⟨_, rfl, k_6 (by first | exact hl23 | simpa using hl23 | (simp only [List.length_set]; omega) | omega | (rw [(k_1 _).length_eq]; exact hl23))⟩
  obtain ⟨b23, u23, cs23, l23, f23, j23, i23, g23, k23⟩ := OwnS.elem ha0 h23
  obtain rfl : l23 = [.int .u64 y23] := g23
  refine vA 12 [13, 14, 15] rfl (fun _ _ h_ => R.ixp (sz := ((intE .u64)).size) Tryz.underlying30 Tryz.sizeOf43 rfl rfl rfl bA i23 (TL.nil h_)) ?_
  refine Plan.s1 13 [14, 15] kA kA rfl ?_
  refine R.stEF (E := (intE .u64)) (e := 43) (v := (.slice Aa0 a0.length pa0)) (m := [.int .u64 y17]) (o := 0) (y := y23) (y' := y17) (j := a1.toNat) Tryz.sizeOf43 rfl ha0 .hd i23 rfl rfl (cells1 rfl) (k_20 rfl) h23 (by show 0 + 1 ≤ 1; decide) (fun l hl => by have e0 : l = [.int .u64 y23] := hl; subst e0; exact rfl) ?_
  intro cst115 wst115
  refine TL.nil (Plan.e0 (HLe.refl _) ?_)
  have hl24 : a3.toNat < a0.length := bA
  obtain ⟨y24, e24, h24⟩ : ∃ y, y = (((a0.set a1.toNat y17)).getD a3.toNat (0 : Int)) ∧ ((a0.set a1.toNat y17))[a3.toNat]? = some y := ⟨_, rfl, k_6 (by first | exact hl24 | simpa using hl24 | (simp only [List.length_set]; omega) | omega | (rw [(k_1 _).length_eq]; exact hl24))⟩
  obtain ⟨b24, u24, cs24, l24, f24, j24, i24, g24, k24⟩ := OwnS.elem wst115 h24
  obtain rfl : l24 = [.int .u64 y24] := g24
  refine vA 14 [15] rfl (fun _ _ h_ => R.ixp (sz := ((intE .u64)).size) Tryz.underlying30 Tryz.sizeOf43 rfl rfl rfl bA i24 (TL.nil h_)) ?_
  refine Plan.s1 15 [] kA kA rfl ?_
  refine R.stEF (E := (intE .u64)) (e := 43) (v := (.slice Aa0 a0.length pa0)) (m := [.int .u64 y21]) (o := 0) (y := y24) (y' := y21) (j := a3.toNat) Tryz.sizeOf43 rfl wst115 .hd i24 rfl rfl (cells1 rfl) (k_20 rfl) h24 (by show 0 + 1 ≤ 1; decide) (fun l hl => by have e0 : l = [.int .u64 y24] := hl; subst e0; exact rfl) ?_
  intro cst116 wst116
  refine TL.nil (Plan.e0 (HLe.refl _) ?_)
  refine Plan.done (Post.thnN ?_)
  exact ⟨((((a0.set a1.toNat y17)).set a3.toNat y21), cst116), HLe.refl _, ⟨(Has.cons .hd Has.nil), wst116, (by subst e24; subst e23; subst e21; subst e17; rfl)⟩, rfl, rfl, rfl, trivial⟩
 intro ⟨xPa0c1, cPa0c1⟩ σ_c1 H_c1 L_c1 ds_c1 s_c1 hI_c1
 obtain ⟨hLc1, wPa0c1, hTc1⟩ := hI_c1
 have nPa0c1_ := OwnS.len wPa0c1
 refine T.has hLc1 ?_
 refine sR ?_
 refine R.mvE rfl cA ?_
 refine R.addI rfl rfl rfl oA ?_
 refine R.mvE rfl cA ?_
 refine R.subI rfl rfl rfl oA ?_
 refine R.asE rfl cA ?_
 refine R.asE rfl cA ?_
 refine nN ?_
 refine T.seq ?_
 refine T.cutK (ι := Int × (List Int) × Chunk) (fun ⟨n9c7, xPa0c7, cPa0c7⟩ H' L' ds' => Has L' [cPa0c7] ∧ OwnS (intE .u64) 43 H' (.slice Aa0 a0.length pa0) xPa0c7 cPa0c7 ∧ (LR.seq (k_29 a1 ((((a2 - 1)) - ((a1 + 1)) + 2).toNat + 1) (((a1 + 1), (a2 - 1), xPa0c1))) (fun ol2 => ol2) : Int × (List Int)) = (n9c7, xPa0c7)) (fun ⟨n9c7, xPa0c7, cPa0c7⟩ => [(9, .int .i64 n9c7)]) ?_ ?_
 ·refine T.block ?_
  refine T.loop (ι := Nat × Int × Int × (List Int) × Chunk) (fun ⟨kl2, n9l2, n10l2, xPa0l2, cPa0l2⟩ H' L' ds' => (n10l2 - n9l2 + 2).toNat < kl2 ∧ Has L' [cPa0l2] ∧ OwnS (intE .u64) 43 H' (.slice Aa0 a0.length pa0) xPa0l2 cPa0l2 ∧ a1 + 1 ≤ n9l2 ∧ n9l2 ≤ a2 ∧ a1 ≤ n10l2 ∧ n10l2 < a2 ∧ k_29 a1 kl2 ((n9l2, n10l2, xPa0l2)) = k_29 a1 ((((a2 - 1)) - ((a1 + 1)) + 2).toNat + 1) (((a1 + 1), (a2 - 1), xPa0c1))) (fun ⟨kl2, n9l2, n10l2, xPa0l2, cPa0l2⟩ => [(0, .slice Aa0 a0.length pa0), (1, .int .i64 a1), (9, .int .i64 n9l2), (10, .int .i64 n10l2)]) (fun ⟨kl2, n9l2, n10l2, xPa0l2, cPa0l2⟩ => kl2) (((((a2 - 1)) - ((a1 + 1)) + 2).toNat + 1), (a1 + 1), (a2 - 1), xPa0c1, cPa0c1) ?_ ?_ ?_
  ·exact ⟨oA, (Has.cons .hd Has.nil), wPa0c1, bA, bA, bA, bA, (by rfl)⟩
  ·exact ⟨rfl, rfl, rfl, rfl, trivial⟩
  intro ⟨kl2, n9l2, n10l2, xPa0l2, cPa0l2⟩ σ_l2 H_l2 L_l2 ds_l2 s_l2 hI_l2
  obtain ⟨hkl2, hI_l2⟩ := hI_l2
  obtain ⟨ml2, rfl⟩ : ∃ m, kl2 = m + 1 := ⟨kl2 - 1, by omega⟩
  obtain ⟨hLl2, wPa0l2, hBl2_0, hBl2_1, hBl2_2, hBl2_3, hQl2⟩ := hI_l2
  have nPa0l2_ := OwnS.len wPa0l2
  refine T.has hLl2 ?_
  refine T.block ?_
  refine T.seq ?_
  refine T.block ?_
  refine T.loop (ι := Nat × Int) (fun ⟨kl3, n9l3⟩ H' L' ds' => (n10l2 - n9l3 + 1).toNat < kl3 ∧ Has L' [cPa0l2] ∧ a1 + 1 ≤ n9l3 ∧ n9l3 ≤ a2 ∧ n9l2 ≤ n9l3 ∧ k_2f a1 n10l2 xPa0l2 kl3 n9l3 = k_2f a1 n10l2 xPa0l2 ((n10l2 - n9l2 + 1).toNat + 1) n9l2) (fun ⟨kl3, n9l3⟩ => [(0, .slice Aa0 a0.length pa0), (1, .int .i64 a1), (9, .int .i64 n9l3), (10, .int .i64 n10l2)]) (fun ⟨kl3, n9l3⟩ => kl3) (((n10l2 - n9l2 + 1).toNat + 1), n9l2) ?_ ?_ ?_
  ·exact ⟨oA, (Has.cons .hd Has.nil), bA, bA, bA, (by rfl)⟩
  ·exact ⟨rfl, rfl, rfl, rfl, trivial⟩
  intro ⟨kl3, n9l3⟩ σ_l3 H_l3 L_l3 ds_l3 s_l3 hI_l3
  obtain ⟨hkl3, hI_l3⟩ := hI_l3
  obtain ⟨ml3, rfl⟩ : ∃ m, kl3 = m + 1 := ⟨kl3 - 1, by omega⟩
  obtain ⟨hLl3, hBl3_0, hBl3_1, hBl3_2, hQl3⟩ := hI_l3
  refine T.has hLl3 ?_
  refine T.seq ?_
  refine T.seq ?_
  refine T.cutK (ι := Bool) (fun b43c4 H' L' ds' => Has L' [cPa0l2] ∧ (if n9l3 ≤ n10l2 then ((!(k_8 (xPa0l2.getD a1.toNat (0 : Int)) (xPa0l2.getD n9l3.toNat (0 : Int))))) else false : Bool) = b43c4) (fun b43c4 => [(0, .slice Aa0 a0.length pa0), (1, .int .i64 a1), (9, .int .i64 n9l3), (10, .int .i64 n10l2), (43, .bool (b43c4))]) ?_ ?_
  ·refine T.draw k_2b kA ?_
   refine vM 0 [1, 2, 3, 4, 5, 6, 7, 8, 9, 10, 11, 12, 13, 14] rfl rfl cA ?_
   refine vM 1 [2, 3, 4, 5, 6, 7, 8, 9, 10, 11, 12, 13, 14] rfl rfl cA ?_
   refine vA 2 [3, 4, 5, 6, 7, 8, 9, 10, 11, 12, 13, 14] rfl (fun _ _ h_ => R.leq rfl rfl rfl (TL.nil h_)) ?_
   refine vM 3 [4, 5, 6, 7, 8, 9, 10, 11, 12, 13, 14] rfl rfl cA ?_
   refine Plan.gsplitD 32 rfl (fun g32 => ?_) (fun g32 => ?_)
   ·refine vM 4 [5, 6, 7, 8, 9, 10, 11, 12, 13, 14] rfl rfl cA ?_
    refine vM 5 [6, 7, 8, 9, 10, 11, 12, 13, 14] rfl rfl cA ?_
    have hl35 : a1.toNat < a0.length := bA
    obtain ⟨y35, e35, h35⟩ : ∃ y, y = (xPa0l2.getD a1.toNat (0 : Int)) ∧ xPa0l2[a1.toNat]? = some y := ⟨_, rfl, k_6 (by first | exact hl35 | simpa using hl35 | (simp only [List.length_set]; omega) | omega | (rw [(k_1 _).length_eq]; exact hl35))⟩
    obtain ⟨b35, u35, cs35, l35, f35, j35, i35, g35, k35⟩ := OwnS.elem (OwnS.mono wPa0l2 s_l3) h35
    obtain rfl : l35 = [.int .u64 y35] := g35
    refine vA 6 [7, 8, 9, 10, 11, 12, 13, 14] rfl (fun _ _ h_ => R.ixp (sz := ((intE .u64)).size) Tryz.underlying30 Tryz.sizeOf43 rfl rfl rfl bA i35 (TL.nil h_)) ?_
    refine vM 8 [7, 9, 10, 11, 12, 13, 14] rfl rfl cA ?_
    refine vM 9 [7, 10, 11, 12, 13, 14] rfl rfl cA ?_
    have hl39 : n9l3.toNat < a0.length := bA
    obtain ⟨y39, e39, h39⟩ : ∃ y, y = (xPa0l2.getD n9l3.toNat (0 : Int)) ∧ xPa0l2[n9l3.toNat]? = some y := ⟨_, rfl, k_6 (by first | exact hl39 | simpa using hl39 | (simp only [List.length_set]; omega) | omega | (rw [(k_1 _).length_eq]; exact hl39))⟩
    obtain ⟨b39, u39, cs39, l39, f39, j39, i39, g39, k39⟩ := OwnS.elem (OwnS.mono wPa0l2 s_l3) h39
    obtain rfl : l39 = [.int .u64 y39] := g39
    refine vA 10 [7, 11, 12, 13, 14] rfl (fun _ _ h_ => R.ixp (sz := ((intE .u64)).size) Tryz.underlying30 Tryz.sizeOf43 rfl rfl rfl bA i39 (TL.nil h_)) ?_
    refine Plan.s2 7 11 [11, 12, 13, 14] [7, 12, 13, 14] kA kA kA rfl rfl ?_ ?_
    ·refine R.ld Tryz.isAgg43 rfl rfl (by rw [← f35]; exact .hd) (k35 0 _ rfl) ?_
     refine TL.nil (Plan.e1 (HLe.refl _) ?_)
     refine Plan.s1 11 [12, 13, 14] kA kA rfl ?_
     refine R.ld Tryz.isAgg43 rfl rfl (by rw [← f39]; exact .hd) (k39 0 _ rfl) ?_
     refine TL.nil (Plan.e1 (HLe.refl _) ?_)
     refine vA 12 [13, 14] rfl (fun _ _ h_ => R.callv rfl rfl rfl (k_41 _ (y35) (y39)) (TL.nil h_)) ?_
     refine vA 13 [14] rfl (fun _ _ h_ => R.not rfl rfl (TL.nil h_)) ?_
     refine vA 14 [] rfl (fun _ _ h_ => R.pkTE rfl rfl cA (TL.nil h_)) ?_
     refine Plan.done (Post.thnN ?_)
     exact ⟨(!(k_8 y35 y39)), HLe.refl _, ⟨(Has.cons .hd Has.nil), (by subst e39; subst e35; rw [if_pos g32])⟩, rfl, rfl, rfl, rfl, rfl, trivial⟩
    refine R.ld Tryz.isAgg43 rfl rfl (by rw [← f39]; exact .hd) (k39 0 _ rfl) ?_
    refine TL.nil (Plan.e1 (HLe.refl _) ?_)
    refine Plan.s1 7 [12, 13, 14] kA kA rfl ?_
    refine R.ld Tryz.isAgg43 rfl rfl (by rw [← f35]; exact .hd) (k35 0 _ rfl) ?_
    refine TL.nil (Plan.e1 (HLe.refl _) ?_)
    refine vA 12 [13, 14] rfl (fun _ _ h_ => R.callv rfl rfl rfl (k_41 _ (y35) (y39)) (TL.nil h_)) ?_
    refine vA 13 [14] rfl (fun _ _ h_ => R.not rfl rfl (TL.nil h_)) ?_
    refine vA 14 [] rfl (fun _ _ h_ => R.pkTE rfl rfl cA (TL.nil h_)) ?_
    refine Plan.done (Post.thnN ?_)
    exact ⟨(!(k_8 y35 y39)), HLe.refl _, ⟨(Has.cons .hd Has.nil), (by subst e39; subst e35; rw [if_pos g32])⟩, rfl, rfl, rfl, rfl, rfl, trivial⟩
   refine vO 4 [5, 6, 7, 8, 9, 10, 11, 12, 13, 14] rfl rfl rfl rfl ?_
   refine vO 5 [6, 7, 8, 9, 10, 11, 12, 13, 14] rfl rfl rfl rfl ?_
   refine vO 6 [7, 8, 9, 10, 11, 12, 13, 14] rfl rfl rfl rfl ?_
   refine vO 7 [8, 9, 10, 11, 12, 13, 14] rfl rfl rfl rfl ?_
   refine vO 8 [9, 10, 11, 12, 13, 14] rfl rfl rfl rfl ?_
   refine vO 9 [10, 11, 12, 13, 14] rfl rfl rfl rfl ?_
   refine vO 10 [11, 12, 13, 14] rfl rfl rfl rfl ?_
   refine vO 11 [12, 13, 14] rfl rfl rfl rfl ?_
   refine vO 12 [13, 14] rfl rfl rfl rfl ?_
   refine vO 13 [14] rfl rfl rfl rfl ?_
   refine vA 14 [] rfl (fun _ _ h_ => R.pkFE rfl rfl cA (TL.nil h_)) ?_
   refine Plan.done (Post.thnN ?_)
   exact ⟨false, HLe.refl _, ⟨(Has.cons .hd Has.nil), (by rw [if_neg g32])⟩, rfl, rfl, rfl, rfl, rfl, trivial⟩
  intro b43c4 σ_c4 H_c4 L_c4 ds_c4 s_c4 hI_c4
  obtain ⟨hLc4, hTc4⟩ := hI_c4
  refine T.has hLc4 ?_
  refine T.cond rfl (fun c43 => ?_) (fun c43 => ?_)
  ·refine T.set 43 (.bool true) (congrArg Value.bool c43) ?_
   have hZ43 := hTc4.trans c43
   try simp only [or_f, or_t, k_bf, k_c0, decide_eq_true_eq, decide_eq_false_iff_not, Bool.not_eq_true'] at hZ43
   refine T.skip (Post.thnN ?_)
   refine T.block ?_
   refine T.region ?_
   refine R.mvE rfl cA ?_
   refine R.addI rfl rfl rfl oA ?_
   refine R.asE rfl cA ?_
   refine TL.nil (Post.blkN ?_)
   refine id (Post.thnN ?_)
   exact ⟨(ml3, (n9l3 + 1)), (s_l3.trans s_c4), ⟨(by first | omega | (simp; omega) | (simp at *; omega)), (Has.cons .hd Has.nil), bA, bA, bA, (by rw [← hQl3, k_2f]; rw [hTc4, LR.seq_go, if_t c43])⟩, by show ml3 < ml3 + 1; omega, rfl, rfl, rfl, rfl, trivial⟩
  refine T.set 43 (.bool false) (congrArg Value.bool c43) ?_
  have hZ43 := hTc4.trans c43
  try simp only [or_f, or_t, k_bf, k_c0, decide_eq_true_eq, decide_eq_false_iff_not, Bool.not_eq_true'] at hZ43
  refine T.exit (Post.thnE (Post.thnE (Post.blkX ?_)))
  have hEl3 : k_2f a1 n10l2 xPa0l2 ((n10l2 - n9l2 + 1).toNat + 1) n9l2 = n9l3 := (by rw [← hQl3, k_2f]; rw [hTc4, LR.seq_go, if_f c43])
  refine id (Post.thnN ?_)
  refine T.seq ?_
  refine T.block ?_
  refine T.loop (ι := Nat × Int) (fun ⟨kl5, n10l5⟩ H' L' ds' => (n10l5 - n9l3 + 1).toNat < kl5 ∧ Has L' [cPa0l2] ∧ a1 ≤ n10l5 ∧ n10l5 < a2 ∧ n10l5 ≤ n10l2 ∧ k_28 a1 n9l3 xPa0l2 kl5 n10l5 = k_28 a1 n9l3 xPa0l2 ((n10l2 - n9l3 + 1).toNat + 1) n10l2) (fun ⟨kl5, n10l5⟩ => [(0, .slice Aa0 a0.length pa0), (1, .int .i64 a1), (9, .int .i64 n9l3), (10, .int .i64 n10l5)]) (fun ⟨kl5, n10l5⟩ => kl5) (((n10l2 - n9l3 + 1).toNat + 1), n10l2) ?_ ?_ ?_
  ·exact ⟨oA, (Has.cons .hd Has.nil), bA, bA, bA, (by rfl)⟩
  ·exact ⟨rfl, rfl, rfl, rfl, trivial⟩
  intro ⟨kl5, n10l5⟩ σ_l5 H_l5 L_l5 ds_l5 s_l5 hI_l5
  obtain ⟨hkl5, hI_l5⟩ := hI_l5
  obtain ⟨ml5, rfl⟩ : ∃ m, kl5 = m + 1 := ⟨kl5 - 1, by omega⟩
  obtain ⟨hLl5, hBl5_0, hBl5_1, hBl5_2, hQl5⟩ := hI_l5
  refine T.has hLl5 ?_
  refine T.seq ?_
  refine T.seq ?_
  refine T.cutK (ι := Bool) (fun b59c6 H' L' ds' => Has L' [cPa0l2] ∧ (if n9l3 ≤ n10l5 then ((k_8 (xPa0l2.getD a1.toNat (0 : Int)) (xPa0l2.getD n10l5.toNat (0 : Int)))) else false : Bool) = b59c6) (fun b59c6 => [(0, .slice Aa0 a0.length pa0), (1, .int .i64 a1), (9, .int .i64 n9l3), (10, .int .i64 n10l5), (59, .bool (b59c6))]) ?_ ?_
  ·refine T.draw k_2b kA ?_
   refine vM 0 [1, 2, 3, 4, 5, 6, 7, 8, 9, 10, 11, 12, 13] rfl rfl cA ?_
   refine vM 1 [2, 3, 4, 5, 6, 7, 8, 9, 10, 11, 12, 13] rfl rfl cA ?_
   refine vA 2 [3, 4, 5, 6, 7, 8, 9, 10, 11, 12, 13] rfl (fun _ _ h_ => R.leq rfl rfl rfl (TL.nil h_)) ?_
   refine vM 3 [4, 5, 6, 7, 8, 9, 10, 11, 12, 13] rfl rfl cA ?_
   refine Plan.gsplitD 49 rfl (fun g49 => ?_) (fun g49 => ?_)
   ·refine vM 4 [5, 6, 7, 8, 9, 10, 11, 12, 13] rfl rfl cA ?_
    refine vM 5 [6, 7, 8, 9, 10, 11, 12, 13] rfl rfl cA ?_
    have hl52 : a1.toNat < a0.length := bA
    obtain ⟨y52, e52, h52⟩ : ∃ y, y = (xPa0l2.getD a1.toNat (0 : Int)) ∧ xPa0l2[a1.toNat]? = some y := ⟨_, rfl, k_6 (by first | exact hl52 | simpa using hl52 | (simp only [List.length_set]; omega) | omega | (rw [(k_1 _).length_eq]; exact hl52))⟩
    obtain ⟨b52, u52, cs52, l52, f52, j52, i52, g52, k52⟩ := OwnS.elem (OwnS.mono wPa0l2 (s_l3.trans (s_c4.trans s_l5))) h52
    obtain rfl : l52 = [.int .u64 y52] := g52
    refine vA 6 [7, 8, 9, 10, 11, 12, 13] rfl (fun _ _ h_ => R.ixp (sz := ((intE .u64)).size) Tryz.underlying30 Tryz.sizeOf43 rfl rfl rfl bA i52 (TL.nil h_)) ?_
    refine vM 8 [7, 9, 10, 11, 12, 13] rfl rfl cA ?_
    refine vM 9 [7, 10, 11, 12, 13] rfl rfl cA ?_
    have hl56 : n10l5.toNat < a0.length := bA
    obtain ⟨y56, e56, h56⟩ : ∃ y, y = (xPa0l2.getD n10l5.toNat (0 : Int)) ∧ xPa0l2[n10l5.toNat]? = some y := ⟨_, rfl, k_6 (by first | exact hl56 | simpa using hl56 | (simp only [List.length_set]; omega) | omega | (rw [(k_1 _).length_eq]; exact hl56))⟩
    obtain ⟨b56, u56, cs56, l56, f56, j56, i56, g56, k56⟩ := OwnS.elem (OwnS.mono wPa0l2 (s_l3.trans (s_c4.trans s_l5))) h56
    obtain rfl : l56 = [.int .u64 y56] := g56
    refine vA 10 [7, 11, 12, 13] rfl (fun _ _ h_ => R.ixp (sz := ((intE .u64)).size) Tryz.underlying30 Tryz.sizeOf43 rfl rfl rfl bA i56 (TL.nil h_)) ?_
    refine Plan.s2 7 11 [11, 12, 13] [7, 12, 13] kA kA kA rfl rfl ?_ ?_
    ·refine R.ld Tryz.isAgg43 rfl rfl (by rw [← f52]; exact .hd) (k52 0 _ rfl) ?_
     refine TL.nil (Plan.e1 (HLe.refl _) ?_)
     refine Plan.s1 11 [12, 13] kA kA rfl ?_
     refine R.ld Tryz.isAgg43 rfl rfl (by rw [← f56]; exact .hd) (k56 0 _ rfl) ?_
     refine TL.nil (Plan.e1 (HLe.refl _) ?_)
     refine vA 12 [13] rfl (fun _ _ h_ => R.callv rfl rfl rfl (k_41 _ (y52) (y56)) (TL.nil h_)) ?_
     refine vA 13 [] rfl (fun _ _ h_ => R.pkTE rfl rfl cA (TL.nil h_)) ?_
     refine Plan.done (Post.thnN ?_)
     exact ⟨(k_8 y52 y56), HLe.refl _, ⟨(Has.cons .hd Has.nil), (by subst e56; subst e52; rw [if_pos g49])⟩, rfl, rfl, rfl, rfl, rfl, trivial⟩
    refine R.ld Tryz.isAgg43 rfl rfl (by rw [← f56]; exact .hd) (k56 0 _ rfl) ?_
    refine TL.nil (Plan.e1 (HLe.refl _) ?_)
    refine Plan.s1 7 [12, 13] kA kA rfl ?_
    refine R.ld Tryz.isAgg43 rfl rfl (by rw [← f52]; exact .hd) (k52 0 _ rfl) ?_
    refine TL.nil (Plan.e1 (HLe.refl _) ?_)
    refine vA 12 [13] rfl (fun _ _ h_ => R.callv rfl rfl rfl (k_41 _ (y52) (y56)) (TL.nil h_)) ?_
    refine vA 13 [] rfl (fun _ _ h_ => R.pkTE rfl rfl cA (TL.nil h_)) ?_
    refine Plan.done (Post.thnN ?_)
    exact ⟨(k_8 y52 y56), HLe.refl _, ⟨(Has.cons .hd Has.nil), (by subst e56; subst e52; rw [if_pos g49])⟩, rfl, rfl, rfl, rfl, rfl, trivial⟩
   refine vO 4 [5, 6, 7, 8, 9, 10, 11, 12, 13] rfl rfl rfl rfl ?_
   refine vO 5 [6, 7, 8, 9, 10, 11, 12, 13] rfl rfl rfl rfl ?_
   refine vO 6 [7, 8, 9, 10, 11, 12, 13] rfl rfl rfl rfl ?_
   refine vO 7 [8, 9, 10, 11, 12, 13] rfl rfl rfl rfl ?_
   refine vO 8 [9, 10, 11, 12, 13] rfl rfl rfl rfl ?_
   refine vO 9 [10, 11, 12, 13] rfl rfl rfl rfl ?_
   refine vO 10 [11, 12, 13] rfl rfl rfl rfl ?_
   refine vO 11 [12, 13] rfl rfl rfl rfl ?_
   refine vO 12 [13] rfl rfl rfl rfl ?_
   refine vA 13 [] rfl (fun _ _ h_ => R.pkFE rfl rfl cA (TL.nil h_)) ?_
   refine Plan.done (Post.thnN ?_)
   exact ⟨false, HLe.refl _, ⟨(Has.cons .hd Has.nil), (by rw [if_neg g49])⟩, rfl, rfl, rfl, rfl, rfl, trivial⟩
  intro b59c6 σ_c6 H_c6 L_c6 ds_c6 s_c6 hI_c6
  obtain ⟨hLc6, hTc6⟩ := hI_c6
  refine T.has hLc6 ?_
  refine T.cond rfl (fun c59 => ?_) (fun c59 => ?_)
  ·refine T.set 59 (.bool true) (congrArg Value.bool c59) ?_
   have hZ59 := hTc6.trans c59
   try simp only [or_f, or_t, k_bf, k_c0, decide_eq_true_eq, decide_eq_false_iff_not, Bool.not_eq_true'] at hZ59
   refine T.skip (Post.thnN ?_)
   refine T.block ?_
   refine T.region ?_
   refine R.mvE rfl cA ?_
   refine R.subI rfl rfl rfl oA ?_
   refine R.asE rfl cA ?_
   refine TL.nil (Post.blkN ?_)
   refine id (Post.thnN ?_)
   exact ⟨(ml5, (n10l5 - 1)), (s_l5.trans s_c6), ⟨(by first | omega | (simp; omega) | (simp at *; omega)), (Has.cons .hd Has.nil), bA, bA, bA, (by rw [← hQl5, k_28]; rw [hTc6, LR.seq_go, if_t c59])⟩, by show ml5 < ml5 + 1; omega, rfl, rfl, rfl, rfl, trivial⟩
  refine T.set 59 (.bool false) (congrArg Value.bool c59) ?_
  have hZ59 := hTc6.trans c59
  try simp only [or_f, or_t, k_bf, k_c0, decide_eq_true_eq, decide_eq_false_iff_not, Bool.not_eq_true'] at hZ59
  refine T.exit (Post.thnE (Post.thnE (Post.blkX ?_)))
  have hEl5 : k_28 a1 n9l3 xPa0l2 ((n10l2 - n9l3 + 1).toNat + 1) n10l2 = n10l5 := (by rw [← hQl5, k_28]; rw [hTc6, LR.seq_go, if_f c59])
  refine id (Post.thnN ?_)
  refine T.seq ?_
  refine sR ?_
  refine R.mvE rfl cA ?_
  refine R.mvE rfl cA ?_
  refine R.gtr rfl rfl rfl ?_
  refine nN ?_
  refine T.condD rfl (fun c64 => ?_) (fun c64 => ?_)
  ·refine T.set 64 (.bool true) (congrArg Value.bool (decide_eq_true c64)) ?_
   refine T.exit (Post.thnE (Post.blkE rfl (Post.thnE (Post.blkX ?_))))
   have hEl2 : k_29 a1 ((((a2 - 1)) - ((a1 + 1)) + 2).toNat + 1) (((a1 + 1), (a2 - 1), xPa0c1)) = (n9l3, xPa0l2) := (by rw [← hQl2, k_29]; rw [hEl3, LR.seq_go, hEl5, LR.seq_go, if_pos c64])
   refine id (Post.thnN ?_)
   exact ⟨(n9l3, xPa0l2, cPa0l2), (s_l2.trans (s_l3.trans (s_c4.trans (s_l5.trans s_c6)))), ⟨(Has.cons .hd Has.nil), (OwnS.mono wPa0l2 (s_l3.trans (s_c4.trans (s_l5.trans s_c6)))), (by rw [hEl2, LR.seq_go])⟩, rfl, trivial⟩
  refine T.set 64 (.bool false) (congrArg Value.bool (decide_eq_false c64)) ?_
  refine T.skip (Post.thnN ?_)
  refine T.seq ?_
  refine T.cutK (ι := (List Int) × Chunk) (fun ⟨xPa0c8, cPa0c8⟩ H' L' ds' => Has L' [cPa0c8] ∧ OwnS (intE .u64) 43 H' (.slice Aa0 a0.length pa0) xPa0c8 cPa0c8 ∧ ((((xPa0l2.set n9l3.toNat (xPa0l2.getD n10l5.toNat (0 : Int)))).set n10l5.toNat (xPa0l2.getD n9l3.toNat (0 : Int))) : (List Int)) = xPa0c8) (fun ⟨xPa0c8, cPa0c8⟩ => [(0, .slice Aa0 a0.length pa0), (1, .int .i64 a1), (9, .int .i64 n9l3), (10, .int .i64 n10l5)]) ?_ ?_
  ·refine T.draw k_2b kA ?_
   refine vM 0 [1, 2, 3, 4, 5, 6, 7, 8, 9, 10, 11, 12, 13, 14, 15] rfl rfl cA ?_
   refine vM 1 [2, 3, 4, 5, 6, 7, 8, 9, 10, 11, 12, 13, 14, 15] rfl rfl cA ?_
   refine vM 2 [3, 4, 5, 6, 7, 8, 9, 10, 11, 12, 13, 14, 15] rfl rfl cA ?_
   refine vM 3 [4, 5, 6, 7, 8, 9, 10, 11, 12, 13, 14, 15] rfl rfl cA ?_
   refine vM 4 [5, 6, 7, 8, 9, 10, 11, 12, 13, 14, 15] rfl rfl cA ?_
   refine vM 5 [6, 7, 8, 9, 10, 11, 12, 13, 14, 15] rfl rfl cA ?_
   have hl71 : n10l5.toNat < a0.length := bA
   obtain ⟨y71, e71, h71⟩ : ∃ y, y = (xPa0l2.getD n10l5.toNat (0 : Int)) ∧ xPa0l2[n10l5.toNat]? = some y := ⟨_, rfl, k_6 (by first | exact hl71 | simpa using hl71 | (simp only [List.length_set]; omega) | omega | (rw [(k_1 _).length_eq]; exact hl71))⟩
   obtain ⟨b71, u71, cs71, l71, f71, j71, i71, g71, k71⟩ := OwnS.elem (OwnS.mono wPa0l2 (s_l3.trans (s_c4.trans (s_l5.trans s_c6)))) h71
   obtain rfl : l71 = [.int .u64 y71] := g71
   refine vA 6 [7, 8, 9, 10, 11, 12, 13, 14, 15] rfl (fun _ _ h_ => R.ixp (sz := ((intE .u64)).size) Tryz.underlying30 Tryz.sizeOf43 rfl rfl rfl bA i71 (TL.nil h_)) ?_
   refine vM 8 [7, 9, 10, 11, 12, 13, 14, 15] rfl rfl cA ?_
   refine vM 9 [7, 10, 11, 12, 13, 14, 15] rfl rfl cA ?_
   have hl75 : n9l3.toNat < a0.length := bA
   obtain ⟨y75, e75, h75⟩ : ∃ y, y = (xPa0l2.getD n9l3.toNat (0 : Int)) ∧ xPa0l2[n9l3.toNat]? = some y := ⟨_, rfl, k_6 (by first | exact hl75 | simpa using hl75 | (simp only [List.length_set]; omega) | omega | (rw [(k_1 _).length_eq]; exact hl75))⟩
   obtain ⟨b75, u75, cs75, l75, f75, j75, i75, g75, k75⟩ := OwnS.elem (OwnS.mono wPa0l2 (s_l3.trans (s_c4.trans (s_l5.trans s_c6)))) h75
   obtain rfl : l75 = [.int .u64 y75] := g75
   refine vA 10 [7, 11, 12, 13, 14, 15] rfl (fun _ _ h_ => R.ixp (sz := ((intE .u64)).size) Tryz.underlying30 Tryz.sizeOf43 rfl rfl rfl bA i75 (TL.nil h_)) ?_
   refine Plan.s2 7 11 [11, 12, 13, 14, 15] [7, 12, 13, 14, 15] kA kA kA rfl rfl ?_ ?_
   ·refine R.ld Tryz.isAgg43 rfl rfl (by rw [← f71]; exact .hd) (k71 0 _ rfl) ?_
    refine TL.nil (Plan.e1 (HLe.refl _) ?_)
    refine Plan.s1 11 [12, 13, 14, 15] kA kA rfl ?_
    refine R.ld Tryz.isAgg43 rfl rfl (by rw [← f75]; exact .hd) (k75 0 _ rfl) ?_
    refine TL.nil (Plan.e1 (HLe.refl _) ?_)
    have hl77 : n9l3.toNat < a0.length := bA
    obtain ⟨y77, e77, h77⟩ : ∃ y, y = (xPa0l2.getD n9l3.toNat (0 : Int)) ∧ xPa0l2[n9l3.toNat]? = some y := ⟨_, rfl, k_6 (by first | exact hl77 | simpa using hl77 | (simp only [List.length_set]; omega) | omega | (rw [(k_1 _).length_eq]; exact hl77))⟩
    obtain ⟨b77, u77, cs77, l77, f77, j77, i77, g77, k77⟩ := OwnS.elem (OwnS.mono wPa0l2 (s_l3.trans (s_c4.trans (s_l5.trans s_c6)))) h77
    obtain rfl : l77 = [.int .u64 y77] := g77
    refine vA 12 [13, 14, 15] rfl (fun _ _ h_ => R.ixp (sz := ((intE .u64)).size) Tryz.underlying30 Tryz.sizeOf43 rfl rfl rfl bA i77 (TL.nil h_)) ?_
    refine Plan.s1 13 [14, 15] kA kA rfl ?_
    refine R.stEF (E := (intE .u64)) (e := 43) (v := (.slice Aa0 a0.length pa0)) (m := [.int .u64 y71]) (o := 0) (y := y77) (y' := y71) (j := n9l3.toNat) Tryz.sizeOf43 rfl (OwnS.mono wPa0l2 (s_l3.trans (s_c4.trans (s_l5.trans s_c6)))) .hd i77 rfl rfl (cells1 rfl) (k_20 rfl) h77 (by show 0 + 1 ≤ 1; decide) (fun l hl => by have e0 : l = [.int .u64 y77] := hl; subst e0; exact rfl) ?_
    intro cst117 wst117
    refine TL.nil (Plan.e0 (HLe.refl _) ?_)
    have hl78 : n10l5.toNat < a0.length := bA
    obtain ⟨y78, e78, h78⟩ : ∃ y, y = (((xPa0l2.set n9l3.toNat y71)).getD n10l5.toNat (0 : Int)) ∧ ((xPa0l2.set n9l3.toNat y71))[n10l5.toNat]? = some y := ⟨_, rfl, k_6 (by first | exact hl78 | simpa using hl78 | (simp only [List.length_set]; omega) | omega | (rw [(k_1 _).length_eq]; exact hl78))⟩
    obtain ⟨b78, u78, cs78, l78, f78, j78, i78, g78, k78⟩ := OwnS.elem wst117 h78
    obtain rfl : l78 = [.int .u64 y78] := g78
    refine vA 14 [15] rfl (fun _ _ h_ => R.ixp (sz := ((intE .u64)).size) Tryz.underlying30 Tryz.sizeOf43 rfl rfl rfl bA i78 (TL.nil h_)) ?_
    refine Plan.s1 15 [] kA kA rfl ?_
    refine R.stEF (E := (intE .u64)) (e := 43) (v := (.slice Aa0 a0.length pa0)) (m := [.int .u64 y75]) (o := 0) (y := y78) (y' := y75) (j := n10l5.toNat) Tryz.sizeOf43 rfl wst117 .hd i78 rfl rfl (cells1 rfl) (k_20 rfl) h78 (by show 0 + 1 ≤ 1; decide) (fun l hl => by have e0 : l = [.int .u64 y78] := hl; subst e0; exact rfl) ?_
    intro cst118 wst118
    refine TL.nil (Plan.e0 (HLe.refl _) ?_)
    refine Plan.done (Post.thnN ?_)
    exact ⟨((((xPa0l2.set n9l3.toNat y71)).set n10l5.toNat y75), cst118), HLe.refl _, ⟨(Has.cons .hd Has.nil), wst118, (by subst e78; subst e77; subst e75; subst e71; rfl)⟩, rfl, rfl, rfl, rfl, trivial⟩
   refine R.ld Tryz.isAgg43 rfl rfl (by rw [← f75]; exact .hd) (k75 0 _ rfl) ?_
   refine TL.nil (Plan.e1 (HLe.refl _) ?_)
   refine Plan.s1 7 [12, 13, 14, 15] kA kA rfl ?_
   refine R.ld Tryz.isAgg43 rfl rfl (by rw [← f71]; exact .hd) (k71 0 _ rfl) ?_
   refine TL.nil (Plan.e1 (HLe.refl _) ?_)
   have hl77 : n9l3.toNat < a0.length := bA
   obtain ⟨y77, e77, h77⟩ : ∃ y, y = (xPa0l2.getD n9l3.toNat (0 : Int)) ∧ xPa0l2[n9l3.toNat]? = some y := ⟨_, rfl, k_6 (by first | exact hl77 | simpa using hl77 | (simp only [List.length_set]; omega) | omega | (rw [(k_1 _).length_eq]; exact hl77))⟩
   obtain ⟨b77, u77, cs77, l77, f77, j77, i77, g77, k77⟩ := OwnS.elem (OwnS.mono wPa0l2 (s_l3.trans (s_c4.trans (s_l5.trans s_c6)))) h77
   obtain rfl : l77 = [.int .u64 y77] := g77
   refine vA 12 [13, 14, 15] rfl (fun _ _ h_ => R.ixp (sz := ((intE .u64)).size) Tryz.underlying30 Tryz.sizeOf43 rfl rfl rfl bA i77 (TL.nil h_)) ?_
   refine Plan.s1 13 [14, 15] kA kA rfl ?_
   refine R.stEF (E := (intE .u64)) (e := 43) (v := (.slice Aa0 a0.length pa0)) (m := [.int .u64 y71]) (o := 0) (y := y77) (y' := y71) (j := n9l3.toNat) Tryz.sizeOf43 rfl (OwnS.mono wPa0l2 (s_l3.trans (s_c4.trans (s_l5.trans s_c6)))) .hd i77 rfl rfl (cells1 rfl) (k_20 rfl) h77 (by show 0 + 1 ≤ 1; decide) (fun l hl => by have e0 : l = [.int .u64 y77] := hl; subst e0; exact rfl) ?_
   intro cst119 wst119
   refine TL.nil (Plan.e0 (HLe.refl _) ?_)
   have hl78 : n10l5.toNat < a0.length := bA
   obtain ⟨y78, e78, h78⟩ : ∃ y, y = (((xPa0l2.set n9l3.toNat y71)).getD n10l5.toNat (0 : Int)) ∧ ((xPa0l2.set n9l3.toNat y71))[n10l5.toNat]? = some y := ⟨_, rfl, k_6 (by first | exact hl78 | simpa using hl78 | (simp only [List.length_set]; omega) | omega | (rw [(k_1 _).length_eq]; exact hl78))⟩
   obtain ⟨b78, u78, cs78, l78, f78, j78, i78, g78, k78⟩ := OwnS.elem wst119 h78
   obtain rfl : l78 = [.int .u64 y78] := g78
   refine vA 14 [15] rfl (fun _ _ h_ => R.ixp (sz := ((intE .u64)).size) Tryz.underlying30 Tryz.sizeOf43 rfl rfl rfl bA i78 (TL.nil h_)) ?_
   refine Plan.s1 15 [] kA kA rfl ?_
   refine R.stEF (E := (intE .u64)) (e := 43) (v := (.slice Aa0 a0.length pa0)) (m := [.int .u64 y75]) (o := 0) (y := y78) (y' := y75) (j := n10l5.toNat) Tryz.sizeOf43 rfl wst119 .hd i78 rfl rfl (cells1 rfl) (k_20 rfl) h78 (by show 0 + 1 ≤ 1; decide) (fun l hl => by have e0 : l = [.int .u64 y78] := hl; subst e0; exact rfl) ?_
   intro cst120 wst120
   refine TL.nil (Plan.e0 (HLe.refl _) ?_)
   refine Plan.done (Post.thnN ?_)
   exact ⟨((((xPa0l2.set n9l3.toNat y71)).set n10l5.toNat y75), cst120), HLe.refl _, ⟨(Has.cons .hd Has.nil), wst120, (by subst e78; subst e77; subst e75; subst e71; rfl)⟩, rfl, rfl, rfl, rfl, trivial⟩
  intro ⟨xPa0c8, cPa0c8⟩ σ_c8 H_c8 L_c8 ds_c8 s_c8 hI_c8
  obtain ⟨hLc8, wPa0c8, hTc8⟩ := hI_c8
  have nPa0c8_ := OwnS.len wPa0c8
  refine T.has hLc8 ?_
  refine sR ?_
  refine R.mvE rfl cA ?_
  refine R.addI rfl rfl rfl oA ?_
  refine R.asE rfl cA ?_
  refine nN ?_
  refine T.region ?_
  refine R.mvE rfl cA ?_
  refine R.subI rfl rfl rfl oA ?_
  refine R.asE rfl cA ?_
  refine TL.nil (Post.blkN ?_)
  refine id (Post.thnN ?_)
  exact ⟨(ml2, (n9l3 + 1), (n10l5 - 1), xPa0c8, cPa0c8), (s_l2.trans (s_l3.trans (s_c4.trans (s_l5.trans (s_c6.trans s_c8))))), ⟨(by first | omega | (simp; omega) | (simp at *; omega)), (Has.cons .hd Has.nil), wPa0c8, bA, bA, bA, bA, (by rw [← hQl2, k_29]; rw [hEl3, LR.seq_go, hEl5, LR.seq_go, if_neg c64, hTc8, LR.seq_go])⟩, by show ml2 < ml2 + 1; omega, rfl, rfl, rfl, rfl, trivial⟩
 intro ⟨n9c7, xPa0c7, cPa0c7⟩ σ_c7 H_c7 L_c7 ds_c7 s_c7 hI_c7
 obtain ⟨hLc7, wPa0c7, hTc7⟩ := hI_c7
 have nPa0c7_ := OwnS.len wPa0c7
 refine T.has hLc7 ?_
 refine sR ?_
 refine R.mvE rfl cA ?_
 refine R.asE rfl cA ?_
 refine nN ?_
 refine T.has (Has.cons .hd Has.nil) ?_
 refine T.ret ?_
 have hM : k_23 a0 a1 a2 a3 = (n9c7, xPa0c7) := by rw [k_23, hTc1, LR.seq_go, hTc7, LR.seq_go]
 exact fin1L (v := .int .i64 n9c7) [cPa0c7] rfl rfl (List.Sublist.refl _) ⟨cPa0c7, by first | rw [hM] | rfl, by first | rw [hM] | rfl, by rw [hM]; exact wPa0c7⟩
end Go.SX

set_option linter.unusedVariables false
set_option linter.unusedSimpArgs false
namespace Go.SX
open Go Go.Proofs

def k_33 (a1 : Int) (n10l8 : Int) (xPa0l7 : List Int) : Nat → Int → Int
  | 0, _ => default
  | ml10 + 1, sl10 => LR.seq (if n10l8 ≤ sl10 then ((!(k_8 (xPa0l7.getD sl10.toNat (0 : Int)) (xPa0l7.getD a1.toNat (0 : Int))))) else false : Bool) (fun sc11 => if sc11 = true then (k_33 a1 n10l8 xPa0l7 ml10 ((sl10 - 1))) else sl10)
def k_48 (a1 : Int) (n11l7 : Int) (xPa0l7 : List Int) : Nat → Int → Int
  | 0, _ => default
  | ml8 + 1, sl8 => LR.seq (if sl8 ≤ n11l7 then ((k_8 (xPa0l7.getD sl8.toNat (0 : Int)) (xPa0l7.getD a1.toNat (0 : Int)))) else false : Bool) (fun sc9 => if sc9 = true then (k_48 a1 n11l7 xPa0l7 ml8 ((sl8 + 1))) else sl8)
def k_39 (a1 : Int) : Nat → (Int × Int × (List Int)) → Int × (List Int)
  | 0, _ => default
  | ml7 + 1, sl7 => LR.seq (k_48 a1 sl7.2.1 sl7.2.2 ((sl7.2.1 - sl7.1 + 1).toNat + 1) sl7.1) (fun ol8 => LR.seq (k_33 a1 ol8 sl7.2.2 ((sl7.2.1 - ol8 + 1).toNat + 1) sl7.2.1) (fun ol10 => if ol10 < ol8 then ((ol10, sl7.2.2)) else (LR.seq ((((sl7.2.2.set ol8.toNat (sl7.2.2.getD ol10.toNat (0 : Int)))).set ol10.toNat (sl7.2.2.getD ol8.toNat (0 : Int))) : (List Int)) (fun sc13 => k_39 a1 ml7 (((ol8 + 1), (ol10 - 1), sc13))))))
def k_38 (a1 : Int) (n10l2 : Int) (xPa0c1 : List Int) : Nat → Int → Int
  | 0, _ => default
  | ml4 + 1, sl4 => LR.seq (if n10l2 ≤ sl4 then ((!(k_8 (xPa0c1.getD sl4.toNat (0 : Int)) (xPa0c1.getD a1.toNat (0 : Int))))) else false : Bool) (fun sc5 => if sc5 = true then (k_38 a1 n10l2 xPa0c1 ml4 ((sl4 - 1))) else sl4)
def k_49 (a1 : Int) (a2 : Int) (xPa0c1 : List Int) : Nat → Int → Int
  | 0, _ => default
  | ml2 + 1, sl2 => LR.seq (if sl2 ≤ (a2 - 1) then ((k_8 (xPa0c1.getD sl2.toNat (0 : Int)) (xPa0c1.getD a1.toNat (0 : Int)))) else false : Bool) (fun sc3 => if sc3 = true then (k_49 a1 a2 xPa0c1 ml2 ((sl2 + 1))) else sl2)
def k_3 (a0 : List Int) (a1 : Int) (a2 : Int) (a3 : Int) : Int × Bool × (List Int) :=
  LR.seq ((((a0.set a1.toNat (a0.getD a3.toNat (0 : Int)))).set a3.toNat (a0.getD a1.toNat (0 : Int))) : (List Int)) (fun sc1 => LR.seq (k_49 a1 a2 sc1 ((a2 - ((a1 + 1))).toNat + 1) ((a1 + 1))) (fun ol2 => LR.seq (k_38 a1 ol2 sc1 ((((a2 - 1)) - ol2 + 1).toNat + 1) ((a2 - 1))) (fun ol4 => if ol4 < ol2 then ((ol4, true, (((sc1.set ol4.toNat (sc1.getD a1.toNat (0 : Int)))).set a1.toNat (sc1.getD ol4.toNat (0 : Int))))) else (LR.seq ((((sc1.set ol2.toNat (sc1.getD ol4.toNat (0 : Int)))).set ol4.toNat (sc1.getD ol2.toNat (0 : Int))) : (List Int)) (fun sc6 => LR.seq (LR.seq (k_39 a1 ((((ol4 - 1)) - ((ol2 + 1)) + 2).toNat + 1) (((ol2 + 1), (ol4 - 1), sc6))) (fun ol7 => ol7) : Int × (List Int)) (fun sc12 => (sc12.1, false, (((sc12.2.set sc12.1.toNat (sc12.2.getD a1.toNat (0 : Int)))).set a1.toNat (sc12.2.getD sc12.1.toNat (0 : Int))))))))))
set_option maxHeartbeats 3200000 in
theorem slices_partitionOrdered_Id_c (H : Heap) (va0 : Value) (a0 : List Int) (Ca0 : Chunk) (ha0 : OwnS (intE .u64) 43 H va0 a0 Ca0) (a1 : Int) (a2 : Int) (a3 : Int) (h1 : 0 ≤ a1) (h2 : a1 ≤ a3) (h3 : a3 < a2) (h4 : a2 ≤ (a0.length : Int)) (hl : a0.length ≤ 4000000) : Fc Tryz.prog (fnv 108) [va0, .int .i64 a1, .int .i64 a2, .int .i64 a3] H [Ca0] (fun v' H' L' => ∃ Da0, v' = .tuple #[.int .i64 (k_3 a0 a1 a2 a3).1, .bool (k_3 a0 a1 a2 a3).2.1] ∧ L' = [Da0] ∧ OwnS (intE .u64) 43 H' va0 (k_3 a0 a1 a2 a3).2.2 Da0) := by
 refine Fc.of_body (N := 168) Tryz.func108 rfl kA rfl rfl ?_
 intro w0
 obtain ⟨Aa0, pa0, rfl, ma0, na0⟩ := OwnS.shape ha0
 refine sR ?_
 refine R.asE rfl cA ?_
 refine R.asE rfl cA ?_
 refine nN ?_
 refine T.seq ?_
 refine T.cutK (ι := (List Int) × Chunk) (fun ⟨xPa0c1, cPa0c1⟩ H' L' ds' => Has L' [cPa0c1] ∧ OwnS (intE .u64) 43 H' (.slice Aa0 a0.length pa0) xPa0c1 cPa0c1 ∧ ((((a0.set a1.toNat (a0.getD a3.toNat (0 : Int)))).set a3.toNat (a0.getD a1.toNat (0 : Int))) : (List Int)) = xPa0c1) (fun ⟨xPa0c1, cPa0c1⟩ => [(0, .slice Aa0 a0.length pa0), (1, .int .i64 a1), (2, .int .i64 a2)]) ?_ ?_
 ·refine T.draw k_2b kA ?_
  refine vM 0 [1, 2, 3, 4, 5, 6, 7, 8, 9, 10, 11, 12, 13, 14, 15] rfl rfl cA ?_
  refine vM 1 [2, 3, 4, 5, 6, 7, 8, 9, 10, 11, 12, 13, 14, 15] rfl rfl cA ?_
  refine vM 2 [3, 4, 5, 6, 7, 8, 9, 10, 11, 12, 13, 14, 15] rfl rfl cA ?_
  refine vM 3 [4, 5, 6, 7, 8, 9, 10, 11, 12, 13, 14, 15] rfl rfl cA ?_
  refine vM 4 [5, 6, 7, 8, 9, 10, 11, 12, 13, 14, 15] rfl rfl cA ?_
  refine vM 5 [6, 7, 8, 9, 10, 11, 12, 13, 14, 15] rfl rfl cA ?_
  have hl18 : a3.toNat < a0.length := bA
  obtain ⟨y18, e18, h18⟩ : ∃ y, y = (a0.getD a3.toNat (0 : Int)) ∧ a0[a3.toNat]? = some y := ⟨_, rfl, k_6 (by first | exact hl18 | simpa using hl18 | (simp only [List.length_set]; omega) | omega | (rw [(k_1 _).length_eq]; exact hl18))⟩
  obtain ⟨b18, u18, cs18, l18, f18, j18, i18, g18, k18⟩ := OwnS.elem ha0 h18
  obtain rfl : l18 = [.int .u64 y18] := g18
  refine vA 6 [7, 8, 9, 10, 11, 12, 13, 14, 15] rfl (fun _ _ h_ => R.ixp (sz := ((intE .u64)).size) Tryz.underlying30 Tryz.sizeOf43 rfl rfl rfl bA i18 (TL.nil h_)) ?_
  refine vM 8 [7, 9, 10, 11, 12, 13, 14, 15] rfl rfl cA ?_
  refine vM 9 [7, 10, 11, 12, 13, 14, 15] rfl rfl cA ?_
  have hl22 : a1.toNat < a0.length := bA
  obtain ⟨y22, e22, h22⟩ : ∃ y, y = (a0.getD a1.toNat (0 : Int)) ∧ a0[a1.toNat]? = some y := ⟨_, rfl, k_6 (by first | exact hl22 | simpa using hl22 | (simp only [List.length_set]; omega) | omega | (rw [(k_1 _).length_eq]; exact hl22))⟩
  obtain ⟨b22, u22, cs22, l22, f22, j22, i22, g22, k22⟩ := OwnS.elem ha0 h22
  obtain rfl : l22 = [.int .u64 y22] := g22
  refine vA 10 [7, 11, 12, 13, 14, 15] rfl (fun _ _ h_ => R.ixp (sz := ((intE .u64)).size) Tryz.underlying30 Tryz.sizeOf43 rfl rfl rfl bA i22 (TL.nil h_)) ?_
  refine Plan.s2 7 11 [11, 12, 13, 14, 15] [7, 12, 13, 14, 15] kA kA kA rfl rfl ?_ ?_
  ·refine R.ld Tryz.isAgg43 rfl rfl (by rw [← f18]; exact .hd) (k18 0 _ rfl) ?_
   refine TL.nil (Plan.e1 (HLe.refl _) ?_)
   refine Plan.s1 11 [12, 13, 14, 15] kA kA rfl ?_
   refine R.ld Tryz.isAgg43 rfl rfl (by rw [← f22]; exact .hd) (k22 0 _ rfl) ?_
   refine TL.nil (Plan.e1 (HLe.refl _) ?_)
   have hl24 : a1.toNat < a0.length := bA
   obtain ⟨y24, e24, h24⟩ : ∃ y, y = (a0.getD a1.toNat (0 : Int)) ∧ a0[a1.toNat]? = some y := ⟨_, rfl, k_6 (by first | exact hl24 | simpa using hl24 | (simp only [List.length_set]; omega) | omega | (rw [(k_1 _).length_eq]; exact hl24))⟩
   obtain ⟨b24, u24, cs24, l24, f24, j24, i24, g24, k24⟩ := OwnS.elem ha0 h24
   obtain rfl : l24 = [.int .u64 y24] := g24
   refine vA 12 [13, 14, 15] rfl (fun _ _ h_ => R.ixp (sz := ((intE .u64)).size) Tryz.underlying30 Tryz.sizeOf43 rfl rfl rfl bA i24 (TL.nil h_)) ?_
   refine Plan.s1 13 [14, 15] kA kA rfl ?_
   refine R.stEF (E := (intE .u64)) (e := 43) (v := (.slice Aa0 a0.length pa0)) (m := [.int .u64 y18]) (o := 0) (y := y24) (y' := y18) (j := a1.toNat) Tryz.sizeOf43 rfl ha0 .hd i24 rfl rfl (cells1 rfl) (k_20 rfl) h24 (by show 0 + 1 ≤ 1; decide) (fun l hl => by have e0 : l = [.int .u64 y24] := hl; subst e0; exact rfl) ?_
   intro cst395 wst395
   refine TL.nil (Plan.e0 (HLe.refl _) ?_)
   have hl25 : a3.toNat < a0.length := bA
   obtain ⟨y25, e25, h25⟩ : ∃ y, y = (((a0.set a1.toNat y18)).getD a3.toNat (0 : Int)) ∧ ((a0.set a1.toNat y18))[a3.toNat]? = some y := ⟨_, rfl, k_6 (by first | exact hl25 | simpa using hl25 | (simp only [List.length_set]; omega) | omega | (rw [(k_1 _).length_eq]; exact hl25))⟩
   obtain ⟨b25, u25, cs25, l25, f25, j25, i25, g25, k25⟩ := OwnS.elem wst395 h25
   obtain rfl : l25 = [.int .u64 y25] := g25
   refine vA 14 [15] rfl (fun _ _ h_ => R.ixp (sz := ((intE .u64)).size) Tryz.underlying30 Tryz.sizeOf43 rfl rfl rfl bA i25 (TL.nil h_)) ?_
   refine Plan.s1 15 [] kA kA rfl ?_
   refine R.stEF (E := (intE .u64)) (e := 43) (v := (.slice Aa0 a0.length pa0)) (m := [.int .u64 y22]) (o := 0) (y := y25) (y' := y22) (j := a3.toNat) Tryz.sizeOf43 rfl wst395 .hd i25 rfl rfl (cells1 rfl) (k_20 rfl) h25 (by show 0 + 1 ≤ 1; decide) (fun l hl => by have e0 : l = [.int .u64 y25] := hl; subst e0; exact rfl) ?_
   intro cst396 wst396
   refine TL.nil (Plan.e0 (HLe.refl _) ?_)
   refine Plan.done (Post.thnN ?_)
   exact ⟨((((a0.set a1.toNat y18)).set a3.toNat y22), cst396), HLe.refl _, ⟨(Has.cons .hd Has.nil), wst396, (by subst e25; subst e24; subst e22; subst e18; rfl)⟩, rfl, rfl, rfl, trivial⟩
  refine R.ld Tryz.isAgg43 rfl rfl (by rw [← f22]; exact .hd) (k22 0 _ rfl) ?_
  refine TL.nil (Plan.e1 (HLe.refl _) ?_)
  refine Plan.s1 7 [12, 13, 14, 15] kA kA rfl ?_
  refine R.ld Tryz.isAgg43 rfl rfl (by rw [← f18]; exact .hd) (k18 0 _ rfl) ?_
  refine TL.nil (Plan.e1 (HLe.refl _) ?_)
  have hl24 : a1.toNat < a0.length := bA
  obtain ⟨y24, e24, h24⟩ : ∃ y, y = (a0.getD a1.toNat (0 : Int)) ∧ a0[a1.toNat]? = some y := ⟨_, rfl, k_6 (by first | exact hl24 | simpa using hl24 | (simp only [List.length_set]; omega) | omega | (rw [(k_1 _).length_eq]; exact hl24))⟩
  obtain ⟨b24, u24, cs24, l24, f24, j24, i24, g24, k24⟩ := OwnS.elem ha0 h24
  obtain rfl : l24 = [.int .u64 y24] := g24
  refine vA 12 [13, 14, 15] rfl (fun _ _ h_ => R.ixp (sz := ((intE .u64)).size) Tryz.underlying30 Tryz.sizeOf43 rfl rfl rfl bA i24 (TL.nil h_)) ?_
  refine Plan.s1 13 [14, 15] kA kA rfl ?_
  refine R.stEF (E := (intE .u64)) (e := 43) (v := (.slice Aa0 a0.length pa0)) (m := [.int .u64 y18]) (o := 0) (y := y24) (y' := y18) (j := a1.toNat) Tryz.sizeOf43 rfl ha0 .hd i24 rfl rfl (cells1 rfl) (k_20 rfl) h24 (by show 0 + 1 ≤ 1; decide) (fun l hl => by have e0 : l = [.int .u64 y24] := hl; subst e0; exact rfl) ?_
  intro cst397 wst397
  refine TL.nil (Plan.e0 (HLe.refl _) ?_)
  have hl25 : a3.toNat < a0.length := bA
  obtain ⟨y25, e25, h25⟩ : ∃ y, y = (((a0.set a1.toNat y18)).getD a3.toNat (0 : Int)) ∧ ((a0.set a1.toNat y18))[a3.toNat]? = some y := ⟨_, rfl, k_6 (by first | exact hl25 | simpa using hl25 | (simp only [List.length_set]; omega) | omega | (rw [(k_1 _).length_eq]; exact hl25))⟩
  obtain ⟨b25, u25, cs25, l25, f25, j25, i25, g25, k25⟩ := OwnS.elem wst397 h25
  obtain rfl : l25 = [.int .u64 y25] := g25
  refine vA 14 [15] rfl (fun _ _ h_ => R.ixp (sz := ((intE .u64)).size) Tryz.underlying30 Tryz.sizeOf43 rfl rfl rfl bA i25 (TL.nil h_)) ?_
  refine Plan.s1 15 [] kA kA rfl ?_
  refine R.stEF (E := (intE .u64)) (e := 43) (v := (.slice Aa0 a0.length pa0)) (m := [.int .u64 y22]) (o := 0) (y := y25) (y' := y22) (j := a3.toNat) Tryz.sizeOf43 rfl wst397 .hd i25 rfl rfl (cells1 rfl) (k_20 rfl) h25 (by show 0 + 1 ≤ 1; decide) (fun l hl => by have e0 : l = [.int .u64 y25] := hl; subst e0; exact rfl) ?_
  intro cst398 wst398
  refine TL.nil (Plan.e0 (HLe.refl _) ?_)
  refine Plan.done (Post.thnN ?_)
  exact ⟨((((a0.set a1.toNat y18)).set a3.toNat y22), cst398), HLe.refl _, ⟨(Has.cons .hd Has.nil), wst398, (by subst e25; subst e24; subst e22; subst e18; rfl)⟩, rfl, rfl, rfl, trivial⟩
 intro ⟨xPa0c1, cPa0c1⟩ σ_c1 H_c1 L_c1 ds_c1 s_c1 hI_c1
 obtain ⟨hLc1, wPa0c1, hTc1⟩ := hI_c1
 have nPa0c1_ := OwnS.len wPa0c1
 refine T.has hLc1 ?_
 refine sR ?_
 refine R.mvE rfl cA ?_
 refine R.addI rfl rfl rfl oA ?_
 refine R.mvE rfl cA ?_
 refine R.subI rfl rfl rfl oA ?_
 refine R.asE rfl cA ?_
 refine R.asE rfl cA ?_
 refine nN ?_
 refine T.seq ?_
 refine T.block ?_
 refine T.loop (ι := Nat × Int) (fun ⟨kl2, n10l2⟩ H' L' ds' => (a2 - n10l2).toNat < kl2 ∧ Has L' [cPa0c1] ∧ a1 + 1 ≤ n10l2 ∧ n10l2 ≤ a2 ∧ k_49 a1 a2 xPa0c1 kl2 n10l2 = k_49 a1 a2 xPa0c1 ((a2 - ((a1 + 1))).toNat + 1) ((a1 + 1))) (fun ⟨kl2, n10l2⟩ => [(0, .slice Aa0 a0.length pa0), (1, .int .i64 a1), (10, .int .i64 n10l2), (11, .int .i64 (a2 - 1))]) (fun ⟨kl2, n10l2⟩ => kl2) (((a2 - ((a1 + 1))).toNat + 1), (a1 + 1)) ?_ ?_ ?_
 ·exact ⟨oA, (Has.cons .hd Has.nil), bA, bA, (by rfl)⟩
 ·exact ⟨rfl, rfl, rfl, rfl, trivial⟩
 intro ⟨kl2, n10l2⟩ σ_l2 H_l2 L_l2 ds_l2 s_l2 hI_l2
 obtain ⟨hkl2, hI_l2⟩ := hI_l2
 obtain ⟨ml2, rfl⟩ : ∃ m, kl2 = m + 1 := ⟨kl2 - 1, by omega⟩
 obtain ⟨hLl2, hBl2_0, hBl2_1, hQl2⟩ := hI_l2
 refine T.has hLl2 ?_
 refine T.seq ?_
 refine T.seq ?_
 refine T.cutK (ι := Bool) (fun b43c3 H' L' ds' => Has L' [cPa0c1] ∧ (if n10l2 ≤ (a2 - 1) then ((k_8 (xPa0c1.getD n10l2.toNat (0 : Int)) (xPa0c1.getD a1.toNat (0 : Int)))) else false : Bool) = b43c3) (fun b43c3 => [(0, .slice Aa0 a0.length pa0), (1, .int .i64 a1), (10, .int .i64 n10l2), (11, .int .i64 (a2 - 1)), (43, .bool (b43c3))]) ?_ ?_
 ·refine T.draw k_2b kA ?_
  refine vM 0 [1, 2, 3, 4, 5, 6, 7, 8, 9, 10, 11, 12, 13] rfl rfl cA ?_
  refine vM 1 [2, 3, 4, 5, 6, 7, 8, 9, 10, 11, 12, 13] rfl rfl cA ?_
  refine vA 2 [3, 4, 5, 6, 7, 8, 9, 10, 11, 12, 13] rfl (fun _ _ h_ => R.leq rfl rfl rfl (TL.nil h_)) ?_
  refine vM 3 [4, 5, 6, 7, 8, 9, 10, 11, 12, 13] rfl rfl cA ?_
  refine Plan.gsplitD 33 rfl (fun g33 => ?_) (fun g33 => ?_)
  ·refine vM 4 [5, 6, 7, 8, 9, 10, 11, 12, 13] rfl rfl cA ?_
   refine vM 5 [6, 7, 8, 9, 10, 11, 12, 13] rfl rfl cA ?_
   have hl36 : n10l2.toNat < a0.length := bA
   obtain ⟨y36, e36, h36⟩ : ∃ y, y = (xPa0c1.getD n10l2.toNat (0 : Int)) ∧ xPa0c1[n10l2.toNat]? = some y := ⟨_, rfl, k_6 (by first | exact hl36 | simpa using hl36 | (simp only [List.length_set]; omega) | omega | (rw [(k_1 _).length_eq]; exact hl36))⟩
   obtain ⟨b36, u36, cs36, l36, f36, j36, i36, g36, k36⟩ := OwnS.elem (OwnS.mono wPa0c1 s_l2) h36
   obtain rfl : l36 = [.int .u64 y36] := g36
   refine vA 6 [7, 8, 9, 10, 11, 12, 13] rfl (fun _ _ h_ => R.ixp (sz := ((intE .u64)).size) Tryz.underlying30 Tryz.sizeOf43 rfl rfl rfl bA i36 (TL.nil h_)) ?_
   refine vM 8 [7, 9, 10, 11, 12, 13] rfl rfl cA ?_
   refine vM 9 [7, 10, 11, 12, 13] rfl rfl cA ?_
   have hl40 : a1.toNat < a0.length := bA
   obtain ⟨y40, e40, h40⟩ : ∃ y, y = (xPa0c1.getD a1.toNat (0 : Int)) ∧ xPa0c1[a1.toNat]? = some y := ⟨_, rfl, k_6 (by first | exact hl40 | simpa using hl40 | (simp only [List.length_set]; omega) | omega | (rw [(k_1 _).length_eq]; exact hl40))⟩
   obtain ⟨b40, u40, cs40, l40, f40, j40, i40, g40, k40⟩ := OwnS.elem (OwnS.mono wPa0c1 s_l2) h40
   obtain rfl : l40 = [.int .u64 y40] := g40
   refine vA 10 [7, 11, 12, 13] rfl (fun _ _ h_ => R.ixp (sz := ((intE .u64)).size) Tryz.underlying30 Tryz.sizeOf43 rfl rfl rfl bA i40 (TL.nil h_)) ?_
   refine Plan.s2 7 11 [11, 12, 13] [7, 12, 13] kA kA kA rfl rfl ?_ ?_
   ·refine R.ld Tryz.isAgg43 rfl rfl (by rw [← f36]; exact .hd) (k36 0 _ rfl) ?_
    refine TL.nil (Plan.e1 (HLe.refl _) ?_)
    refine Plan.s1 11 [12, 13] kA kA rfl ?_
    refine R.ld Tryz.isAgg43 rfl rfl (by rw [← f40]; exact .hd) (k40 0 _ rfl) ?_
    refine TL.nil (Plan.e1 (HLe.refl _) ?_)
    refine vA 12 [13] rfl (fun _ _ h_ => R.callv rfl rfl rfl (k_41 _ (y36) (y40)) (TL.nil h_)) ?_
    refine vA 13 [] rfl (fun _ _ h_ => R.pkTE rfl rfl cA (TL.nil h_)) ?_
    refine Plan.done (Post.thnN ?_)
    exact ⟨(k_8 y36 y40), HLe.refl _, ⟨(Has.cons .hd Has.nil), (by subst e40; subst e36; rw [if_pos g33])⟩, rfl, rfl, rfl, rfl, rfl, trivial⟩
   refine R.ld Tryz.isAgg43 rfl rfl (by rw [← f40]; exact .hd) (k40 0 _ rfl) ?_
   refine TL.nil (Plan.e1 (HLe.refl _) ?_)
   refine Plan.s1 7 [12, 13] kA kA rfl ?_
   refine R.ld Tryz.isAgg43 rfl rfl (by rw [← f36]; exact .hd) (k36 0 _ rfl) ?_
   refine TL.nil (Plan.e1 (HLe.refl _) ?_)
   refine vA 12 [13] rfl (fun _ _ h_ => R.callv rfl rfl rfl (k_41 _ (y36) (y40)) (TL.nil h_)) ?_
   refine vA 13 [] rfl (fun _ _ h_ => R.pkTE rfl rfl cA (TL.nil h_)) ?_
   refine Plan.done (Post.thnN ?_)
   exact ⟨(k_8 y36 y40), HLe.refl _, ⟨(Has.cons .hd Has.nil), (by subst e40; subst e36; rw [if_pos g33])⟩, rfl, rfl, rfl, rfl, rfl, trivial⟩
  refine vO 4 [5, 6, 7, 8, 9, 10, 11, 12, 13] rfl rfl rfl rfl ?_
  refine vO 5 [6, 7, 8, 9, 10, 11, 12, 13] rfl rfl rfl rfl ?_
  refine vO 6 [7, 8, 9, 10, 11, 12, 13] rfl rfl rfl rfl ?_
  refine vO 7 [8, 9, 10, 11, 12, 13] rfl rfl rfl rfl ?_
  refine vO 8 [9, 10, 11, 12, 13] rfl rfl rfl rfl ?_
  refine vO 9 [10, 11, 12, 13] rfl rfl rfl rfl ?_
  refine vO 10 [11, 12, 13] rfl rfl rfl rfl ?_
  refine vO 11 [12, 13] rfl rfl rfl rfl ?_
  refine vO 12 [13] rfl rfl rfl rfl ?_
  refine vA 13 [] rfl (fun _ _ h_ => R.pkFE rfl rfl cA (TL.nil h_)) ?_
  refine Plan.done (Post.thnN ?_)
  exact ⟨false, HLe.refl _, ⟨(Has.cons .hd Has.nil), (by rw [if_neg g33])⟩, rfl, rfl, rfl, rfl, rfl, trivial⟩
 intro b43c3 σ_c3 H_c3 L_c3 ds_c3 s_c3 hI_c3
 obtain ⟨hLc3, hTc3⟩ := hI_c3
 refine T.has hLc3 ?_
 refine T.cond rfl (fun c43 => ?_) (fun c43 => ?_)
 ·refine T.set 43 (.bool true) (congrArg Value.bool c43) ?_
  have hZ43 := hTc3.trans c43
  try simp only [or_f, or_t, k_bf, k_c0, decide_eq_true_eq, decide_eq_false_iff_not, Bool.not_eq_true'] at hZ43
  refine T.skip (Post.thnN ?_)
  refine T.block ?_
  refine T.region ?_
  refine R.mvE rfl cA ?_
  refine R.addI rfl rfl rfl oA ?_
  refine R.asE rfl cA ?_
  refine TL.nil (Post.blkN ?_)
  refine id (Post.thnN ?_)
  exact ⟨(ml2, (n10l2 + 1)), (s_l2.trans s_c3), ⟨(by first | omega | (simp; omega) | (simp at *; omega)), (Has.cons .hd Has.nil), bA, bA, (by rw [← hQl2, k_49]; rw [hTc3, LR.seq_go, if_t c43])⟩, by show ml2 < ml2 + 1; omega, rfl, rfl, rfl, rfl, trivial⟩
 refine T.set 43 (.bool false) (congrArg Value.bool c43) ?_
 have hZ43 := hTc3.trans c43
 try simp only [or_f, or_t, k_bf, k_c0, decide_eq_true_eq, decide_eq_false_iff_not, Bool.not_eq_true'] at hZ43
 refine T.exit (Post.thnE (Post.thnE (Post.blkX ?_)))
 have hEl2 : k_49 a1 a2 xPa0c1 ((a2 - ((a1 + 1))).toNat + 1) ((a1 + 1)) = n10l2 := (by rw [← hQl2, k_49]; rw [hTc3, LR.seq_go, if_f c43])
 refine id (Post.thnN ?_)
 refine T.seq ?_
 refine T.block ?_
 refine T.loop (ι := Nat × Int) (fun ⟨kl4, n11l4⟩ H' L' ds' => (n11l4 - n10l2 + 1).toNat < kl4 ∧ Has L' [cPa0c1] ∧ a1 ≤ n11l4 ∧ n11l4 < a2 ∧ k_38 a1 n10l2 xPa0c1 kl4 n11l4 = k_38 a1 n10l2 xPa0c1 ((((a2 - 1)) - n10l2 + 1).toNat + 1) ((a2 - 1))) (fun ⟨kl4, n11l4⟩ => [(0, .slice Aa0 a0.length pa0), (1, .int .i64 a1), (10, .int .i64 n10l2), (11, .int .i64 n11l4)]) (fun ⟨kl4, n11l4⟩ => kl4) (((((a2 - 1)) - n10l2 + 1).toNat + 1), (a2 - 1)) ?_ ?_ ?_
 ·exact ⟨oA, (Has.cons .hd Has.nil), bA, bA, (by rfl)⟩
 ·exact ⟨rfl, rfl, rfl, rfl, trivial⟩
 intro ⟨kl4, n11l4⟩ σ_l4 H_l4 L_l4 ds_l4 s_l4 hI_l4
 obtain ⟨hkl4, hI_l4⟩ := hI_l4
 obtain ⟨ml4, rfl⟩ : ∃ m, kl4 = m + 1 := ⟨kl4 - 1, by omega⟩
 obtain ⟨hLl4, hBl4_0, hBl4_1, hQl4⟩ := hI_l4
 refine T.has hLl4 ?_
 refine T.seq ?_
 refine T.seq ?_
 refine T.cutK (ι := Bool) (fun b60c5 H' L' ds' => Has L' [cPa0c1] ∧ (if n10l2 ≤ n11l4 then ((!(k_8 (xPa0c1.getD n11l4.toNat (0 : Int)) (xPa0c1.getD a1.toNat (0 : Int))))) else false : Bool) = b60c5) (fun b60c5 => [(0, .slice Aa0 a0.length pa0), (1, .int .i64 a1), (10, .int .i64 n10l2), (11, .int .i64 n11l4), (60, .bool (b60c5))]) ?_ ?_
 ·refine T.draw k_2b kA ?_
  refine vM 0 [1, 2, 3, 4, 5, 6, 7, 8, 9, 10, 11, 12, 13, 14] rfl rfl cA ?_
  refine vM 1 [2, 3, 4, 5, 6, 7, 8, 9, 10, 11, 12, 13, 14] rfl rfl cA ?_
  refine vA 2 [3, 4, 5, 6, 7, 8, 9, 10, 11, 12, 13, 14] rfl (fun _ _ h_ => R.leq rfl rfl rfl (TL.nil h_)) ?_
  refine vM 3 [4, 5, 6, 7, 8, 9, 10, 11, 12, 13, 14] rfl rfl cA ?_
  refine Plan.gsplitD 49 rfl (fun g49 => ?_) (fun g49 => ?_)
  ·refine vM 4 [5, 6, 7, 8, 9, 10, 11, 12, 13, 14] rfl rfl cA ?_
   refine vM 5 [6, 7, 8, 9, 10, 11, 12, 13, 14] rfl rfl cA ?_
   have hl52 : n11l4.toNat < a0.length := bA
   obtain ⟨y52, e52, h52⟩ : ∃ y, y = (xPa0c1.getD n11l4.toNat (0 : Int)) ∧ xPa0c1[n11l4.toNat]? = some y := ⟨_, rfl, k_6 (by first | exact hl52 | simpa using hl52 | (simp only [List.length_set]; omega) | omega | (rw [(k_1 _).length_eq]; exact hl52))⟩
   obtain ⟨b52, u52, cs52, l52, f52, j52, i52, g52, k52⟩ := OwnS.elem (OwnS.mono wPa0c1 (s_l2.trans (s_c3.trans s_l4))) h52
   obtain rfl : l52 = [.int .u64 y52] := g52
   refine vA 6 [7, 8, 9, 10, 11, 12, 13, 14] rfl (fun _ _ h_ => R.ixp (sz := ((intE .u64)).size) Tryz.underlying30 Tryz.sizeOf43 rfl rfl rfl bA i52 (TL.nil h_)) ?_
   refine vM 8 [7, 9, 10, 11, 12, 13, 14] rfl rfl cA ?_
   refine vM 9 [7, 10, 11, 12, 13, 14] rfl rfl cA ?_
   have hl56 : a1.toNat < a0.length := bA
   obtain ⟨y56, e56, h56⟩ : ∃ y, y = (xPa0c1.getD a1.toNat (0 : Int)) ∧ xPa0c1[a1.toNat]? = some y := ⟨_, rfl, k_6 (by first | exact hl56 | simpa using hl56 | (simp only [List.length_set]; omega) | omega | (rw [(k_1 _).length_eq]; exact hl56))⟩
   obtain ⟨b56, u56, cs56, l56, f56, j56, i56, g56, k56⟩ := OwnS.elem (OwnS.mono wPa0c1 (s_l2.trans (s_c3.trans s_l4))) h56
   obtain rfl : l56 = [.int .u64 y56] := g56
   refine vA 10 [7, 11, 12, 13, 14] rfl (fun _ _ h_ => R.ixp (sz := ((intE .u64)).size) Tryz.underlying30 Tryz.sizeOf43 rfl rfl rfl bA i56 (TL.nil h_)) ?_
   refine Plan.s2 7 11 [11, 12, 13, 14] [7, 12, 13, 14] kA kA kA rfl rfl ?_ ?_
   ·refine R.ld Tryz.isAgg43 rfl rfl (by rw [← f52]; exact .hd) (k52 0 _ rfl) ?_
    refine TL.nil (Plan.e1 (HLe.refl _) ?_)
    refine Plan.s1 11 [12, 13, 14] kA kA rfl ?_
    refine R.ld Tryz.isAgg43 rfl rfl (by rw [← f56]; exact .hd) (k56 0 _ rfl) ?_
    refine TL.nil (Plan.e1 (HLe.refl _) ?_)
    refine vA 12 [13, 14] rfl (fun _ _ h_ => R.callv rfl rfl rfl (k_41 _ (y52) (y56)) (TL.nil h_)) ?_
    refine vA 13 [14] rfl (fun _ _ h_ => R.not rfl rfl (TL.nil h_)) ?_
    refine vA 14 [] rfl (fun _ _ h_ => R.pkTE rfl rfl cA (TL.nil h_)) ?_
    refine Plan.done (Post.thnN ?_)
    exact ⟨(!(k_8 y52 y56)), HLe.refl _, ⟨(Has.cons .hd Has.nil), (by subst e56; subst e52; rw [if_pos g49])⟩, rfl, rfl, rfl, rfl, rfl, trivial⟩
   refine R.ld Tryz.isAgg43 rfl rfl (by rw [← f56]; exact .hd) (k56 0 _ rfl) ?_
   refine TL.nil (Plan.e1 (HLe.refl _) ?_)
   refine Plan.s1 7 [12, 13, 14] kA kA rfl ?_
   refine R.ld Tryz.isAgg43 rfl rfl (by rw [← f52]; exact .hd) (k52 0 _ rfl) ?_
   refine TL.nil (Plan.e1 (HLe.refl _) ?_)
   refine vA 12 [13, 14] rfl (fun _ _ h_ => R.callv rfl rfl rfl (k_41 _ (y52) (y56)) (TL.nil h_)) ?_
   refine vA 13 [14] rfl (fun _ _ h_ => R.not rfl rfl (TL.nil h_)) ?_
   refine vA 14 [] rfl (fun _ _ h_ => R.pkTE rfl rfl cA (TL.nil h_)) ?_
   refine Plan.done (Post.thnN ?_)
   exact ⟨(!(k_8 y52 y56)), HLe.refl _, ⟨(Has.cons .hd Has.nil), (by subst e56; subst e52; rw [if_pos g49])⟩, rfl, rfl, rfl, rfl, rfl, trivial⟩
  refine vO 4 [5, 6, 7, 8, 9, 10, 11, 12, 13, 14] rfl rfl rfl rfl ?_
  refine vO 5 [6, 7, 8, 9, 10, 11, 12, 13, 14] rfl rfl rfl rfl ?_
  refine vO 6 [7, 8, 9, 10, 11, 12, 13, 14] rfl rfl rfl rfl ?_
  refine vO 7 [8, 9, 10, 11, 12, 13, 14] rfl rfl rfl rfl ?_
  refine vO 8 [9, 10, 11, 12, 13, 14] rfl rfl rfl rfl ?_
  refine vO 9 [10, 11, 12, 13, 14] rfl rfl rfl rfl ?_
  refine vO 10 [11, 12, 13, 14] rfl rfl rfl rfl ?_
  refine vO 11 [12, 13, 14] rfl rfl rfl rfl ?_
  refine vO 12 [13, 14] rfl rfl rfl rfl ?_
  refine vO 13 [14] rfl rfl rfl rfl ?_
  refine vA 14 [] rfl (fun _ _ h_ => R.pkFE rfl rfl cA (TL.nil h_)) ?_
  refine Plan.done (Post.thnN ?_)
  exact ⟨false, HLe.refl _, ⟨(Has.cons .hd Has.nil), (by rw [if_neg g49])⟩, rfl, rfl, rfl, rfl, rfl, trivial⟩
 intro b60c5 σ_c5 H_c5 L_c5 ds_c5 s_c5 hI_c5
 obtain ⟨hLc5, hTc5⟩ := hI_c5
 refine T.has hLc5 ?_
 refine T.cond rfl (fun c60 => ?_) (fun c60 => ?_)
 ·refine T.set 60 (.bool true) (congrArg Value.bool c60) ?_
  have hZ60 := hTc5.trans c60
  try simp only [or_f, or_t, k_bf, k_c0, decide_eq_true_eq, decide_eq_false_iff_not, Bool.not_eq_true'] at hZ60
  refine T.skip (Post.thnN ?_)
  refine T.block ?_
  refine T.region ?_
  refine R.mvE rfl cA ?_
  refine R.subI rfl rfl rfl oA ?_
  refine R.asE rfl cA ?_
  refine TL.nil (Post.blkN ?_)
  refine id (Post.thnN ?_)
  exact ⟨(ml4, (n11l4 - 1)), (s_l4.trans s_c5), ⟨(by first | omega | (simp; omega) | (simp at *; omega)), (Has.cons .hd Has.nil), bA, bA, (by rw [← hQl4, k_38]; rw [hTc5, LR.seq_go, if_t c60])⟩, by show ml4 < ml4 + 1; omega, rfl, rfl, rfl, rfl, trivial⟩
 refine T.set 60 (.bool false) (congrArg Value.bool c60) ?_
 have hZ60 := hTc5.trans c60
 try simp only [or_f, or_t, k_bf, k_c0, decide_eq_true_eq, decide_eq_false_iff_not, Bool.not_eq_true'] at hZ60
 refine T.exit (Post.thnE (Post.thnE (Post.blkX ?_)))
 have hEl4 : k_38 a1 n10l2 xPa0c1 ((((a2 - 1)) - n10l2 + 1).toNat + 1) ((a2 - 1)) = n11l4 := (by rw [← hQl4, k_38]; rw [hTc5, LR.seq_go, if_f c60])
 refine id (Post.thnN ?_)
 refine T.seq ?_
 refine sR ?_
 refine R.mvE rfl cA ?_
 refine R.mvE rfl cA ?_
 refine R.gtr rfl rfl rfl ?_
 refine nN ?_
 refine T.condD rfl (fun c65 => ?_) (fun c65 => ?_)
 ·refine T.set 65 (.bool true) (congrArg Value.bool (decide_eq_true c65)) ?_
  refine T.seq ?_
  refine T.draw k_2b kA ?_
  refine vM 0 [1, 2, 3, 4, 5, 6, 7, 8, 9, 10, 11, 12, 13, 14, 15] rfl rfl cA ?_
  refine vM 1 [2, 3, 4, 5, 6, 7, 8, 9, 10, 11, 12, 13, 14, 15] rfl rfl cA ?_
  refine vM 2 [3, 4, 5, 6, 7, 8, 9, 10, 11, 12, 13, 14, 15] rfl rfl cA ?_
  refine vM 3 [4, 5, 6, 7, 8, 9, 10, 11, 12, 13, 14, 15] rfl rfl cA ?_
  refine vM 4 [5, 6, 7, 8, 9, 10, 11, 12, 13, 14, 15] rfl rfl cA ?_
  refine vM 5 [6, 7, 8, 9, 10, 11, 12, 13, 14, 15] rfl rfl cA ?_
  have hl72 : a1.toNat < a0.length := bA
  obtain ⟨y72, e72, h72⟩ : ∃ y, y = (xPa0c1.getD a1.toNat (0 : Int)) ∧ xPa0c1[a1.toNat]? = some y := ⟨_, rfl, k_6 (by first | exact hl72 | simpa using hl72 | (simp only [List.length_set]; omega) | omega | (rw [(k_1 _).length_eq]; exact hl72))⟩
  obtain ⟨b72, u72, cs72, l72, f72, j72, i72, g72, k72⟩ := OwnS.elem (OwnS.mono wPa0c1 (s_l2.trans (s_c3.trans (s_l4.trans s_c5)))) h72
  obtain rfl : l72 = [.int .u64 y72] := g72
  refine vA 6 [7, 8, 9, 10, 11, 12, 13, 14, 15] rfl (fun _ _ h_ => R.ixp (sz := ((intE .u64)).size) Tryz.underlying30 Tryz.sizeOf43 rfl rfl rfl bA i72 (TL.nil h_)) ?_
  refine vM 8 [7, 9, 10, 11, 12, 13, 14, 15] rfl rfl cA ?_
  refine vM 9 [7, 10, 11, 12, 13, 14, 15] rfl rfl cA ?_
  have hl76 : n11l4.toNat < a0.length := bA
  obtain ⟨y76, e76, h76⟩ : ∃ y, y = (xPa0c1.getD n11l4.toNat (0 : Int)) ∧ xPa0c1[n11l4.toNat]? = some y := ⟨_, rfl, k_6 (by first | exact hl76 | simpa using hl76 | (simp only [List.length_set]; omega) | omega | (rw [(k_1 _).length_eq]; exact hl76))⟩
  obtain ⟨b76, u76, cs76, l76, f76, j76, i76, g76, k76⟩ := OwnS.elem (OwnS.mono wPa0c1 (s_l2.trans (s_c3.trans (s_l4.trans s_c5)))) h76
  obtain rfl : l76 = [.int .u64 y76] := g76
  refine vA 10 [7, 11, 12, 13, 14, 15] rfl (fun _ _ h_ => R.ixp (sz := ((intE .u64)).size) Tryz.underlying30 Tryz.sizeOf43 rfl rfl rfl bA i76 (TL.nil h_)) ?_
  refine Plan.s2 7 11 [11, 12, 13, 14, 15] [7, 12, 13, 14, 15] kA kA kA rfl rfl ?_ ?_
  ·refine R.ld Tryz.isAgg43 rfl rfl (by rw [← f72]; exact .hd) (k72 0 _ rfl) ?_
   refine TL.nil (Plan.e1 (HLe.refl _) ?_)
   refine Plan.s1 11 [12, 13, 14, 15] kA kA rfl ?_
   refine R.ld Tryz.isAgg43 rfl rfl (by rw [← f76]; exact .hd) (k76 0 _ rfl) ?_
   refine TL.nil (Plan.e1 (HLe.refl _) ?_)
   have hl78 : n11l4.toNat < a0.length := bA
   obtain ⟨y78, e78, h78⟩ : ∃ y, y = (xPa0c1.getD n11l4.toNat (0 : Int)) ∧ xPa0c1[n11l4.toNat]? = some y := ⟨_, rfl, k_6 (by first | exact hl78 | simpa using hl78 | (simp only [List.length_set]; omega) | omega | (rw [(k_1 _).length_eq]; exact hl78))⟩
   obtain ⟨b78, u78, cs78, l78, f78, j78, i78, g78, k78⟩ := OwnS.elem (OwnS.mono wPa0c1 (s_l2.trans (s_c3.trans (s_l4.trans s_c5)))) h78
   obtain rfl : l78 = [.int .u64 y78] := g78
   refine vA 12 [13, 14, 15] rfl (fun _ _ h_ => R.ixp (sz := ((intE .u64)).size) Tryz.underlying30 Tryz.sizeOf43 rfl rfl rfl bA i78 (TL.nil h_)) ?_
   refine Plan.s1 13 [14, 15] kA kA rfl ?_
   refine R.stEF (E := (intE .u64)) (e := 43) (v := (.slice Aa0 a0.length pa0)) (m := [.int .u64 y72]) (o := 0) (y := y78) (y' := y72) (j := n11l4.toNat) Tryz.sizeOf43 rfl (OwnS.mono wPa0c1 (s_l2.trans (s_c3.trans (s_l4.trans s_c5)))) .hd i78 rfl rfl (cells1 rfl) (k_20 rfl) h78 (by show 0 + 1 ≤ 1; decide) (fun l hl => by have e0 : l = [.int .u64 y78] := hl; subst e0; exact rfl) ?_
   intro cst399 wst399
   refine TL.nil (Plan.e0 (HLe.refl _) ?_)
   have hl79 : a1.toNat < a0.length := bA
   obtain ⟨y79, e79, h79⟩ : ∃ y, y = (((xPa0c1.set n11l4.toNat y72)).getD a1.toNat (0 : Int)) ∧ ((xPa0c1.set n11l4.toNat y72))[a1.toNat]? = some y := ⟨_, rfl, k_6 (by first | exact hl79 | simpa using hl79 | (simp only [List.length_set]; omega) | omega | (rw [(k_1 _).length_eq]; exact hl79))⟩
   obtain ⟨b79, u79, cs79, l79, f79, j79, i79, g79, k79⟩ := OwnS.elem wst399 h79
   obtain rfl : l79 = [.int .u64 y79] := g79
   refine vA 14 [15] rfl (fun _ _ h_ => R.ixp (sz := ((intE .u64)).size) Tryz.underlying30 Tryz.sizeOf43 rfl rfl rfl bA i79 (TL.nil h_)) ?_
   refine Plan.s1 15 [] kA kA rfl ?_
   refine R.stEF (E := (intE .u64)) (e := 43) (v := (.slice Aa0 a0.length pa0)) (m := [.int .u64 y76]) (o := 0) (y := y79) (y' := y76) (j := a1.toNat) Tryz.sizeOf43 rfl wst399 .hd i79 rfl rfl (cells1 rfl) (k_20 rfl) h79 (by show 0 + 1 ≤ 1; decide) (fun l hl => by have e0 : l = [.int .u64 y79] := hl; subst e0; exact rfl) ?_
   intro cst400 wst400
   refine TL.nil (Plan.e0 (HLe.refl _) ?_)
   refine Plan.done (Post.thnN ?_)
   refine sR ?_
   refine R.mvE rfl cA ?_
   refine R.asE rfl cA ?_
   refine R.asE rfl cA ?_
   refine nN ?_
   refine T.has (Has.cons .hd Has.nil) ?_
   refine T.ret (Post.thnR ?_)
   have hM : k_3 a0 a1 a2 a3 = (n11l4, true, (((xPa0c1.set n11l4.toNat y72)).set a1.toNat y76)) := by subst e79; subst e78; subst e76; subst e72; rw [k_3, hTc1, LR.seq_go, hEl2, LR.seq_go, hEl4, LR.seq_go, if_pos c65]
   exact fin2L (v := .int .i64 n11l4) (v' := .bool true) [cst400] rfl rfl rfl (List.Sublist.refl _) ⟨cst400, by first | rw [hM] | rfl, by first | rw [hM] | rfl, by rw [hM]; exact wst400⟩
  refine R.ld Tryz.isAgg43 rfl rfl (by rw [← f76]; exact .hd) (k76 0 _ rfl) ?_
  refine TL.nil (Plan.e1 (HLe.refl _) ?_)
  refine Plan.s1 7 [12, 13, 14, 15] kA kA rfl ?_
  refine R.ld Tryz.isAgg43 rfl rfl (by rw [← f72]; exact .hd) (k72 0 _ rfl) ?_
  refine TL.nil (Plan.e1 (HLe.refl _) ?_)
  have hl78 : n11l4.toNat < a0.length := bA
  obtain ⟨y78, e78, h78⟩ : ∃ y, y = (xPa0c1.getD n11l4.toNat (0 : Int)) ∧ xPa0c1[n11l4.toNat]? = some y := ⟨_, rfl, k_6 (by first | exact hl78 | simpa using hl78 | (simp only [List.length_set]; omega) | omega | (rw [(k_1 _).length_eq]; exact hl78))⟩
  obtain ⟨b78, u78, cs78, l78, f78, j78, i78, g78, k78⟩ := OwnS.elem (OwnS.mono wPa0c1 (s_l2.trans (s_c3.trans (s_l4.trans s_c5)))) h78
  obtain rfl : l78 = [.int .u64 y78] := g78
  refine vA 12 [13, 14, 15] rfl (fun _ _ h_ => R.ixp (sz := ((intE .u64)).size) Tryz.underlying30 Tryz.sizeOf43 rfl rfl rfl bA i78 (TL.nil h_)) ?_
  refine Plan.s1 13 [14, 15] kA kA rfl ?_
  refine R.stEF (E := (intE .u64)) (e := 43) (v := (.slice Aa0 a0.length pa0)) (m := [.int .u64 y72]) (o := 0) (y := y78) (y' := y72) (j := n11l4.toNat) Tryz.sizeOf43 rfl (OwnS.mono wPa0c1 (s_l2.trans (s_c3.trans (s_l4.trans s_c5)))) .hd i78 rfl rfl (cells1 rfl) (k_20 rfl) h78 (by show 0 + 1 ≤ 1; decide) (fun l hl => by have e0 : l = [.int .u64 y78] := hl; subst e0; exact rfl) ?_
  intro cst401 wst401
  refine TL.nil (Plan.e0 (HLe.refl _) ?_)
  have hl79 : a1.toNat < a0.length := bA
  obtain ⟨y79, e79, h79⟩ : ∃ y, y = (((xPa0c1.set n11l4.toNat y72)).getD a1.toNat (0 : Int)) ∧ ((xPa0c1.set n11l4.toNat y72))[a1.toNat]? = some y := ⟨_, rfl, k_6 (by first | exact hl79 | simpa using hl79 | (simp only [List.length_set]; omega) | omega | (rw [(k_1 _).length_eq]; exact hl79))⟩
  obtain ⟨b79, u79, cs79, l79, f79, j79, i79, g79, k79⟩ := OwnS.elem wst401 h79
  obtain rfl : l79 = [.int .u64 y79] := g79
  refine vA 14 [15] rfl (fun _ _ h_ => R.ixp (sz := ((intE .u64)).size) Tryz.underlying30 Tryz.sizeOf43 rfl rfl rfl bA i79 (TL.nil h_)) ?_
  refine Plan.s1 15 [] kA kA rfl ?_
  refine R.stEF (E := (intE .u64)) (e := 43) (v := (.slice Aa0 a0.length pa0)) (m := [.int .u64 y76]) (o := 0) (y := y79) (y' := y76) (j := a1.toNat) Tryz.sizeOf43 rfl wst401 .hd i79 rfl rfl (cells1 rfl) (k_20 rfl) h79 (by show 0 + 1 ≤ 1; decide) (fun l hl => by have e0 : l = [.int .u64 y79] := hl; subst e0; exact rfl) ?_
  intro cst402 wst402
  refine TL.nil (Plan.e0 (HLe.refl _) ?_)
  refine Plan.done (Post.thnN ?_)
  refine sR ?_
  refine R.mvE rfl cA ?_
  refine R.asE rfl cA ?_
  refine R.asE rfl cA ?_
  refine nN ?_
  refine T.has (Has.cons .hd Has.nil) ?_
  refine T.ret (Post.thnR ?_)
  have hM : k_3 a0 a1 a2 a3 = (n11l4, true, (((xPa0c1.set n11l4.toNat y72)).set a1.toNat y76)) := by subst e79; subst e78; subst e76; subst e72; rw [k_3, hTc1, LR.seq_go, hEl2, LR.seq_go, hEl4, LR.seq_go, if_pos c65]
  exact fin2L (v := .int .i64 n11l4) (v' := .bool true) [cst402] rfl rfl rfl (List.Sublist.refl _) ⟨cst402, by first | rw [hM] | rfl, by first | rw [hM] | rfl, by rw [hM]; exact wst402⟩
 refine T.set 65 (.bool false) (congrArg Value.bool (decide_eq_false c65)) ?_
 refine T.skip (Post.thnN ?_)
 refine T.seq ?_
 refine T.cutK (ι := (List Int) × Chunk) (fun ⟨xPa0c6, cPa0c6⟩ H' L' ds' => Has L' [cPa0c6] ∧ OwnS (intE .u64) 43 H' (.slice Aa0 a0.length pa0) xPa0c6 cPa0c6 ∧ ((((xPa0c1.set n10l2.toNat (xPa0c1.getD n11l4.toNat (0 : Int)))).set n11l4.toNat (xPa0c1.getD n10l2.toNat (0 : Int))) : (List Int)) = xPa0c6) (fun ⟨xPa0c6, cPa0c6⟩ => [(0, .slice Aa0 a0.length pa0), (1, .int .i64 a1), (10, .int .i64 n10l2), (11, .int .i64 n11l4)]) ?_ ?_
 ·refine T.draw k_2b kA ?_
  refine vM 0 [1, 2, 3, 4, 5, 6, 7, 8, 9, 10, 11, 12, 13, 14, 15] rfl rfl cA ?_
  refine vM 1 [2, 3, 4, 5, 6, 7, 8, 9, 10, 11, 12, 13, 14, 15] rfl rfl cA ?_
  refine vM 2 [3, 4, 5, 6, 7, 8, 9, 10, 11, 12, 13, 14, 15] rfl rfl cA ?_
  refine vM 3 [4, 5, 6, 7, 8, 9, 10, 11, 12, 13, 14, 15] rfl rfl cA ?_
  refine vM 4 [5, 6, 7, 8, 9, 10, 11, 12, 13, 14, 15] rfl rfl cA ?_
  refine vM 5 [6, 7, 8, 9, 10, 11, 12, 13, 14, 15] rfl rfl cA ?_
  have hl87 : n11l4.toNat < a0.length := bA
  obtain ⟨y87, e87, h87⟩ : ∃ y, y = (xPa0c1.getD n11l4.toNat (0 : Int)) ∧ xPa0c1[n11l4.toNat]? = some y := ⟨_, rfl, k_6 (by first | exact hl87 | simpa using hl87 | (simp only [List.length_set]; omega) | omega | (rw [(k_1 _).length_eq]; exact hl87))⟩
  obtain ⟨b87, u87, cs87, l87, f87, j87, i87, g87, k87⟩ := OwnS.elem (OwnS.mono wPa0c1 (s_l2.trans (s_c3.trans (s_l4.trans s_c5)))) h87
  obtain rfl : l87 = [.int .u64 y87] := g87
  refine vA 6 [7, 8, 9, 10, 11, 12, 13, 14, 15] rfl (fun _ _ h_ => R.ixp (sz := ((intE .u64)).size) Tryz.underlying30 Tryz.sizeOf43 rfl rfl rfl bA i87 (TL.nil h_)) ?_
  refine vM 8 [7, 9, 10, 11, 12, 13, 14, 15] rfl rfl cA ?_
  refine vM 9 [7, 10, 11, 12, 13, 14, 15] rfl rfl cA ?_
  have hl91 : n10l2.toNat < a0.length := bA
  obtain ⟨y91, e91, h91⟩ : ∃ y, y = (xPa0c1.getD n10l2.toNat (0 : Int)) ∧ xPa0c1[n10l2.toNat]? = some y := ⟨_, rfl, k_6 (by first | exact hl91 | simpa using hl91 | (simp only [List.length_set]; omega) | omega | (rw [(k_1 _).length_eq]; exact hl91))⟩
  obtain ⟨b91, u91, cs91, l91, f91, j91, i91, g91, k91⟩ := OwnS.elem (OwnS.mono wPa0c1 (s_l2.trans (s_c3.trans (s_l4.trans s_c5)))) h91
  obtain rfl : l91 = [.int .u64 y91] := g91
  refine vA 10 [7, 11, 12, 13, 14, 15] rfl (fun _ _ h_ => R.ixp (sz := ((intE .u64)).size) Tryz.underlying30 Tryz.sizeOf43 rfl rfl rfl bA i91 (TL.nil h_)) ?_
  refine Plan.s2 7 11 [11, 12, 13, 14, 15] [7, 12, 13, 14, 15] kA kA kA rfl rfl ?_ ?_
  ·refine R.ld Tryz.isAgg43 rfl rfl (by rw [← f87]; exact .hd) (k87 0 _ rfl) ?_
   refine TL.nil (Plan.e1 (HLe.refl _) ?_)
   refine Plan.s1 11 [12, 13, 14, 15] kA kA rfl ?_
   refine R.ld Tryz.isAgg43 rfl rfl (by rw [← f91]; exact .hd) (k91 0 _ rfl) ?_
   refine TL.nil (Plan.e1 (HLe.refl _) ?_)
   have hl93 : n10l2.toNat < a0.length := bA
   obtain ⟨y93, e93, h93⟩ : ∃ y, y = (xPa0c1.getD n10l2.toNat (0 : Int)) ∧ xPa0c1[n10l2.toNat]? = some y := ⟨_, rfl, k_6 (by first | exact hl93 | simpa using hl93 | (simp only [List.length_set]; omega) | omega | (rw [(k_1 _).length_eq]; exact hl93))⟩
   obtain ⟨b93, u93, cs93, l93, f93, j93, i93, g93, k93⟩ := OwnS.elem (OwnS.mono wPa0c1 (s_l2.trans (s_c3.trans (s_l4.trans s_c5)))) h93
   obtain rfl : l93 = [.int .u64 y93] := g93
   refine vA 12 [13, 14, 15] rfl (fun _ _ h_ => R.ixp (sz := ((intE .u64)).size) Tryz.underlying30 Tryz.sizeOf43 rfl rfl rfl bA i93 (TL.nil h_)) ?_
   refine Plan.s1 13 [14, 15] kA kA rfl ?_
   refine R.stEF (E := (intE .u64)) (e := 43) (v := (.slice Aa0 a0.length pa0)) (m := [.int .u64 y87]) (o := 0) (y := y93) (y' := y87) (j := n10l2.toNat) Tryz.sizeOf43 rfl (OwnS.mono wPa0c1 (s_l2.trans (s_c3.trans (s_l4.trans s_c5)))) .hd i93 rfl rfl (cells1 rfl) (k_20 rfl) h93 (by show 0 + 1 ≤ 1; decide) (fun l hl => by have e0 : l = [.int .u64 y93] := hl; subst e0; exact rfl) ?_
   intro cst403 wst403
   refine TL.nil (Plan.e0 (HLe.refl _) ?_)
   have hl94 : n11l4.toNat < a0.length := bA
   obtain ⟨y94, e94, h94⟩ : ∃ y, y = (((xPa0c1.set n10l2.toNat y87)).getD n11l4.toNat (0 : Int)) ∧ ((xPa0c1.set n10l2.toNat y87))[n11l4.toNat]? = some y := ⟨_, rfl, k_6 (by first | exact hl94 | simpa using hl94 | (simp only [List.length_set]; omega) | omega | (rw [(k_1 _).length_eq]; exact hl94))⟩
   obtain ⟨b94, u94, cs94, l94, f94, j94, i94, g94, k94⟩ := OwnS.elem wst403 h94
   obtain rfl : l94 = [.int .u64 y94] := g94
   refine vA 14 [15] rfl (fun _ _ h_ => R.ixp (sz := ((intE .u64)).size) Tryz.underlying30 Tryz.sizeOf43 rfl rfl rfl bA i94 (TL.nil h_)) ?_
   refine Plan.s1 15 [] kA kA rfl ?_
   refine R.stEF (E := (intE .u64)) (e := 43) (v := (.slice Aa0 a0.length pa0)) (m := [.int .u64 y91]) (o := 0) (y := y94) (y' := y91) (j := n11l4.toNat) Tryz.sizeOf43 rfl wst403 .hd i94 rfl rfl (cells1 rfl) (k_20 rfl) h94 (by show 0 + 1 ≤ 1; decide) (fun l hl => by have e0 : l = [.int .u64 y94] := hl; subst e0; exact rfl) ?_
   intro cst404 wst404
   refine TL.nil (Plan.e0 (HLe.refl _) ?_)
   refine Plan.done (Post.thnN ?_)
   exact ⟨((((xPa0c1.set n10l2.toNat y87)).set n11l4.toNat y91), cst404), HLe.refl _, ⟨(Has.cons .hd Has.nil), wst404, (by subst e94; subst e93; subst e91; subst e87; rfl)⟩, rfl, rfl, rfl, rfl, trivial⟩
  refine R.ld Tryz.isAgg43 rfl rfl (by rw [← f91]; exact .hd) (k91 0 _ rfl) ?_
  refine TL.nil (Plan.e1 (HLe.refl _) ?_)
  refine Plan.s1 7 [12, 13, 14, 15] kA kA rfl ?_
  refine R.ld Tryz.isAgg43 rfl rfl (by rw [← f87]; exact .hd) (k87 0 _ rfl) ?_
  refine TL.nil (Plan.e1 (HLe.refl _) ?_)
  have hl93 : n10l2.toNat < a0.length := bA
  obtain ⟨y93, e93, h93⟩ : ∃ y, y = (xPa0c1.getD n10l2.toNat (0 : Int)) ∧ xPa0c1[n10l2.toNat]? = some y := ⟨_, rfl, k_6 (by first | exact hl93 | simpa using hl93 | (simp only [List.length_set]; omega) | omega | (rw [(k_1 _).length_eq]; exact hl93))⟩
  obtain ⟨b93, u93, cs93, l93, f93, j93, i93, g93, k93⟩ := OwnS.elem (OwnS.mono wPa0c1 (s_l2.trans (s_c3.trans (s_l4.trans s_c5)))) h93
  obtain rfl : l93 = [.int .u64 y93] := g93
  refine vA 12 [13, 14, 15] rfl (fun _ _ h_ => R.ixp (sz := ((intE .u64)).size) Tryz.underlying30 Tryz.sizeOf43 rfl rfl rfl bA i93 (TL.nil h_)) ?_
  refine Plan.s1 13 [14, 15] kA kA rfl ?_
  refine R.stEF (E := (intE .u64)) (e := 43) (v := (.slice Aa0 a0.length pa0)) (m := [.int .u64 y87]) (o := 0) (y := y93) (y' := y87) (j := n10l2.toNat) Tryz.sizeOf43 rfl (OwnS.mono wPa0c1 (s_l2.trans (s_c3.trans (s_l4.trans s_c5)))) .hd i93 rfl rfl (cells1 rfl) (k_20 rfl) h93 (by show 0 + 1 ≤ 1; decide) (fun l hl => by have e0 : l = [.int .u64 y93] := hl; subst e0; exact rfl) ?_
  intro cst405 wst405
  refine TL.nil (Plan.e0 (HLe.refl _) ?_)
  have hl94 : n11l4.toNat < a0.length := bA
  obtain ⟨y94, e94, h94⟩ : ∃ y, y = (((xPa0c1.set n10l2.toNat y87)).getD n11l4.toNat (0 : Int)) ∧ ((xPa0c1.set n10l2.toNat y87))[n11l4.toNat]? = some y := ⟨_, rfl, k_6 (by first | exact hl94 | simpa using hl94 | (simp only [List.length_set]; omega) | omega | (rw [(k_1 _).length_eq]; exact hl94))⟩
  obtain ⟨b94, u94, cs94, l94, f94, j94, i94, g94, k94⟩ := OwnS.elem wst405 h94
  obtain rfl : l94 = [.int .u64 y94] := g94
  refine vA 14 [15] rfl (fun _ _ h_ => R.ixp (sz := ((intE .u64)).size) Tryz.underlying30 Tryz.sizeOf43 rfl rfl rfl bA i94 (TL.nil h_)) ?_
  refine Plan.s1 15 [] kA kA rfl ?_
  refine R.stEF (E := (intE .u64)) (e := 43) (v := (.slice Aa0 a0.length pa0)) (m := [.int .u64 y91]) (o := 0) (y := y94) (y' := y91) (j := n11l4.toNat) Tryz.sizeOf43 rfl wst405 .hd i94 rfl rfl (cells1 rfl) (k_20 rfl) h94 (by show 0 + 1 ≤ 1; decide) (fun l hl => by have e0 : l = [.int .u64 y94] := hl; subst e0; exact rfl) ?_
  intro cst406 wst406
  refine TL.nil (Plan.e0 (HLe.refl _) ?_)
  refine Plan.done (Post.thnN ?_)
  exact ⟨((((xPa0c1.set n10l2.toNat y87)).set n11l4.toNat y91), cst406), HLe.refl _, ⟨(Has.cons .hd Has.nil), wst406, (by subst e94; subst e93; subst e91; subst e87; rfl)⟩, rfl, rfl, rfl, rfl, trivial⟩
 intro ⟨xPa0c6, cPa0c6⟩ σ_c6 H_c6 L_c6 ds_c6 s_c6 hI_c6
 obtain ⟨hLc6, wPa0c6, hTc6⟩ := hI_c6
 have nPa0c6_ := OwnS.len wPa0c6
 refine T.has hLc6 ?_
 refine sR ?_
 refine R.mvE rfl cA ?_
 refine R.addI rfl rfl rfl oA ?_
 refine R.asE rfl cA ?_
 refine nN ?_
 refine sR ?_
 refine R.mvE rfl cA ?_
 refine R.subI rfl rfl rfl oA ?_
 refine R.asE rfl cA ?_
 refine nN ?_
 refine T.seq ?_
 refine T.cutK (ι := Int × (List Int) × Chunk) (fun ⟨n11c12, xPa0c12, cPa0c12⟩ H' L' ds' => Has L' [cPa0c12] ∧ OwnS (intE .u64) 43 H' (.slice Aa0 a0.length pa0) xPa0c12 cPa0c12 ∧ a1 ≤ n11c12 ∧ n11c12 < a2 ∧ (LR.seq (k_39 a1 ((((n11l4 - 1)) - ((n10l2 + 1)) + 2).toNat + 1) (((n10l2 + 1), (n11l4 - 1), xPa0c6))) (fun ol7 => ol7) : Int × (List Int)) = (n11c12, xPa0c12)) (fun ⟨n11c12, xPa0c12, cPa0c12⟩ => [(0, .slice Aa0 a0.length pa0), (1, .int .i64 a1), (11, .int .i64 n11c12)]) ?_ ?_
 ·refine T.block ?_
  refine T.loop (ι := Nat × Int × Int × (List Int) × Chunk) (fun ⟨kl7, n10l7, n11l7, xPa0l7, cPa0l7⟩ H' L' ds' => (n11l7 - n10l7 + 2).toNat < kl7 ∧ Has L' [cPa0l7] ∧ OwnS (intE .u64) 43 H' (.slice Aa0 a0.length pa0) xPa0l7 cPa0l7 ∧ a1 + 1 ≤ n10l7 ∧ n10l7 ≤ a2 ∧ a1 ≤ n11l7 ∧ n11l7 < a2 ∧ k_39 a1 kl7 ((n10l7, n11l7, xPa0l7)) = k_39 a1 ((((n11l4 - 1)) - ((n10l2 + 1)) + 2).toNat + 1) (((n10l2 + 1), (n11l4 - 1), xPa0c6))) (fun ⟨kl7, n10l7, n11l7, xPa0l7, cPa0l7⟩ => [(0, .slice Aa0 a0.length pa0), (1, .int .i64 a1), (10, .int .i64 n10l7), (11, .int .i64 n11l7)]) (fun ⟨kl7, n10l7, n11l7, xPa0l7, cPa0l7⟩ => kl7) (((((n11l4 - 1)) - ((n10l2 + 1)) + 2).toNat + 1), (n10l2 + 1), (n11l4 - 1), xPa0c6, cPa0c6) ?_ ?_ ?_
  ·exact ⟨oA, (Has.cons .hd Has.nil), wPa0c6, bA, bA, bA, bA, (by rfl)⟩
  ·exact ⟨rfl, rfl, rfl, rfl, trivial⟩
  intro ⟨kl7, n10l7, n11l7, xPa0l7, cPa0l7⟩ σ_l7 H_l7 L_l7 ds_l7 s_l7 hI_l7
  obtain ⟨hkl7, hI_l7⟩ := hI_l7
  obtain ⟨ml7, rfl⟩ : ∃ m, kl7 = m + 1 := ⟨kl7 - 1, by omega⟩
  obtain ⟨hLl7, wPa0l7, hBl7_0, hBl7_1, hBl7_2, hBl7_3, hQl7⟩ := hI_l7
  have nPa0l7_ := OwnS.len wPa0l7
  refine T.has hLl7 ?_
  refine T.block ?_
  refine T.seq ?_
  refine T.block ?_
  refine T.loop (ι := Nat × Int) (fun ⟨kl8, n10l8⟩ H' L' ds' => (n11l7 - n10l8 + 1).toNat < kl8 ∧ Has L' [cPa0l7] ∧ a1 + 1 ≤ n10l8 ∧ n10l8 ≤ a2 ∧ n10l7 ≤ n10l8 ∧ k_48 a1 n11l7 xPa0l7 kl8 n10l8 = k_48 a1 n11l7 xPa0l7 ((n11l7 - n10l7 + 1).toNat + 1) n10l7) (fun ⟨kl8, n10l8⟩ => [(0, .slice Aa0 a0.length pa0), (1, .int .i64 a1), (10, .int .i64 n10l8), (11, .int .i64 n11l7)]) (fun ⟨kl8, n10l8⟩ => kl8) (((n11l7 - n10l7 + 1).toNat + 1), n10l7) ?_ ?_ ?_
  ·exact ⟨oA, (Has.cons .hd Has.nil), bA, bA, bA, (by rfl)⟩
  ·exact ⟨rfl, rfl, rfl, rfl, trivial⟩
  intro ⟨kl8, n10l8⟩ σ_l8 H_l8 L_l8 ds_l8 s_l8 hI_l8
  obtain ⟨hkl8, hI_l8⟩ := hI_l8
  obtain ⟨ml8, rfl⟩ : ∃ m, kl8 = m + 1 := ⟨kl8 - 1, by omega⟩
  obtain ⟨hLl8, hBl8_0, hBl8_1, hBl8_2, hQl8⟩ := hI_l8
  refine T.has hLl8 ?_
  refine T.seq ?_
  refine T.seq ?_
  refine T.cutK (ι := Bool) (fun b112c9 H' L' ds' => Has L' [cPa0l7] ∧ (if n10l8 ≤ n11l7 then ((k_8 (xPa0l7.getD n10l8.toNat (0 : Int)) (xPa0l7.getD a1.toNat (0 : Int)))) else false : Bool) = b112c9) (fun b112c9 => [(0, .slice Aa0 a0.length pa0), (1, .int .i64 a1), (10, .int .i64 n10l8), (11, .int .i64 n11l7), (112, .bool (b112c9))]) ?_ ?_
  ·refine T.draw k_2b kA ?_
   refine vM 0 [1, 2, 3, 4, 5, 6, 7, 8, 9, 10, 11, 12, 13] rfl rfl cA ?_
   refine vM 1 [2, 3, 4, 5, 6, 7, 8, 9, 10, 11, 12, 13] rfl rfl cA ?_
   refine vA 2 [3, 4, 5, 6, 7, 8, 9, 10, 11, 12, 13] rfl (fun _ _ h_ => R.leq rfl rfl rfl (TL.nil h_)) ?_
   refine vM 3 [4, 5, 6, 7, 8, 9, 10, 11, 12, 13] rfl rfl cA ?_
   refine Plan.gsplitD 102 rfl (fun g102 => ?_) (fun g102 => ?_)
   ·refine vM 4 [5, 6, 7, 8, 9, 10, 11, 12, 13] rfl rfl cA ?_
    refine vM 5 [6, 7, 8, 9, 10, 11, 12, 13] rfl rfl cA ?_
    have hl105 : n10l8.toNat < a0.length := bA
    obtain ⟨y105, e105, h105⟩ : ∃ y, y = (xPa0l7.getD n10l8.toNat (0 : Int)) ∧ xPa0l7[n10l8.toNat]? = some y := ⟨_, rfl, k_6 (by first | exact hl105 | simpa using hl105 | (simp only [List.length_set]; omega) | omega | (rw [(k_1 _).length_eq]; exact hl105))⟩
    obtain ⟨b105, u105, cs105, l105, f105, j105, i105, g105, k105⟩ := OwnS.elem (OwnS.mono wPa0l7 s_l8) h105
    obtain rfl : l105 = [.int .u64 y105] := g105
    refine vA 6 [7, 8, 9, 10, 11, 12, 13] rfl (fun _ _ h_ => R.ixp (sz := ((intE .u64)).size) Tryz.underlying30 Tryz.sizeOf43 rfl rfl rfl bA i105 (TL.nil h_)) ?_
    refine vM 8 [7, 9, 10, 11, 12, 13] rfl rfl cA ?_
    refine vM 9 [7, 10, 11, 12, 13] rfl rfl cA ?_
    have hl109 : a1.toNat < a0.length := bA
    obtain ⟨y109, e109, h109⟩ : ∃ y, y = (xPa0l7.getD a1.toNat (0 : Int)) ∧ xPa0l7[a1.toNat]? = some y := ⟨_, rfl, k_6 (by first | exact hl109 | simpa using hl109 | (simp only [List.length_set]; omega) | omega | (rw [(k_1 _).length_eq]; exact hl109))⟩
    obtain ⟨b109, u109, cs109, l109, f109, j109, i109, g109, k109⟩ := OwnS.elem (OwnS.mono wPa0l7 s_l8) h109
    obtain rfl : l109 = [.int .u64 y109] := g109
    refine vA 10 [7, 11, 12, 13] rfl (fun _ _ h_ => R.ixp (sz := ((intE .u64)).size) Tryz.underlying30 Tryz.sizeOf43 rfl rfl rfl bA i109 (TL.nil h_)) ?_
    refine Plan.s2 7 11 [11, 12, 13] [7, 12, 13] kA kA kA rfl rfl ?_ ?_
    ·refine R.ld Tryz.isAgg43 rfl rfl (by rw [← f105]; exact .hd) (k105 0 _ rfl) ?_
     refine TL.nil (Plan.e1 (HLe.refl _) ?_)
     refine Plan.s1 11 [12, 13] kA kA rfl ?_
     refine R.ld Tryz.isAgg43 rfl rfl (by rw [← f109]; exact .hd) (k109 0 _ rfl) ?_
     refine TL.nil (Plan.e1 (HLe.refl _) ?_)
     refine vA 12 [13] rfl (fun _ _ h_ => R.callv rfl rfl rfl (k_41 _ (y105) (y109)) (TL.nil h_)) ?_
     refine vA 13 [] rfl (fun _ _ h_ => R.pkTE rfl rfl cA (TL.nil h_)) ?_
     refine Plan.done (Post.thnN ?_)
     exact ⟨(k_8 y105 y109), HLe.refl _, ⟨(Has.cons .hd Has.nil), (by subst e109; subst e105; rw [if_pos g102])⟩, rfl, rfl, rfl, rfl, rfl, trivial⟩
    refine R.ld Tryz.isAgg43 rfl rfl (by rw [← f109]; exact .hd) (k109 0 _ rfl) ?_
    refine TL.nil (Plan.e1 (HLe.refl _) ?_)
    refine Plan.s1 7 [12, 13] kA kA rfl ?_
    refine R.ld Tryz.isAgg43 rfl rfl (by rw [← f105]; exact .hd) (k105 0 _ rfl) ?_
    refine TL.nil (Plan.e1 (HLe.refl _) ?_)
    refine vA 12 [13] rfl (fun _ _ h_ => R.callv rfl rfl rfl (k_41 _ (y105) (y109)) (TL.nil h_)) ?_
    refine vA 13 [] rfl (fun _ _ h_ => R.pkTE rfl rfl cA (TL.nil h_)) ?_
    refine Plan.done (Post.thnN ?_)
    exact ⟨(k_8 y105 y109), HLe.refl _, ⟨(Has.cons .hd Has.nil), (by subst e109; subst e105; rw [if_pos g102])⟩, rfl, rfl, rfl, rfl, rfl, trivial⟩
   refine vO 4 [5, 6, 7, 8, 9, 10, 11, 12, 13] rfl rfl rfl rfl ?_
   refine vO 5 [6, 7, 8, 9, 10, 11, 12, 13] rfl rfl rfl rfl ?_
   refine vO 6 [7, 8, 9, 10, 11, 12, 13] rfl rfl rfl rfl ?_
   refine vO 7 [8, 9, 10, 11, 12, 13] rfl rfl rfl rfl ?_
   refine vO 8 [9, 10, 11, 12, 13] rfl rfl rfl rfl ?_
   refine vO 9 [10, 11, 12, 13] rfl rfl rfl rfl ?_
   refine vO 10 [11, 12, 13] rfl rfl rfl rfl ?_
   refine vO 11 [12, 13] rfl rfl rfl rfl ?_
   refine vO 12 [13] rfl rfl rfl rfl ?_
   refine vA 13 [] rfl (fun _ _ h_ => R.pkFE rfl rfl cA (TL.nil h_)) ?_
   refine Plan.done (Post.thnN ?_)
   exact ⟨false, HLe.refl _, ⟨(Has.cons .hd Has.nil), (by rw [if_neg g102])⟩, rfl, rfl, rfl, rfl, rfl, trivial⟩
  intro b112c9 σ_c9 H_c9 L_c9 ds_c9 s_c9 hI_c9
  obtain ⟨hLc9, hTc9⟩ := hI_c9
  refine T.has hLc9 ?_
  refine T.cond rfl (fun c112 => ?_) (fun c112 => ?_)
  ·refine T.set 112 (.bool true) (congrArg Value.bool c112) ?_
   have hZ112 := hTc9.trans c112
   try simp only [or_f, or_t, k_bf, k_c0, decide_eq_true_eq, decide_eq_false_iff_not, Bool.not_eq_true'] at hZ112
   refine T.skip (Post.thnN ?_)
   refine T.block ?_
   refine T.region ?_
   refine R.mvE rfl cA ?_
   refine R.addI rfl rfl rfl oA ?_
   refine R.asE rfl cA ?_
   refine TL.nil (Post.blkN ?_)
   refine id (Post.thnN ?_)
   exact ⟨(ml8, (n10l8 + 1)), (s_l8.trans s_c9), ⟨(by first | omega | (simp; omega) | (simp at *; omega)), (Has.cons .hd Has.nil), bA, bA, bA, (by rw [← hQl8, k_48]; rw [hTc9, LR.seq_go, if_t c112])⟩, by show ml8 < ml8 + 1; omega, rfl, rfl, rfl, rfl, trivial⟩
  refine T.set 112 (.bool false) (congrArg Value.bool c112) ?_
  have hZ112 := hTc9.trans c112
  try simp only [or_f, or_t, k_bf, k_c0, decide_eq_true_eq, decide_eq_false_iff_not, Bool.not_eq_true'] at hZ112
  refine T.exit (Post.thnE (Post.thnE (Post.blkX ?_)))
  have hEl8 : k_48 a1 n11l7 xPa0l7 ((n11l7 - n10l7 + 1).toNat + 1) n10l7 = n10l8 := (by rw [← hQl8, k_48]; rw [hTc9, LR.seq_go, if_f c112])
  refine id (Post.thnN ?_)
  refine T.seq ?_
  refine T.block ?_
  refine T.loop (ι := Nat × Int) (fun ⟨kl10, n11l10⟩ H' L' ds' => (n11l10 - n10l8 + 1).toNat < kl10 ∧ Has L' [cPa0l7] ∧ a1 ≤ n11l10 ∧ n11l10 < a2 ∧ n11l10 ≤ n11l7 ∧ k_33 a1 n10l8 xPa0l7 kl10 n11l10 = k_33 a1 n10l8 xPa0l7 ((n11l7 - n10l8 + 1).toNat + 1) n11l7) (fun ⟨kl10, n11l10⟩ => [(0, .slice Aa0 a0.length pa0), (1, .int .i64 a1), (10, .int .i64 n10l8), (11, .int .i64 n11l10)]) (fun ⟨kl10, n11l10⟩ => kl10) (((n11l7 - n10l8 + 1).toNat + 1), n11l7) ?_ ?_ ?_
  ·exact ⟨oA, (Has.cons .hd Has.nil), bA, bA, bA, (by rfl)⟩
  ·exact ⟨rfl, rfl, rfl, rfl, trivial⟩
  intro ⟨kl10, n11l10⟩ σ_l10 H_l10 L_l10 ds_l10 s_l10 hI_l10
  obtain ⟨hkl10, hI_l10⟩ := hI_l10
  obtain ⟨ml10, rfl⟩ : ∃ m, kl10 = m + 1 := ⟨kl10 - 1, by omega⟩
  obtain ⟨hLl10, hBl10_0, hBl10_1, hBl10_2, hQl10⟩ := hI_l10
  refine T.has hLl10 ?_
  refine T.seq ?_
  refine T.seq ?_
  refine T.cutK (ι := Bool) (fun b129c11 H' L' ds' => Has L' [cPa0l7] ∧ (if n10l8 ≤ n11l10 then ((!(k_8 (xPa0l7.getD n11l10.toNat (0 : Int)) (xPa0l7.getD a1.toNat (0 : Int))))) else false : Bool) = b129c11) (fun b129c11 => [(0, .slice Aa0 a0.length pa0), (1, .int .i64 a1), (10, .int .i64 n10l8), (11, .int .i64 n11l10), (129, .bool (b129c11))]) ?_ ?_
  ·refine T.draw k_2b kA ?_
   refine vM 0 [1, 2, 3, 4, 5, 6, 7, 8, 9, 10, 11, 12, 13, 14] rfl rfl cA ?_
   refine vM 1 [2, 3, 4, 5, 6, 7, 8, 9, 10, 11, 12, 13, 14] rfl rfl cA ?_
   refine vA 2 [3, 4, 5, 6, 7, 8, 9, 10, 11, 12, 13, 14] rfl (fun _ _ h_ => R.leq rfl rfl rfl (TL.nil h_)) ?_
   refine vM 3 [4, 5, 6, 7, 8, 9, 10, 11, 12, 13, 14] rfl rfl cA ?_
   refine Plan.gsplitD 118 rfl (fun g118 => ?_) (fun g118 => ?_)
   ·refine vM 4 [5, 6, 7, 8, 9, 10, 11, 12, 13, 14] rfl rfl cA ?_
    refine vM 5 [6, 7, 8, 9, 10, 11, 12, 13, 14] rfl rfl cA ?_
    have hl121 : n11l10.toNat < a0.length := bA
    obtain ⟨y121, e121, h121⟩ : ∃ y, y = (xPa0l7.getD n11l10.toNat (0 : Int)) ∧ xPa0l7[n11l10.toNat]? = some y := ⟨_, rfl, k_6 (by first | exact hl121 | simpa using hl121 | (simp only [List.length_set]; omega) | omega | (rw [(k_1 _).length_eq]; exact hl121))⟩
    obtain ⟨b121, u121, cs121, l121, f121, j121, i121, g121, k121⟩ := OwnS.elem (OwnS.mono wPa0l7 (s_l8.trans (s_c9.trans s_l10))) h121
    obtain rfl : l121 = [.int .u64 y121] := g121
    refine vA 6 [7, 8, 9, 10, 11, 12, 13, 14] rfl (fun _ _ h_ => R.ixp (sz := ((intE .u64)).size) Tryz.underlying30 Tryz.sizeOf43 rfl rfl rfl bA i121 (TL.nil h_)) ?_
    refine vM 8 [7, 9, 10, 11, 12, 13, 14] rfl rfl cA ?_
    refine vM 9 [7, 10, 11, 12, 13, 14] rfl rfl cA ?_
    have hl125 : a1.toNat < a0.length := bA
    obtain ⟨y125, e125, h125⟩ : ∃ y, y = (xPa0l7.getD a1.toNat (0 : Int)) ∧ xPa0l7[a1.toNat]? = some y := ⟨_, rfl, k_6 (by first | exact hl125 | simpa using hl125 | (simp only [List.length_set]; omega) | omega | (rw [(k_1 _).length_eq]; exact hl125))⟩
    obtain ⟨b125, u125, cs125, l125, f125, j125, i125, g125, k125⟩ := OwnS.elem (OwnS.mono wPa0l7 (s_l8.trans (s_c9.trans s_l10))) h125
    obtain rfl : l125 = [.int .u64 y125] := g125
    refine vA 10 [7, 11, 12, 13, 14] rfl (fun _ _ h_ => R.ixp (sz := ((intE .u64)).size) Tryz.underlying30 Tryz.sizeOf43 rfl rfl rfl bA i125 (TL.nil h_)) ?_
    refine Plan.s2 7 11 [11, 12, 13, 14] [7, 12, 13, 14] kA kA kA rfl rfl ?_ ?_
    ·refine R.ld Tryz.isAgg43 rfl rfl (by rw [← f121]; exact .hd) (k121 0 _ rfl) ?_
     refine TL.nil (Plan.e1 (HLe.refl _) ?_)
     refine Plan.s1 11 [12, 13, 14] kA kA rfl ?_
     refine R.ld Tryz.isAgg43 rfl rfl (by rw [← f125]; exact .hd) (k125 0 _ rfl) ?_
     refine TL.nil (Plan.e1 (HLe.refl _) ?_)
     refine vA 12 [13, 14] rfl (fun _ _ h_ => R.callv rfl rfl rfl (k_41 _ (y121) (y125)) (TL.nil h_)) ?_
     refine vA 13 [14] rfl (fun _ _ h_ => R.not rfl rfl (TL.nil h_)) ?_
     refine vA 14 [] rfl (fun _ _ h_ => R.pkTE rfl rfl cA (TL.nil h_)) ?_
     refine Plan.done (Post.thnN ?_)
     exact ⟨(!(k_8 y121 y125)), HLe.refl _, ⟨(Has.cons .hd Has.nil), (by subst e125; subst e121; rw [if_pos g118])⟩, rfl, rfl, rfl, rfl, rfl, trivial⟩
    refine R.ld Tryz.isAgg43 rfl rfl (by rw [← f125]; exact .hd) (k125 0 _ rfl) ?_
    refine TL.nil (Plan.e1 (HLe.refl _) ?_)
    refine Plan.s1 7 [12, 13, 14] kA kA rfl ?_
    refine R.ld Tryz.isAgg43 rfl rfl (by rw [← f121]; exact .hd) (k121 0 _ rfl) ?_
    refine TL.nil (Plan.e1 (HLe.refl _) ?_)
    refine vA 12 [13, 14] rfl (fun _ _ h_ => R.callv rfl rfl rfl (k_41 _ (y121) (y125)) (TL.nil h_)) ?_
    refine vA 13 [14] rfl (fun _ _ h_ => R.not rfl rfl (TL.nil h_)) ?_
    refine vA 14 [] rfl (fun _ _ h_ => R.pkTE rfl rfl cA (TL.nil h_)) ?_
    refine Plan.done (Post.thnN ?_)
    exact ⟨(!(k_8 y121 y125)), HLe.refl _, ⟨(Has.cons .hd Has.nil), (by subst e125; subst e121; rw [if_pos g118])⟩, rfl, rfl, rfl, rfl, rfl, trivial⟩
   refine vO 4 [5, 6, 7, 8, 9, 10, 11, 12, 13, 14] rfl rfl rfl rfl ?_
   refine vO 5 [6, 7, 8, 9, 10, 11, 12, 13, 14] rfl rfl rfl rfl ?_
   refine vO 6 [7, 8, 9, 10, 11, 12, 13, 14] rfl rfl rfl rfl ?_
   refine vO 7 [8, 9, 10, 11, 12, 13, 14] rfl rfl rfl rfl ?_
   refine vO 8 [9, 10, 11, 12, 13, 14] rfl rfl rfl rfl ?_
   refine vO 9 [10, 11, 12, 13, 14] rfl rfl rfl rfl ?_
   refine vO 10 [11, 12, 13, 14] rfl rfl rfl rfl ?_
   refine vO 11 [12, 13, 14] rfl rfl rfl rfl ?_
   refine vO 12 [13, 14] rfl rfl rfl rfl ?_
   refine vO 13 [14] rfl rfl rfl rfl ?_
   refine vA 14 [] rfl (fun _ _ h_ => R.pkFE rfl rfl cA (TL.nil h_)) ?_
   refine Plan.done (Post.thnN ?_)
   exact ⟨false, HLe.refl _, ⟨(Has.cons .hd Has.nil), (by rw [if_neg g118])⟩, rfl, rfl, rfl, rfl, rfl, trivial⟩
  intro b129c11 σ_c11 H_c11 L_c11 ds_c11 s_c11 hI_c11
  obtain ⟨hLc11, hTc11⟩ := hI_c11
  refine T.has hLc11 ?_
  refine T.cond rfl (fun c129 => ?_) (fun c129 => ?_)
  ·refine T.set 129 (.bool true) (congrArg Value.bool c129) ?_
   have hZ129 := hTc11.trans c129
   try simp only [or_f, or_t, k_bf, k_c0, decide_eq_true_eq, decide_eq_false_iff_not, Bool.not_eq_true'] at hZ129
   refine T.skip (Post.thnN ?_)
   refine T.block ?_
   refine T.region ?_
   refine R.mvE rfl cA ?_
   refine R.subI rfl rfl rfl oA ?_
   refine R.asE rfl cA ?_
   refine TL.nil (Post.blkN ?_)
   refine id (Post.thnN ?_)
   exact ⟨(ml10, (n11l10 - 1)), (s_l10.trans s_c11), ⟨(by first | omega | (simp; omega) | (simp at *; omega)), (Has.cons .hd Has.nil), bA, bA, bA, (by rw [← hQl10, k_33]; rw [hTc11, LR.seq_go, if_t c129])⟩, by show ml10 < ml10 + 1; omega, rfl, rfl, rfl, rfl, trivial⟩
  refine T.set 129 (.bool false) (congrArg Value.bool c129) ?_
  have hZ129 := hTc11.trans c129
  try simp only [or_f, or_t, k_bf, k_c0, decide_eq_true_eq, decide_eq_false_iff_not, Bool.not_eq_true'] at hZ129
  refine T.exit (Post.thnE (Post.thnE (Post.blkX ?_)))
  have hEl10 : k_33 a1 n10l8 xPa0l7 ((n11l7 - n10l8 + 1).toNat + 1) n11l7 = n11l10 := (by rw [← hQl10, k_33]; rw [hTc11, LR.seq_go, if_f c129])
  refine id (Post.thnN ?_)
  refine T.seq ?_
  refine sR ?_
  refine R.mvE rfl cA ?_
  refine R.mvE rfl cA ?_
  refine R.gtr rfl rfl rfl ?_
  refine nN ?_
  refine T.condD rfl (fun c134 => ?_) (fun c134 => ?_)
  ·refine T.set 134 (.bool true) (congrArg Value.bool (decide_eq_true c134)) ?_
   refine T.exit (Post.thnE (Post.blkE rfl (Post.thnE (Post.blkX ?_))))
   have hEl7 : k_39 a1 ((((n11l4 - 1)) - ((n10l2 + 1)) + 2).toNat + 1) (((n10l2 + 1), (n11l4 - 1), xPa0c6)) = (n11l10, xPa0l7) := (by rw [← hQl7, k_39]; rw [hEl8, LR.seq_go, hEl10, LR.seq_go, if_pos c134])
   refine id (Post.thnN ?_)
   exact ⟨(n11l10, xPa0l7, cPa0l7), (s_l7.trans (s_l8.trans (s_c9.trans (s_l10.trans s_c11)))), ⟨(Has.cons .hd Has.nil), (OwnS.mono wPa0l7 (s_l8.trans (s_c9.trans (s_l10.trans s_c11)))), bA, bA, (by rw [hEl7, LR.seq_go])⟩, rfl, rfl, rfl, trivial⟩
  refine T.set 134 (.bool false) (congrArg Value.bool (decide_eq_false c134)) ?_
  refine T.skip (Post.thnN ?_)
  refine T.seq ?_
  refine T.cutK (ι := (List Int) × Chunk) (fun ⟨xPa0c13, cPa0c13⟩ H' L' ds' => Has L' [cPa0c13] ∧ OwnS (intE .u64) 43 H' (.slice Aa0 a0.length pa0) xPa0c13 cPa0c13 ∧ ((((xPa0l7.set n10l8.toNat (xPa0l7.getD n11l10.toNat (0 : Int)))).set n11l10.toNat (xPa0l7.getD n10l8.toNat (0 : Int))) : (List Int)) = xPa0c13) (fun ⟨xPa0c13, cPa0c13⟩ => [(0, .slice Aa0 a0.length pa0), (1, .int .i64 a1), (10, .int .i64 n10l8), (11, .int .i64 n11l10)]) ?_ ?_
  ·refine T.draw k_2b kA ?_
   refine vM 0 [1, 2, 3, 4, 5, 6, 7, 8, 9, 10, 11, 12, 13, 14, 15] rfl rfl cA ?_
   refine vM 1 [2, 3, 4, 5, 6, 7, 8, 9, 10, 11, 12, 13, 14, 15] rfl rfl cA ?_
   refine vM 2 [3, 4, 5, 6, 7, 8, 9, 10, 11, 12, 13, 14, 15] rfl rfl cA ?_
   refine vM 3 [4, 5, 6, 7, 8, 9, 10, 11, 12, 13, 14, 15] rfl rfl cA ?_
   refine vM 4 [5, 6, 7, 8, 9, 10, 11, 12, 13, 14, 15] rfl rfl cA ?_
   refine vM 5 [6, 7, 8, 9, 10, 11, 12, 13, 14, 15] rfl rfl cA ?_
   have hl141 : n11l10.toNat < a0.length := bA
   obtain ⟨y141, e141, h141⟩ : ∃ y, y = (xPa0l7.getD n11l10.toNat (0 : Int)) ∧ xPa0l7[n11l10.toNat]? = some y := ⟨_, rfl, k_6 (by first | exact hl141 | simpa using hl141 | (simp only [List.length_set]; omega) | omega | (rw [(k_1 _).length_eq]; exact hl141))⟩
   obtain ⟨b141, u141, cs141, l141, f141, j141, i141, g141, k141⟩ := OwnS.elem (OwnS.mono wPa0l7 (s_l8.trans (s_c9.trans (s_l10.trans s_c11)))) h141
   obtain rfl : l141 = [.int .u64 y141] := g141
   refine vA 6 [7, 8, 9, 10, 11, 12, 13, 14, 15] rfl (fun _ _ h_ => R.ixp (sz := ((intE .u64)).size) Tryz.underlying30 Tryz.sizeOf43 rfl rfl rfl bA i141 (TL.nil h_)) ?_
   refine vM 8 [7, 9, 10, 11, 12, 13, 14, 15] rfl rfl cA ?_
   refine vM 9 [7, 10, 11, 12, 13, 14, 15] rfl rfl cA ?_
   have hl145 : n10l8.toNat < a0.length := bA
   obtain ⟨y145, e145, h145⟩ : ∃ y, y = (xPa0l7.getD n10l8.toNat (0 : Int)) ∧ xPa0l7[n10l8.toNat]? = some y := ⟨_, rfl, k_6 (by first | exact hl145 | simpa using hl145 | (simp only [List.length_set]; omega) | omega | (rw [(k_1 _).length_eq]; exact hl145))⟩
   obtain ⟨b145, u145, cs145, l145, f145, j145, i145, g145, k145⟩ := OwnS.elem (OwnS.mono wPa0l7 (s_l8.trans (s_c9.trans (s_l10.trans s_c11)))) h145
   obtain rfl : l145 = [.int .u64 y145] := g145
   refine vA 10 [7, 11, 12, 13, 14, 15] rfl (fun _ _ h_ => R.ixp (sz := ((intE .u64)).size) Tryz.underlying30 Tryz.sizeOf43 rfl rfl rfl bA i145 (TL.nil h_)) ?_
   refine Plan.s2 7 11 [11, 12, 13, 14, 15] [7, 12, 13, 14, 15] kA kA kA rfl rfl ?_ ?_
   ·refine R.ld Tryz.isAgg43 rfl rfl (by rw [← f141]; exact .hd) (k141 0 _ rfl) ?_
    refine TL.nil (Plan.e1 (HLe.refl _) ?_)
    refine Plan.s1 11 [12, 13, 14, 15] kA kA rfl ?_
    refine R.ld Tryz.isAgg43 rfl rfl (by rw [← f145]; exact .hd) (k145 0 _ rfl) ?_
    refine TL.nil (Plan.e1 (HLe.refl _) ?_)
    have hl147 : n10l8.toNat < a0.length := bA
    obtain ⟨y147, e147, h147⟩ : ∃ y, y = (xPa0l7.getD n10l8.toNat (0 : Int)) ∧ xPa0l7[n10l8.toNat]? = some y := ⟨_, rfl, k_6 (by first | exact hl147 | simpa using hl147 | (simp only [List.length_set]; omega) | omega | (rw [(k_1 _).length_eq]; exact hl147))⟩
    obtain ⟨b147, u147, cs147, l147, f147, j147, i147, g147, k147⟩ := OwnS.elem (OwnS.mono wPa0l7 (s_l8.trans (s_c9.trans (s_l10.trans s_c11)))) h147
    obtain rfl : l147 = [.int .u64 y147] := g147
    refine vA 12 [13, 14, 15] rfl (fun _ _ h_ => R.ixp (sz := ((intE .u64)).size) Tryz.underlying30 Tryz.sizeOf43 rfl rfl rfl bA i147 (TL.nil h_)) ?_
    refine Plan.s1 13 [14, 15] kA kA rfl ?_
    refine R.stEF (E := (intE .u64)) (e := 43) (v := (.slice Aa0 a0.length pa0)) (m := [.int .u64 y141]) (o := 0) (y := y147) (y' := y141) (j := n10l8.toNat) Tryz.sizeOf43 rfl (OwnS.mono wPa0l7 (s_l8.trans (s_c9.trans (s_l10.trans s_c11)))) .hd i147 rfl rfl (cells1 rfl) (k_20 rfl) h147 (by show 0 + 1 ≤ 1; decide) (fun l hl => by have e0 : l = [.int .u64 y147] := hl; subst e0; exact rfl) ?_
    intro cst407 wst407
    refine TL.nil (Plan.e0 (HLe.refl _) ?_)
    have hl148 : n11l10.toNat < a0.length := bA
    obtain ⟨y148, e148, h148⟩ : ∃ y, y = (((xPa0l7.set n10l8.toNat y141)).getD n11l10.toNat (0 : Int)) ∧ ((xPa0l7.set n10l8.toNat y141))[n11l10.toNat]? = some y := ⟨_, rfl, k_6 (by first | exact hl148 | simpa using hl148 | (simp only [List.length_set]; omega) | omega | (rw [(k_1 _).length_eq]; exact hl148))⟩
    obtain ⟨b148, u148, cs148, l148, f148, j148, i148, g148, k148⟩ := OwnS.elem wst407 h148
    obtain rfl : l148 = [.int .u64 y148] := g148
    refine vA 14 [15] rfl (fun _ _ h_ => R.ixp (sz := ((intE .u64)).size) Tryz.underlying30 Tryz.sizeOf43 rfl rfl rfl bA i148 (TL.nil h_)) ?_
    refine Plan.s1 15 [] kA kA rfl ?_
    refine R.stEF (E := (intE .u64)) (e := 43) (v := (.slice Aa0 a0.length pa0)) (m := [.int .u64 y145]) (o := 0) (y := y148) (y' := y145) (j := n11l10.toNat) Tryz.sizeOf43 rfl wst407 .hd i148 rfl rfl (cells1 rfl) (k_20 rfl) h148 (by show 0 + 1 ≤ 1; decide) (fun l hl => by have e0 : l = [.int .u64 y148] := hl; subst e0; exact rfl) ?_
    intro cst408 wst408
    refine TL.nil (Plan.e0 (HLe.refl _) ?_)
    refine Plan.done (Post.thnN ?_)
    exact ⟨((((xPa0l7.set n10l8.toNat y141)).set n11l10.toNat y145), cst408), HLe.refl _, ⟨(Has.cons .hd Has.nil), wst408, (by subst e148; subst e147; subst e145; subst e141; rfl)⟩, rfl, rfl, rfl, rfl, trivial⟩
   refine R.ld Tryz.isAgg43 rfl rfl (by rw [← f145]; exact .hd) (k145 0 _ rfl) ?_
   refine TL.nil (Plan.e1 (HLe.refl _) ?_)
   refine Plan.s1 7 [12, 13, 14, 15] kA kA rfl ?_
   refine R.ld Tryz.isAgg43 rfl rfl (by rw [← f141]; exact .hd) (k141 0 _ rfl) ?_
   refine TL.nil (Plan.e1 (HLe.refl _) ?_)
   have hl147 : n10l8.toNat < a0.length := bA
   obtain ⟨y147, e147, h147⟩ : ∃ y, y = (xPa0l7.getD n10l8.toNat (0 : Int)) ∧ xPa0l7[n10l8.toNat]? = some y := ⟨_, rfl, k_6 (by first | exact hl147 | simpa using hl147 | (simp only [List.length_set]; omega) | omega | (rw [(k_1 _).length_eq]; exact hl147))⟩
   obtain ⟨b147, u147, cs147, l147, f147, j147, i147, g147, k147⟩ := OwnS.elem (OwnS.mono wPa0l7 (s_l8.trans (s_c9.trans (s_l10.trans s_c11)))) h147
   obtain rfl : l147 = [.int .u64 y147] := g147
   refine vA 12 [13, 14, 15] rfl (fun _ _ h_ => R.ixp (sz := ((intE .u64)).size) Tryz.underlying30 Tryz.sizeOf43 rfl rfl rfl bA i147 (TL.nil h_)) ?_
   refine Plan.s1 13 [14, 15] kA kA rfl ?_
   refine R.stEF (E := (intE .u64)) (e := 43) (v := (.slice Aa0 a0.length pa0)) (m := [.int .u64 y141]) (o := 0) (y := y147) (y' := y141) (j := n10l8.toNat) Tryz.sizeOf43 rfl (OwnS.mono wPa0l7 (s_l8.trans (s_c9.trans (s_l10.trans s_c11)))) .hd i147 rfl rfl (cells1 rfl) (k_20 rfl) h147 (by show 0 + 1 ≤ 1; decide) (fun l hl => by have e0 : l = [.int .u64 y147] := hl; subst e0; exact rfl) ?_
   intro cst409 wst409
   refine TL.nil (Plan.e0 (HLe.refl _) ?_)
   have hl148 : n11l10.toNat < a0.length := bA
   obtain ⟨y148, e148, h148⟩ : ∃ y, y = (((xPa0l7.set n10l8.toNat y141)).getD n11l10.toNat (0 : Int)) ∧ ((xPa0l7.set n10l8.toNat y141))[n11l10.toNat]? = some y := ⟨_, rfl, k_6 (by first | exact hl148 | simpa using hl148 | (simp only [List.length_set]; omega) | omega | (rw [(k_1 _).length_eq]; exact hl148))⟩
   obtain ⟨b148, u148, cs148, l148, f148, j148, i148, g148, k148⟩ := OwnS.elem wst409 h148
   obtain rfl : l148 = [.int .u64 y148] := g148
   refine vA 14 [15] rfl (fun _ _ h_ => R.ixp (sz := ((intE .u64)).size) Tryz.underlying30 Tryz.sizeOf43 rfl rfl rfl bA i148 (TL.nil h_)) ?_
   refine Plan.s1 15 [] kA kA rfl ?_
   refine R.stEF (E := (intE .u64)) (e := 43) (v := (.slice Aa0 a0.length pa0)) (m := [.int .u64 y145]) (o := 0) (y := y148) (y' := y145) (j := n11l10.toNat) Tryz.sizeOf43 rfl wst409 .hd i148 rfl rfl (cells1 rfl) (k_20 rfl) h148 (by show 0 + 1 ≤ 1; decide) (fun l hl => by have e0 : l = [.int .u64 y148] := hl; subst e0; exact rfl) ?_
   intro cst410 wst410
   refine TL.nil (Plan.e0 (HLe.refl _) ?_)
   refine Plan.done (Post.thnN ?_)
   exact ⟨((((xPa0l7.set n10l8.toNat y141)).set n11l10.toNat y145), cst410), HLe.refl _, ⟨(Has.cons .hd Has.nil), wst410, (by subst e148; subst e147; subst e145; subst e141; rfl)⟩, rfl, rfl, rfl, rfl, trivial⟩
  intro ⟨xPa0c13, cPa0c13⟩ σ_c13 H_c13 L_c13 ds_c13 s_c13 hI_c13
  obtain ⟨hLc13, wPa0c13, hTc13⟩ := hI_c13
  have nPa0c13_ := OwnS.len wPa0c13
  refine T.has hLc13 ?_
  refine sR ?_
  refine R.mvE rfl cA ?_
  refine R.addI rfl rfl rfl oA ?_
  refine R.asE rfl cA ?_
  refine nN ?_
  refine T.region ?_
  refine R.mvE rfl cA ?_
  refine R.subI rfl rfl rfl oA ?_
  refine R.asE rfl cA ?_
  refine TL.nil (Post.blkN ?_)
  refine id (Post.thnN ?_)
  exact ⟨(ml7, (n10l8 + 1), (n11l10 - 1), xPa0c13, cPa0c13), (s_l7.trans (s_l8.trans (s_c9.trans (s_l10.trans (s_c11.trans s_c13))))), ⟨(by first | omega | (simp; omega) | (simp at *; omega)), (Has.cons .hd Has.nil), wPa0c13, bA, bA, bA, bA, (by rw [← hQl7, k_39]; rw [hEl8, LR.seq_go, hEl10, LR.seq_go, if_neg c134, hTc13, LR.seq_go])⟩, by show ml7 < ml7 + 1; omega, rfl, rfl, rfl, rfl, trivial⟩
 intro ⟨n11c12, xPa0c12, cPa0c12⟩ σ_c12 H_c12 L_c12 ds_c12 s_c12 hI_c12
 obtain ⟨hLc12, wPa0c12, hBc12_0, hBc12_1, hTc12⟩ := hI_c12
 have nPa0c12_ := OwnS.len wPa0c12
 refine T.has hLc12 ?_
 refine T.seq ?_
 refine T.draw k_2b kA ?_
 refine vM 0 [1, 2, 3, 4, 5, 6, 7, 8, 9, 10, 11, 12, 13, 14, 15] rfl rfl cA ?_
 refine vM 1 [2, 3, 4, 5, 6, 7, 8, 9, 10, 11, 12, 13, 14, 15] rfl rfl cA ?_
 refine vM 2 [3, 4, 5, 6, 7, 8, 9, 10, 11, 12, 13, 14, 15] rfl rfl cA ?_
 refine vM 3 [4, 5, 6, 7, 8, 9, 10, 11, 12, 13, 14, 15] rfl rfl cA ?_
 refine vM 4 [5, 6, 7, 8, 9, 10, 11, 12, 13, 14, 15] rfl rfl cA ?_
 refine vM 5 [6, 7, 8, 9, 10, 11, 12, 13, 14, 15] rfl rfl cA ?_
 have hl159 : a1.toNat < a0.length := bA
 obtain ⟨y159, e159, h159⟩ : ∃ y, y = (xPa0c12.getD a1.toNat (0 : Int)) ∧ xPa0c12[a1.toNat]? = some y := ⟨_, rfl, k_6 (by first | exact hl159 | simpa using hl159 | (simp only [List.length_set]; omega) | omega | (rw [(k_1 _).length_eq]; exact hl159))⟩
 obtain ⟨b159, u159, cs159, l159, f159, j159, i159, g159, k159⟩ := OwnS.elem wPa0c12 h159
 obtain rfl : l159 = [.int .u64 y159] := g159
 refine vA 6 [7, 8, 9, 10, 11, 12, 13, 14, 15] rfl (fun _ _ h_ => R.ixp (sz := ((intE .u64)).size) Tryz.underlying30 Tryz.sizeOf43 rfl rfl rfl bA i159 (TL.nil h_)) ?_
 refine vM 8 [7, 9, 10, 11, 12, 13, 14, 15] rfl rfl cA ?_
 refine vM 9 [7, 10, 11, 12, 13, 14, 15] rfl rfl cA ?_
 have hl163 : n11c12.toNat < a0.length := bA
 obtain ⟨y163, e163, h163⟩ : ∃ y, y = (xPa0c12.getD n11c12.toNat (0 : Int)) ∧ xPa0c12[n11c12.toNat]? = some y := ⟨_, rfl, k_6 (by first | exact hl163 | simpa using hl163 | (simp only [List.length_set]; omega) | omega | (rw [(k_1 _).length_eq]; exact hl163))⟩
 obtain ⟨b163, u163, cs163, l163, f163, j163, i163, g163, k163⟩ := OwnS.elem wPa0c12 h163
 obtain rfl : l163 = [.int .u64 y163] := g163
 refine vA 10 [7, 11, 12, 13, 14, 15] rfl (fun _ _ h_ => R.ixp (sz := ((intE .u64)).size) Tryz.underlying30 Tryz.sizeOf43 rfl rfl rfl bA i163 (TL.nil h_)) ?_
 refine Plan.s2 7 11 [11, 12, 13, 14, 15] [7, 12, 13, 14, 15] kA kA kA rfl rfl ?_ ?_
 ·refine R.ld Tryz.isAgg43 rfl rfl (by rw [← f159]; exact .hd) (k159 0 _ rfl) ?_
  refine TL.nil (Plan.e1 (HLe.refl _) ?_)
  refine Plan.s1 11 [12, 13, 14, 15] kA kA rfl ?_
  refine R.ld Tryz.isAgg43 rfl rfl (by rw [← f163]; exact .hd) (k163 0 _ rfl) ?_
  refine TL.nil (Plan.e1 (HLe.refl _) ?_)
  have hl165 : n11c12.toNat < a0.length := bA
  obtain ⟨y165, e165, h165⟩ : ∃ y, y = (xPa0c12.getD n11c12.toNat (0 : Int)) ∧ xPa0c12[n11c12.toNat]? = some y := ⟨_, rfl, k_6 (by first | exact hl165 | simpa using hl165 | (simp only [List.length_set]; omega) | omega | (rw [(k_1 _).length_eq]; exact hl165))⟩
  obtain ⟨b165, u165, cs165, l165, f165, j165, i165, g165, k165⟩ := OwnS.elem wPa0c12 h165
  obtain rfl : l165 = [.int .u64 y165] := g165
  refine vA 12 [13, 14, 15] rfl (fun _ _ h_ => R.ixp (sz := ((intE .u64)).size) Tryz.underlying30 Tryz.sizeOf43 rfl rfl rfl bA i165 (TL.nil h_)) ?_
  refine Plan.s1 13 [14, 15] kA kA rfl ?_
  refine R.stEF (E := (intE .u64)) (e := 43) (v := (.slice Aa0 a0.length pa0)) (m := [.int .u64 y159]) (o := 0) (y := y165) (y' := y159) (j := n11c12.toNat) Tryz.sizeOf43 rfl wPa0c12 .hd i165 rfl rfl (cells1 rfl) (k_20 rfl) h165 (by show 0 + 1 ≤ 1; decide) (fun l hl => by have e0 : l = [.int .u64 y165] := hl; subst e0; exact rfl) ?_
  intro cst411 wst411
  refine TL.nil (Plan.e0 (HLe.refl _) ?_)
  have hl166 : a1.toNat < a0.length := bA
  obtain ⟨y166, e166, h166⟩ : ∃ y, y = (((xPa0c12.set n11c12.toNat y159)).getD a1.toNat (0 : Int)) ∧ ((xPa0c12.set n11c12.toNat y159))[a1.toNat]? = some y := ⟨_, rfl, k_6 (by first | exact hl166 | simpa using hl166 | (simp only [List.length_set]; omega) | omega | (rw [(k_1 _).length_eq]; exact hl166))⟩
  obtain ⟨b166, u166, cs166, l166, f166, j166, i166, g166, k166⟩ := OwnS.elem wst411 h166
  obtain rfl : l166 = [.int .u64 y166] := g166
  refine vA 14 [15] rfl (fun _ _ h_ => R.ixp (sz := ((intE .u64)).size) Tryz.underlying30 Tryz.sizeOf43 rfl rfl rfl bA i166 (TL.nil h_)) ?_
  refine Plan.s1 15 [] kA kA rfl ?_
  refine R.stEF (E := (intE .u64)) (e := 43) (v := (.slice Aa0 a0.length pa0)) (m := [.int .u64 y163]) (o := 0) (y := y166) (y' := y163) (j := a1.toNat) Tryz.sizeOf43 rfl wst411 .hd i166 rfl rfl (cells1 rfl) (k_20 rfl) h166 (by show 0 + 1 ≤ 1; decide) (fun l hl => by have e0 : l = [.int .u64 y166] := hl; subst e0; exact rfl) ?_
  intro cst412 wst412
  refine TL.nil (Plan.e0 (HLe.refl _) ?_)
  refine Plan.done (Post.thnN ?_)
  refine sR ?_
  refine R.mvE rfl cA ?_
  refine R.asE rfl cA ?_
  refine R.asE rfl cA ?_
  refine nN ?_
  refine T.has (Has.cons .hd Has.nil) ?_
  refine T.ret ?_
  have hM : k_3 a0 a1 a2 a3 = (n11c12, false, (((xPa0c12.set n11c12.toNat y159)).set a1.toNat y163)) := by subst e166; subst e165; subst e163; subst e159; rw [k_3, hTc1, LR.seq_go, hEl2, LR.seq_go, hEl4, LR.seq_go, if_neg c65, hTc6, LR.seq_go, hTc12, LR.seq_go]
  exact fin2L (v := .int .i64 n11c12) (v' := .bool false) [cst412] rfl rfl rfl (List.Sublist.refl _) ⟨cst412, by first | rw [hM] | rfl, by first | rw [hM] | rfl, by rw [hM]; exact wst412⟩
 refine R.ld Tryz.isAgg43 rfl rfl (by rw [← f163]; exact .hd) (k163 0 _ rfl) ?_
 refine TL.nil (Plan.e1 (HLe.refl _) ?_)
 refine Plan.s1 7 [12, 13, 14, 15] kA kA rfl ?_
 refine R.ld Tryz.isAgg43 rfl rfl (by rw [← f159]; exact .hd) (k159 0 _ rfl) ?_
 refine TL.nil (Plan.e1 (HLe.refl _) ?_)
 have hl165 : n11c12.toNat < a0.length := bA
 obtain ⟨y165, e165, h165⟩ : ∃ y, y = (xPa0c12.getD n11c12.toNat (0 : Int)) ∧ xPa0c12[n11c12.toNat]? = some y := ⟨_, rfl, k_6 (by first | exact hl165 | simpa using hl165 | (simp only [List.length_set]; omega) | omega | (rw [(k_1 _).length_eq]; exact hl165))⟩
 obtain ⟨b165, u165, cs165, l165, f165, j165, i165, g165, k165⟩ := OwnS.elem wPa0c12 h165
 obtain rfl : l165 = [.int .u64 y165] := g165
 refine vA 12 [13, 14, 15] rfl (fun _ _ h_ => R.ixp (sz := ((intE .u64)).size) Tryz.underlying30 Tryz.sizeOf43 rfl rfl rfl bA i165 (TL.nil h_)) ?_
 refine Plan.s1 13 [14, 15] kA kA rfl ?_
 refine R.stEF (E := (intE .u64)) (e := 43) (v := (.slice Aa0 a0.length pa0)) (m := [.int .u64 y159]) (o := 0) (y := y165) (y' := y159) (j := n11c12.toNat) Tryz.sizeOf43 rfl wPa0c12 .hd i165 rfl rfl (cells1 rfl) (k_20 rfl) h165 (by show 0 + 1 ≤ 1; decide) (fun l hl => by have e0 : l = [.int .u64 y165] := hl; subst e0; exact rfl) ?_
 intro cst413 wst413
 refine TL.nil (Plan.e0 (HLe.refl _) ?_)
 have hl166 : a1.toNat < a0.length := bA
 obtain ⟨y166, e166, h166⟩ : ∃ y, y = (((xPa0c12.set n11c12.toNat y159)).getD a1.toNat (0 : Int)) ∧ ((xPa0c12.set n11c12.toNat y159))[a1.toNat]? = some y := ⟨_, rfl, k_6 (by first | exact hl166 | simpa using hl166 | (simp only [List.length_set]; omega) | omega | (rw [(k_1 _).length_eq]; exact hl166))⟩
 obtain ⟨b166, u166, cs166, l166, f166, j166, i166, g166, k166⟩ := OwnS.elem wst413 h166
 obtain rfl : l166 = [.int .u64 y166] := g166
 refine vA 14 [15] rfl (fun _ _ h_ => R.ixp (sz := ((intE .u64)).size) Tryz.underlying30 Tryz.sizeOf43 rfl rfl rfl bA i166 (TL.nil h_)) ?_
 refine Plan.s1 15 [] kA kA rfl ?_
 refine R.stEF (E := (intE .u64)) (e := 43) (v := (.slice Aa0 a0.length pa0)) (m := [.int .u64 y163]) (o := 0) (y := y166) (y' := y163) (j := a1.toNat) Tryz.sizeOf43 rfl wst413 .hd i166 rfl rfl (cells1 rfl) (k_20 rfl) h166 (by show 0 + 1 ≤ 1; decide) (fun l hl => by have e0 : l = [.int .u64 y166] := hl; subst e0; exact rfl) ?_
 intro cst414 wst414
 refine TL.nil (Plan.e0 (HLe.refl _) ?_)
 refine Plan.done (Post.thnN ?_)
 refine sR ?_
 refine R.mvE rfl cA ?_
 refine R.asE rfl cA ?_
 refine R.asE rfl cA ?_
 refine nN ?_
 refine T.has (Has.cons .hd Has.nil) ?_
 refine T.ret ?_
 have hM : k_3 a0 a1 a2 a3 = (n11c12, false, (((xPa0c12.set n11c12.toNat y159)).set a1.toNat y163)) := by subst e166; subst e165; subst e163; subst e159; rw [k_3, hTc1, LR.seq_go, hEl2, LR.seq_go, hEl4, LR.seq_go, if_neg c65, hTc6, LR.seq_go, hTc12, LR.seq_go]
 exact fin2L (v := .int .i64 n11c12) (v' := .bool false) [cst414] rfl rfl rfl (List.Sublist.refl _) ⟨cst414, by first | rw [hM] | rfl, by first | rw [hM] | rfl, by rw [hM]; exact wst414⟩
end Go.SX

set_option linter.unusedVariables false
set_option linter.unusedSimpArgs false
namespace Go.SX
open Go Go.Proofs

def k_12 (a0 : List Int) (a1 : Int) (a2 : Int) (a3 : Int) : Int × Int × (List Int) × Int :=
  LR.seq ((k_8 (a0.getD a2.toNat (0 : Int)) (a0.getD a1.toNat (0 : Int))) : Bool) (fun sc1 => if sc1 = true then ((a2, a1, a0, (a3 + 1))) else ((a1, a2, a0, a3)))
set_option maxHeartbeats 3200000 in
theorem k_ba (H : Heap) (va0 : Value) (a0 : List Int) (Ca0 : Chunk) (ha0 : OwnS (intE .u64) 43 H va0 a0 Ca0) (a1 : Int) (a2 : Int) (ba3 : Nat) (a3 : Int) (h1 : 0 ≤ a1) (h2 : a1 < (a0.length : Int)) (h3 : 0 ≤ a2) (h4 : a2 < (a0.length : Int)) (h5 : 0 ≤ a3) (h6 : a3 ≤ 1000) : Fc Tryz.prog (fnv 116) [va0, .int .i64 a1, .int .i64 a2, .pointer (some ⟨ba3, 0, none⟩)] H [Ca0, [(ba3, .cells #[.int .i64 a3] 3)]] (fun v' H' L' => ∃ Da0, v' = .tuple #[.int .i64 (k_12 a0 a1 a2 a3).1, .int .i64 (k_12 a0 a1 a2 a3).2.1] ∧ L' = [Da0, [(ba3, .cells #[.int .i64 (k_12 a0 a1 a2 a3).2.2.2] 3)]] ∧ OwnS (intE .u64) 43 H' va0 (k_12 a0 a1 a2 a3).2.2.1 Da0) := by
 refine Fc.of_body (N := 28) Tryz.func116 rfl kA rfl rfl ?_
 intro w0
 obtain ⟨Aa0, pa0, rfl, ma0, na0⟩ := OwnS.shape ha0
 refine sR ?_
 refine R.asE rfl cA ?_
 refine R.asE rfl cA ?_
 refine nN ?_
 refine T.seq ?_
 refine T.seq ?_
 refine T.cutK (ι := Bool) (fun b18c1 H' L' ds' => Has L' [Ca0, [(ba3, .cells #[.int .i64 a3] 3)]] ∧ ((k_8 (a0.getD a2.toNat (0 : Int)) (a0.getD a1.toNat (0 : Int))) : Bool) = b18c1) (fun b18c1 => [(1, .int .i64 a1), (2, .int .i64 a2), (3, .pointer (some ⟨ba3, 0, none⟩)), (18, .bool (b18c1))]) ?_ ?_
 ·refine T.draw k_2b kA ?_
  refine vM 0 [1, 2, 3, 4, 5, 6, 7, 8] rfl rfl cA ?_
  refine vM 1 [2, 3, 4, 5, 6, 7, 8] rfl rfl cA ?_
  have hl12 : a2.toNat < a0.length := bA
  obtain ⟨y12, e12, h12⟩ : ∃ y, y = (a0.getD a2.toNat (0 : Int)) ∧ a0[a2.toNat]? = some y := ⟨_, rfl, k_6 (by first | exact hl12 | simpa using hl12 | (simp only [List.length_set]; omega) | omega | (rw [(k_1 _).length_eq]; exact hl12))⟩
  obtain ⟨b12, u12, cs12, l12, f12, j12, i12, g12, k12⟩ := OwnS.elem ha0 h12
  obtain rfl : l12 = [.int .u64 y12] := g12
  refine vA 2 [3, 4, 5, 6, 7, 8] rfl (fun _ _ h_ => R.ixp (sz := ((intE .u64)).size) Tryz.underlying30 Tryz.sizeOf43 rfl rfl rfl bA i12 (TL.nil h_)) ?_
  refine vM 4 [3, 5, 6, 7, 8] rfl rfl cA ?_
  refine vM 5 [3, 6, 7, 8] rfl rfl cA ?_
  have hl16 : a1.toNat < a0.length := bA
  obtain ⟨y16, e16, h16⟩ : ∃ y, y = (a0.getD a1.toNat (0 : Int)) ∧ a0[a1.toNat]? = some y := ⟨_, rfl, k_6 (by first | exact hl16 | simpa using hl16 | (simp only [List.length_set]; omega) | omega | (rw [(k_1 _).length_eq]; exact hl16))⟩
  obtain ⟨b16, u16, cs16, l16, f16, j16, i16, g16, k16⟩ := OwnS.elem ha0 h16
  obtain rfl : l16 = [.int .u64 y16] := g16
  refine vA 6 [3, 7, 8] rfl (fun _ _ h_ => R.ixp (sz := ((intE .u64)).size) Tryz.underlying30 Tryz.sizeOf43 rfl rfl rfl bA i16 (TL.nil h_)) ?_
  refine Plan.s2 3 7 [7, 8] [3, 8] kA kA kA rfl rfl ?_ ?_
  ·refine R.ld Tryz.isAgg43 rfl rfl (by rw [← f12]; exact .hd) (k12 0 _ rfl) ?_
   refine TL.nil (Plan.e1 (HLe.refl _) ?_)
   refine Plan.s1 7 [8] kA kA rfl ?_
   refine R.ld Tryz.isAgg43 rfl rfl (by rw [← f16]; exact .hd) (k16 0 _ rfl) ?_
   refine TL.nil (Plan.e1 (HLe.refl _) ?_)
   refine vA 8 [] rfl (fun _ _ h_ => R.callv rfl rfl rfl (k_41 _ (y12) (y16)) (TL.nil h_)) ?_
   refine Plan.done (Post.thnN ?_)
   exact ⟨(k_8 y12 y16), HLe.refl _, ⟨(Has.cons .hd (Has.cons .hd Has.nil)), (by subst e16; subst e12; rfl)⟩, rfl, rfl, rfl, rfl, trivial⟩
  refine R.ld Tryz.isAgg43 rfl rfl (by rw [← f16]; exact .hd) (k16 0 _ rfl) ?_
  refine TL.nil (Plan.e1 (HLe.refl _) ?_)
  refine Plan.s1 3 [8] kA kA rfl ?_
  refine R.ld Tryz.isAgg43 rfl rfl (by rw [← f12]; exact .hd) (k12 0 _ rfl) ?_
  refine TL.nil (Plan.e1 (HLe.refl _) ?_)
  refine vA 8 [] rfl (fun _ _ h_ => R.callv rfl rfl rfl (k_41 _ (y12) (y16)) (TL.nil h_)) ?_
  refine Plan.done (Post.thnN ?_)
  exact ⟨(k_8 y12 y16), HLe.refl _, ⟨(Has.cons .hd (Has.cons .hd Has.nil)), (by subst e16; subst e12; rfl)⟩, rfl, rfl, rfl, rfl, trivial⟩
 intro b18c1 σ_c1 H_c1 L_c1 ds_c1 s_c1 hI_c1
 obtain ⟨hLc1, hTc1⟩ := hI_c1
 refine T.has hLc1 ?_
 refine T.cond rfl (fun c18 => ?_) (fun c18 => ?_)
 ·refine T.set 18 (.bool true) (congrArg Value.bool c18) ?_
  have hZ18 := hTc1.trans c18
  try simp only [or_f, or_t, k_bf, k_c0, decide_eq_true_eq, decide_eq_false_iff_not, Bool.not_eq_true'] at hZ18
  refine sR ?_
  refine R.mvE rfl cA ?_
  refine R.nilck rfl rfl ?_
  refine R.ld Tryz.isAgg3 rfl rfl (.tl .hd) rfl ?_
  refine R.addI rfl rfl rfl oA ?_
  refine R.nilck rfl rfl ?_
  refine R.stX (old := [.int .i64 a3]) (l := [.int .i64 (a3 + 1)]) (new := [.int .i64 (a3 + 1)]) (et := 3) Tryz.sizeOf3 rfl rfl rfl (cells1 rfl) rfl (by show 0 + 1 ≤ 1; decide) rfl (k_20 rfl) (.tl .hd) ?_
  refine nN ?_
  refine sR ?_
  refine R.mvE rfl cA ?_
  refine R.mvE rfl cA ?_
  refine R.asE rfl cA ?_
  refine R.asE rfl cA ?_
  refine nN ?_
  refine T.has (Has.cons .hd (Has.cons .hd Has.nil)) ?_
  refine T.ret (Post.thnR ?_)
  have hM : k_12 a0 a1 a2 a3 = (a2, a1, a0, (a3 + 1)) := by rw [k_12, hTc1, LR.seq_go, if_t c18]
  exact fin2L (v := .int .i64 a2) (v' := .int .i64 a1) [Ca0, [(ba3, .cells #[.int .i64 (a3 + 1)] 3)]] rfl rfl rfl (List.Sublist.refl _) ⟨Ca0, by first | rw [hM] | rfl, by first | rw [hM] | rfl, by rw [hM]; exact (OwnS.mono ha0 s_c1)⟩
 refine T.set 18 (.bool false) (congrArg Value.bool c18) ?_
 have hZ18 := hTc1.trans c18
 try simp only [or_f, or_t, k_bf, k_c0, decide_eq_true_eq, decide_eq_false_iff_not, Bool.not_eq_true'] at hZ18
 refine T.skip (Post.thnN ?_)
 refine sR ?_
 refine R.mvE rfl cA ?_
 refine R.mvE rfl cA ?_
 refine R.asE rfl cA ?_
 refine R.asE rfl cA ?_
 refine nN ?_
 refine T.has (Has.cons .hd (Has.cons .hd Has.nil)) ?_
 refine T.ret ?_
 have hM : k_12 a0 a1 a2 a3 = (a1, a2, a0, a3) := by rw [k_12, hTc1, LR.seq_go, if_f c18]
 exact fin2L (v := .int .i64 a1) (v' := .int .i64 a2) [Ca0, [(ba3, .cells #[.int .i64 a3] 3)]] rfl rfl rfl (List.Sublist.refl _) ⟨Ca0, by first | rw [hM] | rfl, by first | rw [hM] | rfl, by rw [hM]; exact (OwnS.mono ha0 s_c1)⟩
theorem order2_f (a0 : List Int) (a1 a2 a3 : Int) (r : Int × Int × (List Int) × Int) (e : r = k_12 a0 a1 a2 a3) : ((r.1 = a1 ∧ r.2.1 = a2) ∨ (r.1 = a2 ∧ r.2.1 = a1)) ∧ r.2.2.1 = a0 ∧ a3 ≤ r.2.2.2 ∧ r.2.2.2 ≤ a3 + 1 := by
  subst e
  unfold k_12
  rw [LR.seq_go]
  split
  · exact ⟨.inr ⟨rfl, rfl⟩, rfl, by show a3 ≤ a3 + 1; omega, Int.le_refl _⟩
  · exact ⟨.inl ⟨rfl, rfl⟩, rfl, Int.le_refl _, by show a3 ≤ a3 + 1; omega⟩
def k_1e (a0 : List Int) (a1 : Int) (a2 : Int) (a3 : Int) (a4 : Int) : Int × (List Int) × Int :=
  LR.seq (k_12 a0 a1 a2 a4) (fun r16 => LR.seq (k_12 r16.2.2.1 r16.2.1 a3 r16.2.2.2) (fun r24 => LR.seq (k_12 r24.2.2.1 r16.1 r24.1 r24.2.2.2) (fun r32 => (r32.2.1, r32.2.2.1, r32.2.2.2))))
set_option maxHeartbeats 3200000 in
theorem k_ce (H : Heap) (va0 : Value) (a0 : List Int) (Ca0 : Chunk) (ha0 : OwnS (intE .u64) 43 H va0 a0 Ca0) (a1 : Int) (a2 : Int) (a3 : Int) (ba4 : Nat) (a4 : Int) (h1 : 0 ≤ a1) (h2 : a1 < (a0.length : Int)) (h3 : 0 ≤ a2) (h4 : a2 < (a0.length : Int)) (h7 : 0 ≤ a3) (h8 : a3 < (a0.length : Int)) (h5 : 0 ≤ a4) (h6 : a4 ≤ 900) : Fc Tryz.prog (fnv 115) [va0, .int .i64 a1, .int .i64 a2, .int .i64 a3, .pointer (some ⟨ba4, 0, none⟩)] H [Ca0, [(ba4, .cells #[.int .i64 a4] 3)]] (fun v' H' L' => ∃ Da0, v' = .int .i64 (k_1e a0 a1 a2 a3 a4).1 ∧ L' = [Da0, [(ba4, .cells #[.int .i64 (k_1e a0 a1 a2 a3 a4).2.2] 3)]] ∧ OwnS (intE .u64) 43 H' va0 (k_1e a0 a1 a2 a3 a4).2.1 Da0) := by
 refine Fc.of_body (N := 36) Tryz.func115 rfl kA rfl rfl ?_
 intro w0
 obtain ⟨Aa0, pa0, rfl, ma0, na0⟩ := OwnS.shape ha0
 refine sR ?_
 refine R.asE rfl cA ?_
 refine nN ?_
 refine sR ?_
 refine R.mvE rfl cA ?_
 refine R.mvE rfl cA ?_
 refine R.mvE rfl cA ?_
 refine R.mvE rfl cA ?_
 obtain ⟨r16, er16⟩ : ∃ r, r = (k_12 a0 a1 a2 a4) := ⟨_, rfl⟩
 refine TL.call [true, true] rfl rfl rfl (k_ba _ _ a0 _ ha0 (a1) (a2) _ a4 bA bA bA bA bA bA) ?_
 intro v16 H16 L16 s16 q16
 rw [← er16] at q16
 obtain ⟨D16_a0, rfl, rfl, w16_a0⟩ := q16
 have n16_a0_ := OwnS.len w16_a0
 have tf16 := order2_f _ _ _ _ _ er16
 refine R.mvE rfl cA ?_
 refine R.ext rfl rfl rfl ?_
 refine R.ext rfl rfl rfl ?_
 refine R.asE rfl cA ?_
 refine R.asE rfl cA ?_
 refine nN ?_
 refine sR ?_
 refine R.mvE rfl cA ?_
 refine R.mvE rfl cA ?_
 refine R.mvE rfl cA ?_
 refine R.mvE rfl cA ?_
 obtain ⟨r24, er24⟩ : ∃ r, r = (k_12 r16.2.2.1 r16.2.1 a3 r16.2.2.2) := ⟨_, rfl⟩
 refine TL.call [true, true] rfl rfl rfl (k_ba _ _ r16.2.2.1 _ w16_a0 (r16.2.1) (a3) _ r16.2.2.2 bA bA bA bA bA bA) ?_
 intro v24 H24 L24 s24 q24
 rw [← er24] at q24
 obtain ⟨D24_a0, rfl, rfl, w24_a0⟩ := q24
 have n24_a0_ := OwnS.len w24_a0
 have tf24 := order2_f _ _ _ _ _ er24
 refine R.mvE rfl cA ?_
 refine R.ext rfl rfl rfl ?_
 refine R.ext rfl rfl rfl ?_
 refine R.asE rfl cA ?_
 refine R.asE rfl cA ?_
 refine nN ?_
 refine sR ?_
 refine R.mvE rfl cA ?_
 refine R.mvE rfl cA ?_
 refine R.mvE rfl cA ?_
 refine R.mvE rfl cA ?_
 obtain ⟨r32, er32⟩ : ∃ r, r = (k_12 r24.2.2.1 r16.1 r24.1 r24.2.2.2) := ⟨_, rfl⟩
 refine TL.call [true, true] rfl rfl rfl (k_ba _ _ r24.2.2.1 _ w24_a0 (r16.1) (r24.1) _ r24.2.2.2 bA bA bA bA bA bA) ?_
 intro v32 H32 L32 s32 q32
 rw [← er32] at q32
 obtain ⟨D32_a0, rfl, rfl, w32_a0⟩ := q32
 have n32_a0_ := OwnS.len w32_a0
 have tf32 := order2_f _ _ _ _ _ er32
 refine R.mvE rfl cA ?_
 refine R.ext rfl rfl rfl ?_
 refine R.ext rfl rfl rfl ?_
 refine R.asE rfl cA ?_
 refine R.asE rfl cA ?_
 refine nN ?_
 refine sR ?_
 refine R.mvE rfl cA ?_
 refine R.asE rfl cA ?_
 refine nN ?_
 refine T.has (Has.cons .hd (Has.cons .hd Has.nil)) ?_
 refine T.ret ?_
 have hM : k_1e a0 a1 a2 a3 a4 = (r32.2.1, r32.2.2.1, r32.2.2.2) := by subst er32; subst er24; subst er16; rw [k_1e, LR.seq_go, LR.seq_go, LR.seq_go]
 exact fin1L (v := .int .i64 (r32.2.1)) [D32_a0, [(ba4, .cells #[.int .i64 (r32.2.2.2)] 3)]] rfl rfl (List.Sublist.refl _) ⟨D32_a0, by first | rw [hM] | rfl, by first | rw [hM] | rfl, by rw [hM]; exact w32_a0⟩
theorem median_f (a0 : List Int) (a1 a2 a3 a4 : Int) (r : Int × (List Int) × Int) (e : r = k_1e a0 a1 a2 a3 a4) : (r.1 = a1 ∨ r.1 = a2 ∨ r.1 = a3) ∧ r.2.1 = a0 ∧ a4 ≤ r.2.2 ∧ r.2.2 ≤ a4 + 3 := by
  subst e
  unfold k_1e
  simp only [LR.seq_go]
  have k1 := order2_f a0 a1 a2 a4 _ rfl
  generalize k_12 a0 a1 a2 a4 = q1 at *
  have k2 := order2_f q1.2.2.1 q1.2.1 a3 q1.2.2.2 _ rfl
  generalize k_12 q1.2.2.1 q1.2.1 a3 q1.2.2.2 = q2 at *
  have k3 := order2_f q2.2.2.1 q1.1 q2.1 q2.2.2.2 _ rfl
  generalize k_12 q2.2.2.1 q1.1 q2.1 q2.2.2.2 = q3 at *
  refine ⟨?_, by rw [k3.2.1, k2.2.1, k1.2.1], ?_, ?_⟩ <;> omega
def k_2 (a0 : List Int) (a1 : Int) (a2 : Int) : Int × (List Int) × Int :=
  LR.seq (k_1e a0 ((a1 - 1)) a1 ((a1 + 1)) a2) (fun r14 => (r14.1, r14.2.1, r14.2.2))
set_option maxHeartbeats 3200000 in
theorem k_a0 (H : Heap) (va0 : Value) (a0 : List Int) (Ca0 : Chunk) (ha0 : OwnS (intE .u64) 43 H va0 a0 Ca0) (a1 : Int) (ba2 : Nat) (a2 : Int) (h1 : 1 ≤ a1) (h2 : a1 + 1 < (a0.length : Int)) (h5 : 0 ≤ a2) (h6 : a2 ≤ 900) : Fc Tryz.prog (fnv 114) [va0, .int .i64 a1, .pointer (some ⟨ba2, 0, none⟩)] H [Ca0, [(ba2, .cells #[.int .i64 a2] 3)]] (fun v' H' L' => ∃ Da0, v' = .int .i64 (k_2 a0 a1 a2).1 ∧ L' = [Da0, [(ba2, .cells #[.int .i64 (k_2 a0 a1 a2).2.2] 3)]] ∧ OwnS (intE .u64) 43 H' va0 (k_2 a0 a1 a2).2.1 Da0) := by
 refine Fc.of_body (N := 15) Tryz.func114 rfl kA rfl rfl ?_
 intro w0
 obtain ⟨Aa0, pa0, rfl, ma0, na0⟩ := OwnS.shape ha0
 refine sR ?_
 refine R.asE rfl cA ?_
 refine nN ?_
 refine sR ?_
 refine R.mvE rfl cA ?_
 refine R.mvE rfl cA ?_
 refine R.subI rfl rfl rfl oA ?_
 refine R.mvE rfl cA ?_
 refine R.mvE rfl cA ?_
 refine R.addI rfl rfl rfl oA ?_
 refine R.mvE rfl cA ?_
 obtain ⟨r14, er14⟩ : ∃ r, r = (k_1e a0 ((a1 - 1)) a1 ((a1 + 1)) a2) := ⟨_, rfl⟩
 refine TL.call [true, true] rfl rfl rfl (k_ce _ _ a0 _ ha0 ((a1 - 1)) (a1) ((a1 + 1)) _ a2 bA bA bA bA bA bA bA bA) ?_
 intro v14 H14 L14 s14 q14
 rw [← er14] at q14
 obtain ⟨D14_a0, rfl, rfl, w14_a0⟩ := q14
 have n14_a0_ := OwnS.len w14_a0
 have tf14 := median_f _ _ _ _ _ _ er14
 refine R.asE rfl cA ?_
 refine nN ?_
 refine T.has (Has.cons .hd (Has.cons .hd Has.nil)) ?_
 refine T.ret ?_
 have hM : k_2 a0 a1 a2 = (r14.1, r14.2.1, r14.2.2) := by subst er14; rw [k_2, LR.seq_go]
 exact fin1L (v := .int .i64 (r14.1)) [D14_a0, [(ba2, .cells #[.int .i64 (r14.2.2)] 3)]] rfl rfl (List.Sublist.refl _) ⟨D14_a0, by first | rw [hM] | rfl, by first | rw [hM] | rfl, by rw [hM]; exact w14_a0⟩
theorem medianAdj_f (a0 : List Int) (a1 a2 : Int) (r : Int × (List Int) × Int) (e : r = k_2 a0 a1 a2) : (r.1 = a1 - 1 ∨ r.1 = a1 ∨ r.1 = a1 + 1) ∧ r.2.1 = a0 ∧ a2 ≤ r.2.2 ∧ r.2.2 ≤ a2 + 3 := by
  subst e
  unfold k_2
  simp only [LR.seq_go]
  exact median_f a0 (a1 - 1) a1 (a1 + 1) a2 _ rfl
def k_13 (a0 : List Int) (a1 : Int) (a2 : Int) : Int × Int × (List Int) :=
  LR.seq (if (8 : Int) ≤ (a2 - a1) then (LR.seq (if (50 : Int) ≤ (a2 - a1) then (LR.seq (k_2 a0 ((a1 + (((a2 - a1) / 4) * 1))) 0) (fun r37 => LR.seq (k_2 r37.2.1 ((a1 + (((a2 - a1) / 4) * 2))) r37.2.2) (fun r40 => LR.seq (k_2 r40.2.1 ((a1 + (((a2 - a1) / 4) * 3))) r40.2.2) (fun r43 => (r37.1, r40.1, r43.1, r43.2.2, r43.2.1))))) else (((a1 + (((a2 - a1) / 4) * 1)), (a1 + (((a2 - a1) / 4) * 2)), (a1 + (((a2 - a1) / 4) * 3)), 0, a0)) : Int × Int × Int × Int × (List Int)) (fun sc2 => LR.seq (k_1e sc2.2.2.2.2 sc2.1 sc2.2.1 sc2.2.2.1 sc2.2.2.2.1) (fun r48 => (r48.1, r48.2.2, r48.2.1)))) else (((a1 + (((a2 - a1) / 4) * 2)), 0, a0)) : Int × Int × (List Int)) (fun sc1 => if sc1.2.1 = 0 then ((sc1.1, 1, sc1.2.2)) else (if sc1.2.1 = 12 then ((sc1.1, 2, sc1.2.2)) else ((sc1.1, 0, sc1.2.2))))
set_option maxHeartbeats 3200000 in
theorem slices_choosePivotOrdered_Id_c (H : Heap) (va0 : Value) (a0 : List Int) (Ca0 : Chunk) (ha0 : OwnS (intE .u64) 43 H va0 a0 Ca0) (a1 : Int) (a2 : Int) (h1 : 0 ≤ a1) (h2 : a1 + 12 < a2) (h3 : a2 ≤ (a0.length : Int)) (hl : a0.length ≤ 4000000) : Fc Tryz.prog (fnv 103) [va0, .int .i64 a1, .int .i64 a2] H [Ca0] (fun v' H' L' => ∃ Da0, v' = .tuple #[.int .i64 (k_13 a0 a1 a2).1, .int .i64 (k_13 a0 a1 a2).2.1] ∧ L' = [Da0] ∧ OwnS (intE .u64) 43 H' va0 (k_13 a0 a1 a2).2.2 Da0) := by
 refine Fc.of_body (N := 57) Tryz.func103 rfl kA rfl rfl ?_
 intro w0
 obtain ⟨Aa0, pa0, rfl, ma0, na0⟩ := OwnS.shape ha0
 refine sR ?_
 refine R.asE rfl cA ?_
 refine R.asE rfl cA ?_
 refine nN ?_
 refine sR ?_
 refine R.mvE rfl cA ?_
 refine R.mvE rfl cA ?_
 refine R.subI rfl rfl rfl oA ?_
 refine R.asE rfl cA ?_
 refine nN ?_
 refine sR ?_
 refine R.alloc Tryz.zeroValue3 rfl ?_
 intro b9
 refine nN ?_
 refine sR ?_
 refine R.mvE rfl cA ?_
 refine R.mvE rfl cA ?_
 refine R.quoI rfl rfl rfl oA ?_
 refine R.mulI rfl rfl rfl oA ?_
 refine R.addI rfl rfl rfl oA ?_
 refine R.asE rfl cA ?_
 refine nN ?_
 refine sR ?_
 refine R.mvE rfl cA ?_
 refine R.mvE rfl cA ?_
 refine R.quoI rfl rfl rfl oA ?_
 refine R.mulI rfl rfl rfl oA ?_
 refine R.addI rfl rfl rfl oA ?_
 refine R.asE rfl cA ?_
 refine nN ?_
 refine sR ?_
 refine R.mvE rfl cA ?_
 refine R.mvE rfl cA ?_
 refine R.quoI rfl rfl rfl oA ?_
 refine R.mulI rfl rfl rfl oA ?_
 refine R.addI rfl rfl rfl oA ?_
 refine R.asE rfl cA ?_
 refine nN ?_
 refine T.seq ?_
 refine sR ?_
 refine R.mvE rfl cA ?_
 refine R.geq rfl rfl rfl ?_
 refine nN ?_
 refine T.cutK (ι := Int × Int × (List Int) × Chunk) (fun ⟨n11c1, nb9c1_0, xPa0c1, cPa0c1⟩ H' L' ds' => Has L' [[(b9, .cells #[.int .i64 nb9c1_0] 3)], cPa0c1] ∧ OwnS (intE .u64) 43 H' (.slice Aa0 a0.length pa0) xPa0c1 cPa0c1 ∧ (if (8 : Int) ≤ (a2 - a1) then (LR.seq (if (50 : Int) ≤ (a2 - a1) then (LR.seq (k_2 a0 ((a1 + (((a2 - a1) / 4) * 1))) 0) (fun r37 => LR.seq (k_2 r37.2.1 ((a1 + (((a2 - a1) / 4) * 2))) r37.2.2) (fun r40 => LR.seq (k_2 r40.2.1 ((a1 + (((a2 - a1) / 4) * 3))) r40.2.2) (fun r43 => (r37.1, r40.1, r43.1, r43.2.2, r43.2.1))))) else (((a1 + (((a2 - a1) / 4) * 1)), (a1 + (((a2 - a1) / 4) * 2)), (a1 + (((a2 - a1) / 4) * 3)), 0, a0)) : Int × Int × Int × Int × (List Int)) (fun sc2 => LR.seq (k_1e sc2.2.2.2.2 sc2.1 sc2.2.1 sc2.2.2.1 sc2.2.2.2.1) (fun r48 => (r48.1, r48.2.2, r48.2.1)))) else (((a1 + (((a2 - a1) / 4) * 2)), 0, a0)) : Int × Int × (List Int)) = (n11c1, nb9c1_0, xPa0c1)) (fun ⟨n11c1, nb9c1_0, xPa0c1, cPa0c1⟩ => [(9, .pointer (some ⟨b9, 0, none⟩)), (11, .int .i64 n11c1)]) ?_ ?_
 ·refine T.condD rfl (fun c32 => ?_) (fun c32 => ?_)
  ·refine T.set 32 (.bool true) (congrArg Value.bool (decide_eq_true c32)) ?_
   refine T.seq ?_
   refine sR ?_
   refine R.mvE rfl cA ?_
   refine R.geq rfl rfl rfl ?_
   refine nN ?_
   refine T.cutK (ι := Int × Int × Int × Int × (List Int) × Chunk) (fun ⟨n10c2, n11c2, n12c2, nb9c2_0, xPa0c2, cPa0c2⟩ H' L' ds' => Has L' [[(b9, .cells #[.int .i64 nb9c2_0] 3)], cPa0c2] ∧ OwnS (intE .u64) 43 H' (.slice Aa0 a0.length pa0) xPa0c2 cPa0c2 ∧ a1 ≤ n10c2 ∧ n10c2 < a2 ∧ a1 ≤ n11c2 ∧ n11c2 < a2 ∧ a1 ≤ n12c2 ∧ n12c2 < a2 ∧ 0 ≤ nb9c2_0 ∧ nb9c2_0 ≤ 9 ∧ (if (50 : Int) ≤ (a2 - a1) then (LR.seq (k_2 a0 ((a1 + (((a2 - a1) / 4) * 1))) 0) (fun r37 => LR.seq (k_2 r37.2.1 ((a1 + (((a2 - a1) / 4) * 2))) r37.2.2) (fun r40 => LR.seq (k_2 r40.2.1 ((a1 + (((a2 - a1) / 4) * 3))) r40.2.2) (fun r43 => (r37.1, r40.1, r43.1, r43.2.2, r43.2.1))))) else (((a1 + (((a2 - a1) / 4) * 1)), (a1 + (((a2 - a1) / 4) * 2)), (a1 + (((a2 - a1) / 4) * 3)), 0, a0)) : Int × Int × Int × Int × (List Int)) = (n10c2, n11c2, n12c2, nb9c2_0, xPa0c2)) (fun ⟨n10c2, n11c2, n12c2, nb9c2_0, xPa0c2, cPa0c2⟩ => [(0, .slice Aa0 a0.length pa0), (9, .pointer (some ⟨b9, 0, none⟩)), (10, .int .i64 n10c2), (11, .int .i64 n11c2), (12, .int .i64 n12c2)]) ?_ ?_
   ·refine T.condD rfl (fun c34 => ?_) (fun c34 => ?_)
    ·refine T.set 34 (.bool true) (congrArg Value.bool (decide_eq_true c34)) ?_
     refine sR ?_
     refine R.mvE rfl cA ?_
     refine R.mvE rfl cA ?_
     refine TL.has (Has.cons (.tl .hd) (Has.cons .hd Has.nil)) ?_
     obtain ⟨r37, er37⟩ : ∃ r, r = (k_2 a0 ((a1 + (((a2 - a1) / 4) * 1))) 0) := ⟨_, rfl⟩
     refine TL.call [true, true] rfl rfl rfl (k_a0 _ _ a0 _ ha0 ((a1 + (((a2 - a1) / 4) * 1))) _ 0 bA bA bA bA) ?_
     intro v37 H37 L37 s37 q37
     rw [← er37] at q37
     obtain ⟨D37_a0, rfl, rfl, w37_a0⟩ := q37
     have n37_a0_ := OwnS.len w37_a0
     have tf37 := medianAdj_f _ _ _ _ er37
     refine R.asE rfl cA ?_
     refine nN ?_
     refine sR ?_
     refine R.mvE rfl cA ?_
     refine R.mvE rfl cA ?_
     obtain ⟨r40, er40⟩ : ∃ r, r = (k_2 r37.2.1 ((a1 + (((a2 - a1) / 4) * 2))) r37.2.2) := ⟨_, rfl⟩
     refine TL.call [true, true] rfl rfl rfl (k_a0 _ _ r37.2.1 _ w37_a0 ((a1 + (((a2 - a1) / 4) * 2))) _ r37.2.2 bA bA bA bA) ?_
     intro v40 H40 L40 s40 q40
     rw [← er40] at q40
     obtain ⟨D40_a0, rfl, rfl, w40_a0⟩ := q40
     have n40_a0_ := OwnS.len w40_a0
     have tf40 := medianAdj_f _ _ _ _ er40
     refine R.asE rfl cA ?_
     refine nN ?_
     refine T.region ?_
     refine R.mvE rfl cA ?_
     refine R.mvE rfl cA ?_
     obtain ⟨r43, er43⟩ : ∃ r, r = (k_2 r40.2.1 ((a1 + (((a2 - a1) / 4) * 3))) r40.2.2) := ⟨_, rfl⟩
     refine TL.call [true, true] rfl rfl rfl (k_a0 _ _ r40.2.1 _ w40_a0 ((a1 + (((a2 - a1) / 4) * 3))) _ r40.2.2 bA bA bA bA) ?_
     intro v43 H43 L43 s43 q43
     rw [← er43] at q43
     obtain ⟨D43_a0, rfl, rfl, w43_a0⟩ := q43
     have n43_a0_ := OwnS.len w43_a0
     have tf43 := medianAdj_f _ _ _ _ er43
     refine R.asE rfl cA ?_
     refine nN ?_
     exact ⟨(r37.1, r40.1, r43.1, r43.2.2, r43.2.1, D43_a0), (s37.trans (s40.trans s43)), ⟨(Has.cons (.tl .hd) (Has.cons .hd Has.nil)), w43_a0, bA, bA, bA, bA, bA, bA, bA, bA, (by subst er43; subst er40; subst er37; rw [if_pos c34, LR.seq_go, LR.seq_go, LR.seq_go])⟩, rfl, rfl, rfl, rfl, rfl, trivial⟩
    refine T.set 34 (.bool false) (congrArg Value.bool (decide_eq_false c34)) ?_
    refine T.skip (Post.thnN ?_)
    exact ⟨((a1 + (((a2 - a1) / 4) * 1)), (a1 + (((a2 - a1) / 4) * 2)), (a1 + (((a2 - a1) / 4) * 3)), 0, a0, Ca0), HLe.refl _, ⟨(Has.cons .hd (Has.cons .hd Has.nil)), ha0, bA, bA, bA, bA, bA, bA, bA, bA, (by rw [if_neg c34])⟩, rfl, rfl, rfl, rfl, rfl, trivial⟩
   intro ⟨n10c2, n11c2, n12c2, nb9c2_0, xPa0c2, cPa0c2⟩ σ_c2 H_c2 L_c2 ds_c2 s_c2 hI_c2
   obtain ⟨hLc2, wPa0c2, hBc2_0, hBc2_1, hBc2_2, hBc2_3, hBc2_4, hBc2_5, hBc2_6, hBc2_7, hTc2⟩ := hI_c2
   have nPa0c2_ := OwnS.len wPa0c2
   refine T.has hLc2 ?_
   refine T.region ?_
   refine R.mvE rfl cA ?_
   refine R.mvE rfl cA ?_
   refine R.mvE rfl cA ?_
   refine R.mvE rfl cA ?_
   refine TL.has (Has.cons (.tl .hd) (Has.cons .hd Has.nil)) ?_
   obtain ⟨r48, er48⟩ : ∃ r, r = (k_1e xPa0c2 n10c2 n11c2 n12c2 nb9c2_0) := ⟨_, rfl⟩
   refine TL.call [true, true] rfl rfl rfl (k_ce _ _ xPa0c2 _ wPa0c2 (n10c2) (n11c2) (n12c2) _ nb9c2_0 bA bA bA bA bA bA bA bA) ?_
   intro v48 H48 L48 s48 q48
   rw [← er48] at q48
   obtain ⟨D48_a0, rfl, rfl, w48_a0⟩ := q48
   have n48_a0_ := OwnS.len w48_a0
   have tf48 := median_f _ _ _ _ _ _ er48
   refine R.asE rfl cA ?_
   refine nN ?_
   exact ⟨(r48.1, r48.2.2, r48.2.1, D48_a0), (s_c2.trans s48), ⟨(Has.cons (.tl .hd) (Has.cons .hd Has.nil)), w48_a0, (by subst er48; rw [if_pos c32, hTc2, LR.seq_go, LR.seq_go])⟩, rfl, rfl, trivial⟩
  refine T.set 32 (.bool false) (congrArg Value.bool (decide_eq_false c32)) ?_
  refine T.skip (Post.thnN ?_)
  exact ⟨((a1 + (((a2 - a1) / 4) * 2)), 0, a0, Ca0), HLe.refl _, ⟨(Has.cons .hd (Has.cons .hd Has.nil)), ha0, (by rw [if_neg c32])⟩, rfl, rfl, trivial⟩
 intro ⟨n11c1, nb9c1_0, xPa0c1, cPa0c1⟩ σ_c1 H_c1 L_c1 ds_c1 s_c1 hI_c1
 obtain ⟨hLc1, wPa0c1, hTc1⟩ := hI_c1
 have nPa0c1_ := OwnS.len wPa0c1
 refine T.has hLc1 ?_
 refine sR ?_
 refine R.ld Tryz.isAgg3 rfl rfl .hd rfl ?_
 refine nN ?_
 refine T.block ?_
 refine sR ?_
 refine R.eql rfl rfl rfl ?_
 refine R.asE rfl cA ?_
 refine nN ?_
 refine T.condD rfl (fun c51 => ?_) (fun c51 => ?_)
 ·refine T.set 51 (.bool true) (congrArg Value.bool (decide_eq_true c51)) ?_
  refine sR ?_
  refine R.mvE rfl cA ?_
  refine R.asE rfl cA ?_
  refine R.asE rfl cA ?_
  refine nN ?_
  refine T.has (Has.cons (.tl .hd) Has.nil) ?_
  refine T.ret (Post.blkR ?_)
  have hM : k_13 a0 a1 a2 = (n11c1, 1, xPa0c1) := by rw [k_13, hTc1, LR.seq_go, if_pos c51]
  exact fin2L (v := .int .i64 n11c1) (v' := .int .i64 1) [cPa0c1] rfl rfl rfl (List.Sublist.refl _) ⟨cPa0c1, by first | rw [hM] | rfl, by first | rw [hM] | rfl, by rw [hM]; exact wPa0c1⟩
 refine T.set 51 (.bool false) (congrArg Value.bool (decide_eq_false c51)) ?_
 refine sR ?_
 refine R.eql rfl rfl rfl ?_
 refine R.asE rfl cA ?_
 refine nN ?_
 refine T.condD rfl (fun c54 => ?_) (fun c54 => ?_)
 ·refine T.set 54 (.bool true) (congrArg Value.bool (decide_eq_true c54)) ?_
  refine sR ?_
  refine R.mvE rfl cA ?_
  refine R.asE rfl cA ?_
  refine R.asE rfl cA ?_
  refine nN ?_
  refine T.has (Has.cons (.tl .hd) Has.nil) ?_
  refine T.ret (Post.blkR ?_)
  have hM : k_13 a0 a1 a2 = (n11c1, 2, xPa0c1) := by rw [k_13, hTc1, LR.seq_go, if_neg c51, if_pos c54]
  exact fin2L (v := .int .i64 n11c1) (v' := .int .i64 2) [cPa0c1] rfl rfl rfl (List.Sublist.refl _) ⟨cPa0c1, by first | rw [hM] | rfl, by first | rw [hM] | rfl, by rw [hM]; exact wPa0c1⟩
 refine T.set 54 (.bool false) (congrArg Value.bool (decide_eq_false c54)) ?_
 refine sR ?_
 refine R.mvE rfl cA ?_
 refine R.asE rfl cA ?_
 refine R.asE rfl cA ?_
 refine nN ?_
 refine T.has (Has.cons (.tl .hd) Has.nil) ?_
 refine T.ret (Post.blkR ?_)
 have hM : k_13 a0 a1 a2 = (n11c1, 0, xPa0c1) := by rw [k_13, hTc1, LR.seq_go, if_neg c51, if_neg c54]
 exact fin2L (v := .int .i64 n11c1) (v' := .int .i64 0) [cPa0c1] rfl rfl rfl (List.Sublist.refl _) ⟨cPa0c1, by first | rw [hM] | rfl, by first | rw [hM] | rfl, by rw [hM]; exact wPa0c1⟩
theorem choose_f (a0 : List Int) (a1 a2 : Int) (r : Int × Int × (List Int)) (e : r = k_13 a0 a1 a2) (h : a1 + 12 < a2) : (a1 ≤ r.1 ∧ r.1 < a2) ∧ (r.2.1 = 0 ∨ r.2.1 = 1 ∨ r.2.1 = 2) ∧ r.2.2 = a0 := by
  have key : ∀ (p : Int × Int × (List Int)), (a1 ≤ p.1 ∧ p.1 < a2) ∧ p.2.2 = a0 → r = (if p.2.1 = 0 then ((p.1, 1, p.2.2)) else (if p.2.1 = 12 then ((p.1, 2, p.2.2)) else ((p.1, 0, p.2.2)))) → (a1 ≤ r.1 ∧ r.1 < a2) ∧ (r.2.1 = 0 ∨ r.2.1 = 1 ∨ r.2.1 = 2) ∧ r.2.2 = a0 := by
    rintro p ⟨h1, h2⟩ rfl
    split
    · exact ⟨h1, .inr (.inl rfl), h2⟩
    · split
      · exact ⟨h1, .inr (.inr rfl), h2⟩
      · exact ⟨h1, .inl rfl, h2⟩
  unfold k_13 at e
  rw [if_pos (show (8 : Int) ≤ a2 - a1 by omega)] at e
  simp only [LR.seq_go] at e
  by_cases h50 : (50 : Int) ≤ a2 - a1
  · rw [if_pos h50] at e
    simp only [LR.seq_go] at e
    have k1 := medianAdj_f a0 (a1 + (a2 - a1) / 4 * 1) 0 _ rfl
    generalize k_2 a0 (a1 + (a2 - a1) / 4 * 1) 0 = q1 at *
    have k2 := medianAdj_f q1.2.1 (a1 + (a2 - a1) / 4 * 2) q1.2.2 _ rfl
    generalize k_2 q1.2.1 (a1 + (a2 - a1) / 4 * 2) q1.2.2 = q2 at *
    have k3 := medianAdj_f q2.2.1 (a1 + (a2 - a1) / 4 * 3) q2.2.2 _ rfl
    generalize k_2 q2.2.1 (a1 + (a2 - a1) / 4 * 3) q2.2.2 = q3 at *
    have k4 := median_f q3.2.1 q1.1 q2.1 q3.1 q3.2.2 _ rfl
    generalize k_1e q3.2.1 q1.1 q2.1 q3.1 q3.2.2 = q4 at *
    exact key (q4.1, q4.2.2, q4.2.1) ⟨by constructor <;> (simp only; omega), by simp only; rw [k4.2.1, k3.2.1, k2.2.1, k1.2.1]⟩ e
  · rw [if_neg h50] at e
    have k4 := median_f a0 (a1 + (a2 - a1) / 4 * 1) (a1 + (a2 - a1) / 4 * 2) (a1 + (a2 - a1) / 4 * 3) 0 _ rfl
    generalize k_1e a0 (a1 + (a2 - a1) / 4 * 1) (a1 + (a2 - a1) / 4 * 2) (a1 + (a2 - a1) / 4 * 3) 0 = q4 at *
    exact key (q4.1, q4.2.2, q4.2.1) ⟨by constructor <;> (simp only; omega), by simp only; rw [k4.2.1]⟩ e
end Go.SX

namespace Go.Proofs
open Go.Shelf
def Tryz.lays125_ren : Go.Shelf.Ren := ⟨fun | 125 => 98 | 128 => 109 | 129 => 110 | n => n, fun | 46 => 86 | 3 => 3 | 51 => 115 | 53 => 42 | 4 => 4 | 5 => 5 | 9 => 9 | n => n, fun | n => n⟩
theorem Tryz.lays125 : Go.Proofs.Lays.n125 Tryz.prog Tryz.lays125_ren := {
  mixed := by kernel_rfl
  f125 := Tryz.func98.trans (congrArg some (by kernel_rfl))
  f128 := Tryz.func109.trans (congrArg some (by kernel_rfl))
  f129 := Tryz.func110.trans (congrArg some (by kernel_rfl))
  t3 := Tryz.underlying3
  a3 := Tryz.isAgg3
  z3 := Tryz.sizeOf3
  v3 := Tryz.zeroValue3
  t4 := Tryz.underlying4
  a4 := Tryz.isAgg4
  z4 := Tryz.sizeOf4
  v4 := Tryz.zeroValue4
  t5 := Tryz.underlying5
  a5 := Tryz.isAgg5
  z5 := Tryz.sizeOf5
  v5 := Tryz.zeroValue5
  t9 := Tryz.underlying9
  a9 := Tryz.isAgg9
  z9 := Tryz.sizeOf9
  v9 := Tryz.zeroValue9
  t46 := Tryz.underlying86
  a46 := Tryz.isAgg86
  z46 := Tryz.sizeOf86
  v46 := Tryz.zeroValue86
  t51 := Tryz.underlying115
  a51 := Tryz.isAgg115
  z51 := Tryz.sizeOf115
  v51 := Tryz.zeroValue115
  t53 := Tryz.underlying42
  a53 := Tryz.isAgg42
  z53 := Tryz.sizeOf42
  v53 := Tryz.zeroValue42 }
end Go.Proofs

set_option linter.unusedVariables false
set_option linter.unusedSimpArgs false
namespace Go.SX
open Go Go.Proofs

def blen (x : Int) : Int := ((Lib.bitLen x.toNat : Nat) : Int)
theorem blen_nn (x : Int) : 0 ≤ blen x := Int.natCast_nonneg _
theorem blen_c (H : Heap) (a0 : Int) (h0 : 0 ≤ a0) (h1 : a0 ≤ 18446744073709551615) : Fv Tryz.prog (fnv 98) [.int .u64 a0] H (.int .i64 (blen a0)) := by
  intro w hs
  have he := Go.Proofs.enters_of (P := Tryz.prog) Tryz.func98 (by kernel_rfl) rfl #[.int .u64 a0] w
  refine ⟨.enter 98 #[.int .u64 a0], w, by simp [Deferred.ofValue, invoke, he], ?_⟩
  refine CallsIn.mono (callsIn_wide.2 (Go.Proofs.Any.bits_Len Tryz.lays125 a0 w h0 h1)) ?_
  rintro e' w' ⟨rfl, rfl⟩
  exact ⟨_, H, [], rfl, St.init hs, rfl, rfl⟩
def k_26 (a0 : Int) : Int :=
  (bshl .u64 1 (blen a0))
set_option maxHeartbeats 3200000 in
theorem slices_nextPowerOfTwo_c (H : Heap) (a0 : Int) (h0 : 0 ≤ a0) (h1 : a0 ≤ 4000000) : Fv Tryz.prog (fnv 112) [.int .i64 a0] H (.int .u64 (k_26 a0)) := by
 refine Fc.of_body (N := 7) Tryz.func112 rfl kA rfl rfl ?_
 intro w0
 refine sR ?_
 refine R.asE rfl cA ?_
 refine nN ?_
 refine T.seq ?_
 have hb := blen_nn a0
 refine T.region ?_
 refine R.mvE rfl cA ?_
 refine R.convU Tryz.underlying3 Tryz.underlying86 rfl rfl oA ?_
 refine R.callv rfl rfl rfl (blen_c _ (a0) bA bA) ?_
 refine R.shl rfl rfl rfl oA ?_
 refine R.asE rfl cA ?_
 refine nN ?_
 refine T.has Has.nil ?_
 refine T.ret ?_
 have hM : k_26 a0 = (bshl .u64 1 (blen a0)) := by rw [k_26]
 exact fin1L (v := .int .u64 (bshl .u64 1 (blen a0))) [] rfl rfl (List.Sublist.refl _) ⟨rfl, by first | rw [hM] | rfl⟩
theorem npow_eq (n : Nat) (hn : n ≤ 4000000) : k_26 (n : Int) = ((1 <<< Sort.bitsLen n : Nat) : Int) := by
  have hl : Sort.bitsLen n ≤ 22 := (Sort.bitsLen_le_iff n 22).2 (by omega)
  unfold k_26 blen bshl
  simp only [Int.toNat_natCast]
  rw [Go.Proofs.bitLen_eq n (by omega), Int.one_mul, show min (Sort.bitsLen n) IntKind.u64.bits = Sort.bitsLen n from Nat.min_eq_left (by show _ ≤ 64; omega)]
  exact Go.Proofs.wrap_two_pow _ (by omega)
theorem band_rng (x y : Int) (hy : 0 ≤ y ∧ y < 18446744073709551616) : 0 ≤ band .u64 x y ∧ band .u64 x y ≤ y := by
  unfold band
  have h1 : (BitVec.ofInt IntKind.u64.bits x &&& BitVec.ofInt IntKind.u64.bits y).toNat ≤ (BitVec.ofInt IntKind.u64.bits y).toNat := by rw [BitVec.toNat_and]; exact Nat.and_le_right
  have h2 : ((BitVec.ofInt IntKind.u64.bits y).toNat : Int) = y := by
    rw [BitVec.toNat_ofInt]
    show (((y % ((2 : Int) ^ 64)).toNat : Nat) : Int) = y
    omega
  rw [IntKind.wrap_u64]
  omega
theorem band_np (L x : Int) (h : 8 ≤ L ∧ L ≤ 4000000) : 0 ≤ band .u64 x (IntKind.u64.wrap (k_26 L - 1)) ∧ band .u64 x (IntKind.u64.wrap (k_26 L - 1)) < 2 * L := by
  obtain ⟨n, rfl⟩ : ∃ n : Nat, L = n := ⟨L.toNat, by omega⟩
  have h1 := Sort.two_pow_bitsLen_le (n := n) (by omega)
  have h0 : 0 < 2 ^ Sort.bitsLen n := Nat.two_pow_pos _
  rw [npow_eq n (by omega), Nat.one_shiftLeft]
  generalize 2 ^ Sort.bitsLen n = p at h0 h1
  have e : IntKind.u64.wrap ((p : Int) - 1) = (p : Int) - 1 := k_c9 ⟨by omega, by omega⟩
  rw [e]
  have := band_rng x ((p : Int) - 1) ⟨by omega, by omega⟩
  omega
def k_7b (a0 : Int) : Int × Int :=
  LR.seq ((bxor .u64 a0 (bshl .u64 a0 13)) : Int) (fun sc1 => LR.seq ((bxor .u64 sc1 (bshr .u64 sc1 7)) : Int) (fun sc2 => LR.seq ((bxor .u64 sc2 (bshl .u64 sc2 17)) : Int) (fun sc3 => (sc3, sc3))))
set_option maxHeartbeats 3200000 in
theorem _slices_xorshift__Next_c (H : Heap) (ba0 : Nat) (a0 : Int) : Fc Tryz.prog (fnv 113) [.pointer (some ⟨ba0, 0, none⟩)] H [[(ba0, .cells #[.int .u64 a0] 117)]] (fun v' H' L' => v' = .int .u64 (k_7b a0).1 ∧ L' = [[(ba0, .cells #[.int .u64 (k_7b a0).2] 117)]]) := by
 refine Fc.of_body (N := 33) Tryz.func113 rfl kA rfl rfl ?_
 intro w0
 refine sR ?_
 refine R.asE rfl cA ?_
 refine nN ?_
 refine T.seq ?_
 refine T.cutK (ι := Int) (fun nba0c1_0 H' L' ds' => Has L' [[(ba0, .cells #[.int .u64 nba0c1_0] 117)]] ∧ ((bxor .u64 a0 (bshl .u64 a0 13)) : Int) = nba0c1_0) (fun nba0c1_0 => [(0, .pointer (some ⟨ba0, 0, none⟩))]) ?_ ?_
 ·refine T.draw k_2b kA ?_
  refine vM 0 [1, 2, 3, 4, 5, 6, 7, 8, 9] rfl rfl cA ?_
  refine vA 1 [2, 3, 4, 5, 6, 7, 8, 9] rfl (fun _ _ h_ => R.nilck rfl rfl (TL.nil h_)) ?_
  refine vM 3 [2, 4, 5, 6, 7, 8, 9] rfl rfl cA ?_
  refine vA 4 [2, 5, 6, 7, 8, 9] rfl (fun _ _ h_ => R.nilck rfl rfl (TL.nil h_)) ?_
  refine Plan.s2 2 5 [5, 6, 7, 8, 9] [2, 6, 7, 8, 9] kA kA kA rfl rfl ?_ ?_
  ·refine R.ld Tryz.isAgg117 rfl rfl .hd rfl ?_
   refine TL.nil (Plan.e1 (HLe.refl _) ?_)
   refine Plan.s1 5 [6, 7, 8, 9] kA kA rfl ?_
   refine R.ld Tryz.isAgg117 rfl rfl .hd rfl ?_
   refine TL.nil (Plan.e1 (HLe.refl _) ?_)
   refine vA 6 [7, 8, 9] rfl (fun _ _ h_ => R.shl rfl rfl rfl oA (TL.nil h_)) ?_
   refine vA 7 [8, 9] rfl (fun _ _ h_ => R.xor rfl rfl rfl (TL.nil h_)) ?_
   refine vA 8 [9] rfl (fun _ _ h_ => R.nilck rfl rfl (TL.nil h_)) ?_
   refine Plan.s1 9 [] kA kA rfl ?_
   refine R.stX (old := [.int .u64 a0]) (l := [.int .u64 (bxor .u64 a0 (bshl .u64 a0 13))]) (new := [.int .u64 (bxor .u64 a0 (bshl .u64 a0 13))]) (et := 117) Tryz.sizeOf117 rfl rfl rfl (cells1 rfl) rfl (by show 0 + 1 ≤ 1; decide) rfl (k_20 rfl) .hd ?_
   refine TL.nil (Plan.e0 (HLe.refl _) ?_)
   refine Plan.done (Post.thnN ?_)
   exact ⟨(bxor .u64 a0 (bshl .u64 a0 13)), HLe.refl _, ⟨(Has.cons .hd Has.nil), (by rfl)⟩, rfl, trivial⟩
  refine R.ld Tryz.isAgg117 rfl rfl .hd rfl ?_
  refine TL.nil (Plan.e1 (HLe.refl _) ?_)
  refine vA 6 [2, 7, 8, 9] rfl (fun _ _ h_ => R.shl rfl rfl rfl oA (TL.nil h_)) ?_
  refine Plan.s1 2 [7, 8, 9] kA kA rfl ?_
  refine R.ld Tryz.isAgg117 rfl rfl .hd rfl ?_
  refine TL.nil (Plan.e1 (HLe.refl _) ?_)
  refine vA 7 [8, 9] rfl (fun _ _ h_ => R.xor rfl rfl rfl (TL.nil h_)) ?_
  refine vA 8 [9] rfl (fun _ _ h_ => R.nilck rfl rfl (TL.nil h_)) ?_
  refine Plan.s1 9 [] kA kA rfl ?_
  refine R.stX (old := [.int .u64 a0]) (l := [.int .u64 (bxor .u64 a0 (bshl .u64 a0 13))]) (new := [.int .u64 (bxor .u64 a0 (bshl .u64 a0 13))]) (et := 117) Tryz.sizeOf117 rfl rfl rfl (cells1 rfl) rfl (by show 0 + 1 ≤ 1; decide) rfl (k_20 rfl) .hd ?_
  refine TL.nil (Plan.e0 (HLe.refl _) ?_)
  refine Plan.done (Post.thnN ?_)
  exact ⟨(bxor .u64 a0 (bshl .u64 a0 13)), HLe.refl _, ⟨(Has.cons .hd Has.nil), (by rfl)⟩, rfl, trivial⟩
 intro nba0c1_0 σ_c1 H_c1 L_c1 ds_c1 s_c1 hI_c1
 obtain ⟨hLc1, hTc1⟩ := hI_c1
 refine T.has hLc1 ?_
 refine T.seq ?_
 refine T.cutK (ι := Int) (fun nba0c2_0 H' L' ds' => Has L' [[(ba0, .cells #[.int .u64 nba0c2_0] 117)]] ∧ ((bxor .u64 nba0c1_0 (bshr .u64 nba0c1_0 7)) : Int) = nba0c2_0) (fun nba0c2_0 => [(0, .pointer (some ⟨ba0, 0, none⟩))]) ?_ ?_
 ·refine T.draw k_2b kA ?_
  refine vM 0 [1, 2, 3, 4, 5, 6, 7, 8, 9] rfl rfl cA ?_
  refine vA 1 [2, 3, 4, 5, 6, 7, 8, 9] rfl (fun _ _ h_ => R.nilck rfl rfl (TL.nil h_)) ?_
  refine vM 3 [2, 4, 5, 6, 7, 8, 9] rfl rfl cA ?_
  refine vA 4 [2, 5, 6, 7, 8, 9] rfl (fun _ _ h_ => R.nilck rfl rfl (TL.nil h_)) ?_
  refine Plan.s2 2 5 [5, 6, 7, 8, 9] [2, 6, 7, 8, 9] kA kA kA rfl rfl ?_ ?_
  ·refine R.ld Tryz.isAgg117 rfl rfl .hd rfl ?_
   refine TL.nil (Plan.e1 (HLe.refl _) ?_)
   refine Plan.s1 5 [6, 7, 8, 9] kA kA rfl ?_
   refine R.ld Tryz.isAgg117 rfl rfl .hd rfl ?_
   refine TL.nil (Plan.e1 (HLe.refl _) ?_)
   refine vA 6 [7, 8, 9] rfl (fun _ _ h_ => R.shr rfl rfl rfl oA (TL.nil h_)) ?_
   refine vA 7 [8, 9] rfl (fun _ _ h_ => R.xor rfl rfl rfl (TL.nil h_)) ?_
   refine vA 8 [9] rfl (fun _ _ h_ => R.nilck rfl rfl (TL.nil h_)) ?_
   refine Plan.s1 9 [] kA kA rfl ?_
   refine R.stX (old := [.int .u64 nba0c1_0]) (l := [.int .u64 (bxor .u64 nba0c1_0 (bshr .u64 nba0c1_0 7))]) (new := [.int .u64 (bxor .u64 nba0c1_0 (bshr .u64 nba0c1_0 7))]) (et := 117) Tryz.sizeOf117 rfl rfl rfl (cells1 rfl) rfl (by show 0 + 1 ≤ 1; decide) rfl (k_20 rfl) .hd ?_
   refine TL.nil (Plan.e0 (HLe.refl _) ?_)
   refine Plan.done (Post.thnN ?_)
   exact ⟨(bxor .u64 nba0c1_0 (bshr .u64 nba0c1_0 7)), HLe.refl _, ⟨(Has.cons .hd Has.nil), (by rfl)⟩, rfl, trivial⟩
  refine R.ld Tryz.isAgg117 rfl rfl .hd rfl ?_
  refine TL.nil (Plan.e1 (HLe.refl _) ?_)
  refine vA 6 [2, 7, 8, 9] rfl (fun _ _ h_ => R.shr rfl rfl rfl oA (TL.nil h_)) ?_
  refine Plan.s1 2 [7, 8, 9] kA kA rfl ?_
  refine R.ld Tryz.isAgg117 rfl rfl .hd rfl ?_
  refine TL.nil (Plan.e1 (HLe.refl _) ?_)
  refine vA 7 [8, 9] rfl (fun _ _ h_ => R.xor rfl rfl rfl (TL.nil h_)) ?_
  refine vA 8 [9] rfl (fun _ _ h_ => R.nilck rfl rfl (TL.nil h_)) ?_
  refine Plan.s1 9 [] kA kA rfl ?_
  refine R.stX (old := [.int .u64 nba0c1_0]) (l := [.int .u64 (bxor .u64 nba0c1_0 (bshr .u64 nba0c1_0 7))]) (new := [.int .u64 (bxor .u64 nba0c1_0 (bshr .u64 nba0c1_0 7))]) (et := 117) Tryz.sizeOf117 rfl rfl rfl (cells1 rfl) rfl (by show 0 + 1 ≤ 1; decide) rfl (k_20 rfl) .hd ?_
  refine TL.nil (Plan.e0 (HLe.refl _) ?_)
  refine Plan.done (Post.thnN ?_)
  exact ⟨(bxor .u64 nba0c1_0 (bshr .u64 nba0c1_0 7)), HLe.refl _, ⟨(Has.cons .hd Has.nil), (by rfl)⟩, rfl, trivial⟩
 intro nba0c2_0 σ_c2 H_c2 L_c2 ds_c2 s_c2 hI_c2
 obtain ⟨hLc2, hTc2⟩ := hI_c2
 refine T.has hLc2 ?_
 refine T.seq ?_
 refine T.cutK (ι := Int) (fun nba0c3_0 H' L' ds' => Has L' [[(ba0, .cells #[.int .u64 nba0c3_0] 117)]] ∧ ((bxor .u64 nba0c2_0 (bshl .u64 nba0c2_0 17)) : Int) = nba0c3_0) (fun nba0c3_0 => [(0, .pointer (some ⟨ba0, 0, none⟩))]) ?_ ?_
 ·refine T.draw k_2b kA ?_
  refine vM 0 [1, 2, 3, 4, 5, 6, 7, 8, 9] rfl rfl cA ?_
  refine vA 1 [2, 3, 4, 5, 6, 7, 8, 9] rfl (fun _ _ h_ => R.nilck rfl rfl (TL.nil h_)) ?_
  refine vM 3 [2, 4, 5, 6, 7, 8, 9] rfl rfl cA ?_
  refine vA 4 [2, 5, 6, 7, 8, 9] rfl (fun _ _ h_ => R.nilck rfl rfl (TL.nil h_)) ?_
  refine Plan.s2 2 5 [5, 6, 7, 8, 9] [2, 6, 7, 8, 9] kA kA kA rfl rfl ?_ ?_
  ·refine R.ld Tryz.isAgg117 rfl rfl .hd rfl ?_
   refine TL.nil (Plan.e1 (HLe.refl _) ?_)
   refine Plan.s1 5 [6, 7, 8, 9] kA kA rfl ?_
   refine R.ld Tryz.isAgg117 rfl rfl .hd rfl ?_
   refine TL.nil (Plan.e1 (HLe.refl _) ?_)
   refine vA 6 [7, 8, 9] rfl (fun _ _ h_ => R.shl rfl rfl rfl oA (TL.nil h_)) ?_
   refine vA 7 [8, 9] rfl (fun _ _ h_ => R.xor rfl rfl rfl (TL.nil h_)) ?_
   refine vA 8 [9] rfl (fun _ _ h_ => R.nilck rfl rfl (TL.nil h_)) ?_
   refine Plan.s1 9 [] kA kA rfl ?_
   refine R.stX (old := [.int .u64 nba0c2_0]) (l := [.int .u64 (bxor .u64 nba0c2_0 (bshl .u64 nba0c2_0 17))]) (new := [.int .u64 (bxor .u64 nba0c2_0 (bshl .u64 nba0c2_0 17))]) (et := 117) Tryz.sizeOf117 rfl rfl rfl (cells1 rfl) rfl (by show 0 + 1 ≤ 1; decide) rfl (k_20 rfl) .hd ?_
   refine TL.nil (Plan.e0 (HLe.refl _) ?_)
   refine Plan.done (Post.thnN ?_)
   exact ⟨(bxor .u64 nba0c2_0 (bshl .u64 nba0c2_0 17)), HLe.refl _, ⟨(Has.cons .hd Has.nil), (by rfl)⟩, rfl, trivial⟩
  refine R.ld Tryz.isAgg117 rfl rfl .hd rfl ?_
  refine TL.nil (Plan.e1 (HLe.refl _) ?_)
  refine vA 6 [2, 7, 8, 9] rfl (fun _ _ h_ => R.shl rfl rfl rfl oA (TL.nil h_)) ?_
  refine Plan.s1 2 [7, 8, 9] kA kA rfl ?_
  refine R.ld Tryz.isAgg117 rfl rfl .hd rfl ?_
  refine TL.nil (Plan.e1 (HLe.refl _) ?_)
  refine vA 7 [8, 9] rfl (fun _ _ h_ => R.xor rfl rfl rfl (TL.nil h_)) ?_
  refine vA 8 [9] rfl (fun _ _ h_ => R.nilck rfl rfl (TL.nil h_)) ?_
  refine Plan.s1 9 [] kA kA rfl ?_
  refine R.stX (old := [.int .u64 nba0c2_0]) (l := [.int .u64 (bxor .u64 nba0c2_0 (bshl .u64 nba0c2_0 17))]) (new := [.int .u64 (bxor .u64 nba0c2_0 (bshl .u64 nba0c2_0 17))]) (et := 117) Tryz.sizeOf117 rfl rfl rfl (cells1 rfl) rfl (by show 0 + 1 ≤ 1; decide) rfl (k_20 rfl) .hd ?_
  refine TL.nil (Plan.e0 (HLe.refl _) ?_)
  refine Plan.done (Post.thnN ?_)
  exact ⟨(bxor .u64 nba0c2_0 (bshl .u64 nba0c2_0 17)), HLe.refl _, ⟨(Has.cons .hd Has.nil), (by rfl)⟩, rfl, trivial⟩
 intro nba0c3_0 σ_c3 H_c3 L_c3 ds_c3 s_c3 hI_c3
 obtain ⟨hLc3, hTc3⟩ := hI_c3
 refine T.has hLc3 ?_
 refine sR ?_
 refine R.mvE rfl cA ?_
 refine R.nilck rfl rfl ?_
 refine R.ld Tryz.isAgg117 rfl rfl .hd rfl ?_
 refine R.asE rfl cA ?_
 refine nN ?_
 refine T.has (Has.cons .hd Has.nil) ?_
 refine T.ret ?_
 have hM : k_7b a0 = (nba0c3_0, nba0c3_0) := by rw [k_7b, hTc1, LR.seq_go, hTc2, LR.seq_go, hTc3, LR.seq_go]
 exact fin1L (v := .int .u64 nba0c3_0) [[(ba0, .cells #[.int .u64 nba0c3_0] 117)]] rfl rfl (List.Sublist.refl _) ⟨by first | rw [hM] | rfl, by first | rw [hM] | rfl⟩
def k_17 (a1 : Int) (a2 : Int) : Nat → (Int × Int × (List Int)) → Int × Int × (List Int)
  | 0, _ => default
  | ml1 + 1, sl1 => if sl1.1 ≤ ((a1 + (((a2 - a1) / 4) * 2)) + 1) then (LR.seq (k_7b sl1.2.1) (fun r36 => LR.seq (if ((a2 - a1) : Int) ≤ (band .u64 r36.1 (IntKind.u64.wrap ((k_26 ((a2 - a1))) - 1))) then (((band .u64 r36.1 (IntKind.u64.wrap ((k_26 ((a2 - a1))) - 1))) - (a2 - a1))) else ((band .u64 r36.1 (IntKind.u64.wrap ((k_26 ((a2 - a1))) - 1)))) : Int) (fun sc2 => k_17 a1 a2 ml1 (((sl1.1 + 1), r36.2, (((sl1.2.2.set sl1.1.toNat (sl1.2.2.getD (((a1 + sc2)).toNat) (0 : Int)))).set (((a1 + sc2)).toNat) (sl1.2.2.getD sl1.1.toNat (0 : Int)))))))) else ((sl1.1, sl1.2.1, sl1.2.2))
def k_19 (a0 : List Int) (a1 : Int) (a2 : Int) : (List Int) :=
  if (8 : Int) ≤ (a2 - a1) then (LR.seq (k_17 a1 a2 ((a1 + (a2 - a1) / 4 * 2 + 2 - (((a1 + (((a2 - a1) / 4) * 2)) - 1))).toNat + 1) ((((a1 + (((a2 - a1) / 4) * 2)) - 1), (a2 - a1), a0))) (fun ol1 => ol1.2.2)) else a0
set_option maxHeartbeats 3200000 in
theorem slices_breakPatternsOrdered_Id_c (H : Heap) (va0 : Value) (a0 : List Int) (Ca0 : Chunk) (ha0 : OwnS (intE .u64) 43 H va0 a0 Ca0) (a1 : Int) (a2 : Int) (h1 : 0 ≤ a1) (h2 : a1 + 12 < a2) (h3 : a2 ≤ (a0.length : Int)) (hl : a0.length ≤ 4000000) : Fc Tryz.prog (fnv 102) [va0, .int .i64 a1, .int .i64 a2] H [Ca0] (fun v' H' L' => ∃ Da0, v' = .tuple #[] ∧ L' = [Da0] ∧ OwnS (intE .u64) 43 H' va0 (k_19 a0 a1 a2) Da0) := by
 refine Fc.of_body (N := 65) Tryz.func102 rfl kA rfl rfl ?_
 intro w0
 obtain ⟨Aa0, pa0, rfl, ma0, na0⟩ := OwnS.shape ha0
 refine sR ?_
 refine R.mvE rfl cA ?_
 refine R.mvE rfl cA ?_
 refine R.subI rfl rfl rfl oA ?_
 refine R.asE rfl cA ?_
 refine nN ?_
 refine sR ?_
 refine R.mvE rfl cA ?_
 refine R.geq rfl rfl rfl ?_
 refine nN ?_
 refine T.condD rfl (fun c15 => ?_) (fun c15 => ?_)
 ·refine T.set 15 (.bool true) (congrArg Value.bool (decide_eq_true c15)) ?_
  refine sR ?_
  refine R.mvE rfl cA ?_
  refine R.convU Tryz.underlying3 Tryz.underlying117 rfl rfl oA ?_
  refine R.alloc Tryz.zeroValue117 rfl ?_
  intro b7
  refine R.stX (old := [.int .u64 0]) (l := [.int .u64 (a2 - a1)]) (new := [.int .u64 (a2 - a1)]) (et := 117) Tryz.sizeOf117 rfl rfl rfl (cells1 rfl) rfl (by show 0 + 1 ≤ 1; decide) rfl (k_20 rfl) .hd ?_
  refine nN ?_
  refine sR ?_
  refine R.mvE rfl cA ?_
  refine R.callv rfl rfl rfl (slices_nextPowerOfTwo_c _ ((a2 - a1)) bA bA) ?_
  refine R.asE rfl cA ?_
  refine nN ?_
  refine sR ?_
  refine R.mvE rfl cA ?_
  refine R.mvE rfl cA ?_
  refine R.quoI rfl rfl rfl oA ?_
  refine R.mulI rfl rfl rfl oA ?_
  refine R.addI rfl rfl rfl oA ?_
  refine R.subI rfl rfl rfl oA ?_
  refine R.asE rfl cA ?_
  refine nN ?_
  refine T.block ?_
  refine T.loop (ι := Nat × Int × Int × (List Int) × Chunk) (fun ⟨kl1, n9l1, nb7l1_0, xPa0l1, cPa0l1⟩ H' L' ds' => (a1 + (a2 - a1) / 4 * 2 + 2 - n9l1).toNat < kl1 ∧ Has L' [[(b7, .cells #[.int .u64 nb7l1_0] 117)], cPa0l1] ∧ OwnS (intE .u64) 43 H' (.slice Aa0 a0.length pa0) xPa0l1 cPa0l1 ∧ a1 + (a2 - a1) / 4 * 2 - 1 ≤ n9l1 ∧ n9l1 ≤ a1 + (a2 - a1) / 4 * 2 + 2 ∧ k_17 a1 a2 kl1 ((n9l1, nb7l1_0, xPa0l1)) = k_17 a1 a2 ((a1 + (a2 - a1) / 4 * 2 + 2 - (((a1 + (((a2 - a1) / 4) * 2)) - 1))).toNat + 1) ((((a1 + (((a2 - a1) / 4) * 2)) - 1), (a2 - a1), a0))) (fun ⟨kl1, n9l1, nb7l1_0, xPa0l1, cPa0l1⟩ => [(0, .slice Aa0 a0.length pa0), (1, .int .i64 a1), (6, .int .i64 (a2 - a1)), (7, .pointer (some ⟨b7, 0, none⟩)), (8, .int .u64 (k_26 ((a2 - a1)))), (9, .int .i64 n9l1)]) (fun ⟨kl1, n9l1, nb7l1_0, xPa0l1, cPa0l1⟩ => kl1) (((a1 + (a2 - a1) / 4 * 2 + 2 - (((a1 + (((a2 - a1) / 4) * 2)) - 1))).toNat + 1), ((a1 + (((a2 - a1) / 4) * 2)) - 1), (a2 - a1), a0, Ca0) ?_ ?_ ?_
  ·exact ⟨oA, (Has.cons .hd (Has.cons .hd Has.nil)), ha0, bA, bA, (by rfl)⟩
  ·exact ⟨rfl, rfl, rfl, rfl, rfl, rfl, trivial⟩
  intro ⟨kl1, n9l1, nb7l1_0, xPa0l1, cPa0l1⟩ σ_l1 H_l1 L_l1 ds_l1 s_l1 hI_l1
  obtain ⟨hkl1, hI_l1⟩ := hI_l1
  obtain ⟨ml1, rfl⟩ : ∃ m, kl1 = m + 1 := ⟨kl1 - 1, by omega⟩
  obtain ⟨hLl1, wPa0l1, hBl1_0, hBl1_1, hQl1⟩ := hI_l1
  have nPa0l1_ := OwnS.len wPa0l1
  refine T.has hLl1 ?_
  refine T.seq ?_
  refine sR ?_
  refine R.mvE rfl cA ?_
  refine R.mvE rfl cA ?_
  refine R.mvE rfl cA ?_
  refine R.quoI rfl rfl rfl oA ?_
  refine R.mulI rfl rfl rfl oA ?_
  refine R.addI rfl rfl rfl oA ?_
  refine R.addI rfl rfl rfl oA ?_
  refine R.leq rfl rfl rfl ?_
  refine nN ?_
  refine T.condD rfl (fun c33 => ?_) (fun c33 => ?_)
  ·refine T.set 33 (.bool true) (congrArg Value.bool (decide_eq_true c33)) ?_
   refine T.skip (Post.thnN ?_)
   refine T.seq ?_
   refine T.block ?_
   refine sR ?_
   obtain ⟨r36, er36⟩ : ∃ r, r = (k_7b nb7l1_0) := ⟨_, rfl⟩
   refine TL.call [true] rfl rfl rfl (_slices_xorshift__Next_c _ _ nb7l1_0) ?_
   intro v36 H36 L36 s36 q36
   rw [← er36] at q36
   obtain ⟨rfl, rfl⟩ := q36
   have hb36 := band_np (a2 - a1) r36.1 oA
   refine R.mvE rfl cA ?_
   refine R.sub rfl rfl rfl ?_
   refine R.and rfl rfl rfl ?_
   refine R.convI Tryz.underlying86 Tryz.underlying3 rfl rfl oA ?_
   refine R.asE rfl cA ?_
   refine nN ?_
   refine T.seq ?_
   refine sR ?_
   refine R.mvE rfl cA ?_
   refine R.mvE rfl cA ?_
   refine R.geq rfl rfl rfl ?_
   refine nN ?_
   refine T.cutK (ι := Int) (fun n10c2 H' L' ds' => Has L' [[(b7, .cells #[.int .u64 (r36.2)] 117)], cPa0l1] ∧ 0 ≤ n10c2 ∧ n10c2 < a2 - a1 ∧ (if ((a2 - a1) : Int) ≤ (band .u64 r36.1 (IntKind.u64.wrap ((k_26 ((a2 - a1))) - 1))) then (((band .u64 r36.1 (IntKind.u64.wrap ((k_26 ((a2 - a1))) - 1))) - (a2 - a1))) else ((band .u64 r36.1 (IntKind.u64.wrap ((k_26 ((a2 - a1))) - 1)))) : Int) = n10c2) (fun n10c2 => [(0, .slice Aa0 a0.length pa0), (1, .int .i64 a1), (6, .int .i64 (a2 - a1)), (7, .pointer (some ⟨b7, 0, none⟩)), (8, .int .u64 (k_26 ((a2 - a1)))), (9, .int .i64 n9l1), (10, .int .i64 n10c2)]) ?_ ?_
   ·refine T.condD rfl (fun c43 => ?_) (fun c43 => ?_)
    ·refine T.set 43 (.bool true) (congrArg Value.bool (decide_eq_true c43)) ?_
     refine T.region ?_
     refine R.mvE rfl cA ?_
     refine R.mvE rfl cA ?_
     refine R.subI rfl rfl rfl oA ?_
     refine R.asE rfl cA ?_
     refine nN ?_
     exact ⟨((band .u64 r36.1 (IntKind.u64.wrap ((k_26 ((a2 - a1))) - 1))) - (a2 - a1)), HLe.refl _, ⟨(Has.cons .hd (Has.cons .hd Has.nil)), bA, bA, (by rw [if_pos c43])⟩, rfl, rfl, rfl, rfl, rfl, rfl, rfl, trivial⟩
    refine T.set 43 (.bool false) (congrArg Value.bool (decide_eq_false c43)) ?_
    refine T.skip (Post.thnN ?_)
    exact ⟨(band .u64 r36.1 (IntKind.u64.wrap ((k_26 ((a2 - a1))) - 1))), HLe.refl _, ⟨(Has.cons .hd (Has.cons .hd Has.nil)), bA, bA, (by rw [if_neg c43])⟩, rfl, rfl, rfl, rfl, rfl, rfl, rfl, trivial⟩
   intro n10c2 σ_c2 H_c2 L_c2 ds_c2 s_c2 hI_c2
   obtain ⟨hLc2, hBc2_0, hBc2_1, hTc2⟩ := hI_c2
   refine T.has hLc2 ?_
   refine T.draw k_2b kA ?_
   refine vM 0 [1, 2, 3, 4, 5, 6, 7, 8, 9, 10, 11, 12, 13, 14, 15, 16, 17, 18, 19] rfl rfl cA ?_
   refine vM 1 [2, 3, 4, 5, 6, 7, 8, 9, 10, 11, 12, 13, 14, 15, 16, 17, 18, 19] rfl rfl cA ?_
   refine vM 2 [3, 4, 5, 6, 7, 8, 9, 10, 11, 12, 13, 14, 15, 16, 17, 18, 19] rfl rfl cA ?_
   refine vM 3 [4, 5, 6, 7, 8, 9, 10, 11, 12, 13, 14, 15, 16, 17, 18, 19] rfl rfl cA ?_
   refine vM 4 [5, 6, 7, 8, 9, 10, 11, 12, 13, 14, 15, 16, 17, 18, 19] rfl rfl cA ?_
   refine vA 5 [6, 7, 8, 9, 10, 11, 12, 13, 14, 15, 16, 17, 18, 19] rfl (fun _ _ h_ => R.addI rfl rfl rfl oA (TL.nil h_)) ?_
   refine vM 6 [7, 8, 9, 10, 11, 12, 13, 14, 15, 16, 17, 18, 19] rfl rfl cA ?_
   refine vM 7 [8, 9, 10, 11, 12, 13, 14, 15, 16, 17, 18, 19] rfl rfl cA ?_
   refine vM 8 [9, 10, 11, 12, 13, 14, 15, 16, 17, 18, 19] rfl rfl cA ?_
   refine vA 9 [10, 11, 12, 13, 14, 15, 16, 17, 18, 19] rfl (fun _ _ h_ => R.addI rfl rfl rfl oA (TL.nil h_)) ?_
   have hl57 : ((a1 + n10c2)).toNat < a0.length := bA
   obtain ⟨y57, e57, h57⟩ : ∃ y, y = (xPa0l1.getD (((a1 + n10c2)).toNat) (0 : Int)) ∧ xPa0l1[((a1 + n10c2)).toNat]? = some y := ⟨_, rfl, k_6 (by first | exact hl57 | simpa using hl57 | (simp only [List.length_set]; omega) | omega | (rw [(k_1 _).length_eq]; exact hl57))⟩
   obtain ⟨b57, u57, cs57, l57, f57, j57, i57, g57, k57⟩ := OwnS.elem (OwnS.mono wPa0l1 (s36.trans s_c2)) h57
   obtain rfl : l57 = [.int .u64 y57] := g57
   refine vA 10 [11, 12, 13, 14, 15, 16, 17, 18, 19] rfl (fun _ _ h_ => R.ixp (sz := ((intE .u64)).size) Tryz.underlying30 Tryz.sizeOf43 rfl rfl rfl bA i57 (TL.nil h_)) ?_
   refine vM 12 [11, 13, 14, 15, 16, 17, 18, 19] rfl rfl cA ?_
   refine vM 13 [11, 14, 15, 16, 17, 18, 19] rfl rfl cA ?_
   have hl61 : n9l1.toNat < a0.length := bA
   obtain ⟨y61, e61, h61⟩ : ∃ y, y = (xPa0l1.getD n9l1.toNat (0 : Int)) ∧ xPa0l1[n9l1.toNat]? = some y := ⟨_, rfl, k_6 (by first | exact hl61 | simpa using hl61 | (simp only [List.length_set]; omega) | omega | (rw [(k_1 _).length_eq]; exact hl61))⟩
   obtain ⟨b61, u61, cs61, l61, f61, j61, i61, g61, k61⟩ := OwnS.elem (OwnS.mono wPa0l1 (s36.trans s_c2)) h61
   obtain rfl : l61 = [.int .u64 y61] := g61
   refine vA 14 [11, 15, 16, 17, 18, 19] rfl (fun _ _ h_ => R.ixp (sz := ((intE .u64)).size) Tryz.underlying30 Tryz.sizeOf43 rfl rfl rfl bA i61 (TL.nil h_)) ?_
   refine Plan.s2 11 15 [15, 16, 17, 18, 19] [11, 16, 17, 18, 19] kA kA kA rfl rfl ?_ ?_
   ·refine R.ld Tryz.isAgg43 rfl rfl (by rw [← f57]; exact (.tl .hd)) (k57 0 _ rfl) ?_
    refine TL.nil (Plan.e1 (HLe.refl _) ?_)
    refine Plan.s1 15 [16, 17, 18, 19] kA kA rfl ?_
    refine R.ld Tryz.isAgg43 rfl rfl (by rw [← f61]; exact (.tl .hd)) (k61 0 _ rfl) ?_
    refine TL.nil (Plan.e1 (HLe.refl _) ?_)
    have hl63 : n9l1.toNat < a0.length := bA
    obtain ⟨y63, e63, h63⟩ : ∃ y, y = (xPa0l1.getD n9l1.toNat (0 : Int)) ∧ xPa0l1[n9l1.toNat]? = some y := ⟨_, rfl, k_6 (by first | exact hl63 | simpa using hl63 | (simp only [List.length_set]; omega) | omega | (rw [(k_1 _).length_eq]; exact hl63))⟩
    obtain ⟨b63, u63, cs63, l63, f63, j63, i63, g63, k63⟩ := OwnS.elem (OwnS.mono wPa0l1 (s36.trans s_c2)) h63
    obtain rfl : l63 = [.int .u64 y63] := g63
    refine vA 16 [17, 18, 19] rfl (fun _ _ h_ => R.ixp (sz := ((intE .u64)).size) Tryz.underlying30 Tryz.sizeOf43 rfl rfl rfl bA i63 (TL.nil h_)) ?_
    refine Plan.s1 17 [18, 19] kA kA rfl ?_
    refine R.stEF (E := (intE .u64)) (e := 43) (v := (.slice Aa0 a0.length pa0)) (m := [.int .u64 y57]) (o := 0) (y := y63) (y' := y57) (j := n9l1.toNat) Tryz.sizeOf43 rfl (OwnS.mono wPa0l1 (s36.trans s_c2)) (.tl .hd) i63 rfl rfl (cells1 rfl) (k_20 rfl) h63 (by show 0 + 1 ≤ 1; decide) (fun l hl => by have e0 : l = [.int .u64 y63] := hl; subst e0; exact rfl) ?_
    intro cst13 wst13
    refine TL.nil (Plan.e0 (HLe.refl _) ?_)
    have hl64 : ((a1 + n10c2)).toNat < a0.length := bA
    obtain ⟨y64, e64, h64⟩ : ∃ y, y = (((xPa0l1.set n9l1.toNat y57)).getD (((a1 + n10c2)).toNat) (0 : Int)) ∧ ((xPa0l1.set n9l1.toNat y57))[((a1 + n10c2)).toNat]? = some y := ⟨_, rfl, k_6 (by first | exact hl64 | simpa using hl64 | (simp only [List.length_set]; omega) | omega | (rw [(k_1 _).length_eq]; exact hl64))⟩
    obtain ⟨b64, u64, cs64, l64, f64, j64, i64, g64, k64⟩ := OwnS.elem wst13 h64
    obtain rfl : l64 = [.int .u64 y64] := g64
    refine vA 18 [19] rfl (fun _ _ h_ => R.ixp (sz := ((intE .u64)).size) Tryz.underlying30 Tryz.sizeOf43 rfl rfl rfl bA i64 (TL.nil h_)) ?_
    refine Plan.s1 19 [] kA kA rfl ?_
    refine R.stEF (E := (intE .u64)) (e := 43) (v := (.slice Aa0 a0.length pa0)) (m := [.int .u64 y61]) (o := 0) (y := y64) (y' := y61) (j := ((a1 + n10c2)).toNat) Tryz.sizeOf43 rfl wst13 .hd i64 rfl rfl (cells1 rfl) (k_20 rfl) h64 (by show 0 + 1 ≤ 1; decide) (fun l hl => by have e0 : l = [.int .u64 y64] := hl; subst e0; exact rfl) ?_
    intro cst14 wst14
    refine TL.nil (Plan.e0 (HLe.refl _) ?_)
    refine Plan.done (Post.blkN ?_)
    refine id (Post.thnN ?_)
    refine T.region ?_
    refine R.mvE rfl cA ?_
    refine R.addI rfl rfl rfl oA ?_
    refine R.asE rfl cA ?_
    refine nN ?_
    exact ⟨(ml1, (n9l1 + 1), r36.2, (((xPa0l1.set n9l1.toNat y57)).set (((a1 + n10c2)).toNat) y61), cst14), (s_l1.trans (s36.trans s_c2)), ⟨(by first | omega | (simp; omega) | (simp at *; omega)), (Has.cons (.tl .hd) (Has.cons .hd Has.nil)), wst14, bA, bA, (by subst e64; subst e63; subst e61; subst e57; subst er36; rw [← hQl1, k_17]; rw [if_pos c33, LR.seq_go, hTc2, LR.seq_go])⟩, by show ml1 < ml1 + 1; omega, rfl, rfl, rfl, rfl, rfl, rfl, trivial⟩
   refine R.ld Tryz.isAgg43 rfl rfl (by rw [← f61]; exact (.tl .hd)) (k61 0 _ rfl) ?_
   refine TL.nil (Plan.e1 (HLe.refl _) ?_)
   refine Plan.s1 11 [16, 17, 18, 19] kA kA rfl ?_
   refine R.ld Tryz.isAgg43 rfl rfl (by rw [← f57]; exact (.tl .hd)) (k57 0 _ rfl) ?_
   refine TL.nil (Plan.e1 (HLe.refl _) ?_)
   have hl63 : n9l1.toNat < a0.length := bA
   obtain ⟨y63, e63, h63⟩ : ∃ y, y = (xPa0l1.getD n9l1.toNat (0 : Int)) ∧ xPa0l1[n9l1.toNat]? = some y := ⟨_, rfl, k_6 (by first | exact hl63 | simpa using hl63 | (simp only [List.length_set]; omega) | omega | (rw [(k_1 _).length_eq]; exact hl63))⟩
   obtain ⟨b63, u63, cs63, l63, f63, j63, i63, g63, k63⟩ := OwnS.elem (OwnS.mono wPa0l1 (s36.trans s_c2)) h63
   obtain rfl : l63 = [.int .u64 y63] := g63
   refine vA 16 [17, 18, 19] rfl (fun _ _ h_ => R.ixp (sz := ((intE .u64)).size) Tryz.underlying30 Tryz.sizeOf43 rfl rfl rfl bA i63 (TL.nil h_)) ?_
   refine Plan.s1 17 [18, 19] kA kA rfl ?_
   refine R.stEF (E := (intE .u64)) (e := 43) (v := (.slice Aa0 a0.length pa0)) (m := [.int .u64 y57]) (o := 0) (y := y63) (y' := y57) (j := n9l1.toNat) Tryz.sizeOf43 rfl (OwnS.mono wPa0l1 (s36.trans s_c2)) (.tl .hd) i63 rfl rfl (cells1 rfl) (k_20 rfl) h63 (by show 0 + 1 ≤ 1; decide) (fun l hl => by have e0 : l = [.int .u64 y63] := hl; subst e0; exact rfl) ?_
   intro cst15 wst15
   refine TL.nil (Plan.e0 (HLe.refl _) ?_)
   have hl64 : ((a1 + n10c2)).toNat < a0.length := bA
   obtain ⟨y64, e64, h64⟩ : ∃ y, y = (((xPa0l1.set n9l1.toNat y57)).getD (((a1 + n10c2)).toNat) (0 : Int)) ∧ ((xPa0l1.set n9l1.toNat y57))[((a1 + n10c2)).toNat]? = some y := ⟨_, rfl, k_6 (by first | exact hl64 | simpa using hl64 | (simp only [List.length_set]; omega) | omega | (rw [(k_1 _).length_eq]; exact hl64))⟩
   obtain ⟨b64, u64, cs64, l64, f64, j64, i64, g64, k64⟩ := OwnS.elem wst15 h64
   obtain rfl : l64 = [.int .u64 y64] := g64
   refine vA 18 [19] rfl (fun _ _ h_ => R.ixp (sz := ((intE .u64)).size) Tryz.underlying30 Tryz.sizeOf43 rfl rfl rfl bA i64 (TL.nil h_)) ?_
   refine Plan.s1 19 [] kA kA rfl ?_
   refine R.stEF (E := (intE .u64)) (e := 43) (v := (.slice Aa0 a0.length pa0)) (m := [.int .u64 y61]) (o := 0) (y := y64) (y' := y61) (j := ((a1 + n10c2)).toNat) Tryz.sizeOf43 rfl wst15 .hd i64 rfl rfl (cells1 rfl) (k_20 rfl) h64 (by show 0 + 1 ≤ 1; decide) (fun l hl => by have e0 : l = [.int .u64 y64] := hl; subst e0; exact rfl) ?_
   intro cst16 wst16
   refine TL.nil (Plan.e0 (HLe.refl _) ?_)
   refine Plan.done (Post.blkN ?_)
   refine id (Post.thnN ?_)
   refine T.region ?_
   refine R.mvE rfl cA ?_
   refine R.addI rfl rfl rfl oA ?_
   refine R.asE rfl cA ?_
   refine nN ?_
   exact ⟨(ml1, (n9l1 + 1), r36.2, (((xPa0l1.set n9l1.toNat y57)).set (((a1 + n10c2)).toNat) y61), cst16), (s_l1.trans (s36.trans s_c2)), ⟨(by first | omega | (simp; omega) | (simp at *; omega)), (Has.cons (.tl .hd) (Has.cons .hd Has.nil)), wst16, bA, bA, (by subst e64; subst e63; subst e61; subst e57; subst er36; rw [← hQl1, k_17]; rw [if_pos c33, LR.seq_go, hTc2, LR.seq_go])⟩, by show ml1 < ml1 + 1; omega, rfl, rfl, rfl, rfl, rfl, rfl, trivial⟩
  refine T.set 33 (.bool false) (congrArg Value.bool (decide_eq_false c33)) ?_
  refine T.exit (Post.thnE (Post.thnE (Post.blkX ?_)))
  have hEl1 : k_17 a1 a2 ((a1 + (a2 - a1) / 4 * 2 + 2 - (((a1 + (((a2 - a1) / 4) * 2)) - 1))).toNat + 1) ((((a1 + (((a2 - a1) / 4) * 2)) - 1), (a2 - a1), a0)) = (n9l1, nb7l1_0, xPa0l1) := (by rw [← hQl1, k_17]; rw [if_neg c33])
  refine id ?_
  have hM : k_19 a0 a1 a2 = xPa0l1 := by rw [k_19, if_pos c15, hEl1, LR.seq_go]
  exact fin0N [cPa0l1] rfl (List.Sublist.cons _ (List.Sublist.cons_cons _ (List.nil_sublist _))) ⟨cPa0l1, by first | rw [hM] | rfl, by first | rw [hM] | rfl, by rw [hM]; exact wPa0l1⟩
 refine T.set 15 (.bool false) (congrArg Value.bool (decide_eq_false c15)) ?_
 refine T.skip ?_
 have hM : k_19 a0 a1 a2 = a0 := by rw [k_19, if_neg c15]
 exact fin0N [Ca0] rfl (List.Sublist.cons_cons _ (List.nil_sublist _)) ⟨Ca0, by first | rw [hM] | rfl, by first | rw [hM] | rfl, by rw [hM]; exact ha0⟩
end Go.SX

set_option linter.unusedVariables false
set_option linter.unusedSimpArgs false
namespace Go.SX
open Go
theorem so_scan2 (b : Nat) (xs : List Int) : ∀ (k i m : Nat), b - i ≤ k → k < m → 1 ≤ i → k_1a (b : Int) xs m (i : Int) = ((Sort.scanSorted Sort.ltInt xs.toArray b i : Nat) : Int)
  | k, i, 0, _, h, _ => by omega
  | k, i, m + 1, h1, h2, h3 => by
    simp only [k_1a, LR.seq_go, so_less, Int.toNat_natCast]
    rw [Sort.scanSorted, so_get, so_get, show ((i : Int) - 1).toNat = i - 1 by omega]
    rw [so_ifd, so_lt]
    cases hb : (decide (i < b) && !Sort.ltInt (xs.getD i 0) (xs.getD (i - 1) 0)) with
    | false => rfl
    | true =>
      have : i < b := of_decide_eq_true (Bool.and_eq_true_iff.1 hb).1
      rw [if_pos rfl, if_pos rfl]
      cases k with
      | zero => omega
      | succ k => exact so_scan2 b xs k (i + 1) m (by omega) (by omega) (by omega)
theorem so_scan2_ge (lt : Int → Int → Bool) (d : Array Int) (b : Nat) : ∀ (k i : Nat), b - i ≤ k → i ≤ Sort.scanSorted lt d b i ∧ (i ≤ b → Sort.scanSorted lt d b i ≤ b)
  | k, i, h => by
    rw [Sort.scanSorted]
    by_cases hi : (decide (i < b) && !lt d[i]! d[i - 1]!) = true
    · rw [if_pos hi]
      have : i < b := of_decide_eq_true (Bool.and_eq_true_iff.1 hi).1
      cases k with
      | zero => omega
      | succ k => have := so_scan2_ge lt d b k (i + 1) (by omega); omega
    · rw [if_neg hi]; omega
theorem so_down : ∀ (j m : Nat) (xs : List Int), j < m → (k_a m ((j : Int), xs)).2 = (Sort.shiftDown Sort.ltInt j xs.toArray).toList
  | j, 0, xs, h => by omega
  | 0, m + 1, xs, h => by
    simp only [k_a]
    rw [if_neg (by omega), Sort.shiftDown]
  | j + 1, m + 1, xs, h => by
    simp only [k_a, LR.seq_go, so_less, Int.toNat_natCast, tn1, tn1i]
    rw [if_pos (by omega), Sort.shiftDown, so_get, so_get, so_swp]
    cases Sort.ltInt (xs.getD (j + 1) 0) (xs.getD j 0) with
    | false => rfl
    | true => rw [if_neg (by decide), if_neg (by decide)]; exact so_down j m (sw xs (j + 1) j) (by omega)
theorem so_up (b : Nat) : ∀ (k j m : Nat) (xs : List Int), b - j ≤ k → k < m → 1 ≤ j → (k_10 (b : Int) m ((j : Int), xs)).2 = (Sort.shiftUp Sort.ltInt b j xs.toArray).toList
  | k, j, 0, xs, _, h, _ => by omega
  | k, j, m + 1, xs, h1, h2, h3 => by
    simp only [k_10, LR.seq_go, so_less, Int.toNat_natCast]
    rw [Sort.shiftUp, show ((j : Int) - 1).toNat = j - 1 by omega, so_get, so_get, so_swp]
    by_cases h : j < b
    · rw [if_pos (by omega), if_pos h]
      cases Sort.ltInt (xs.getD j 0) (xs.getD (j - 1) 0) with
      | false => rfl
      | true =>
        rw [if_neg (by decide), if_neg (by decide)]
        cases k with
        | zero => omega
        | succ k => exact so_up b k (j + 1) m (sw xs j (j - 1)) (by omega) (by omega) (by omega)
    · rw [if_neg (by omega), if_neg h]
def pairL (p : Array Int × Bool) : Bool × List Int := (p.2, p.1.toList)
theorem so_part_l (a b : Nat) (hab : a < b) : ∀ (s m i : Nat) (xs : List Int), s < m → a + 1 ≤ i → i ≤ b → s ≤ 5 → LR.on (k_4 (a : Int) (b : Int) m ((i : Int), 5 - (s : Int), xs)) (fun r => r) (fun o => (false, o.2.2)) = pairL (Sort.partialIns Sort.ltInt a b s i xs.toArray)
  | s, 0, i, xs, h, _, _, _ => by omega
  | 0, m + 1, i, xs, _, _, _, _ => by
    simp only [k_4]
    rw [if_neg (by omega), LR.on_go, Sort.partialIns]; rfl
  | s + 1, m + 1, i, xs, h1, h2, h3, h4 => by
    simp only [k_4, LR.seq_go]
    rw [if_pos (by omega), Sort.partialIns, so_scan2 b xs (b - i) i _ (Nat.le_refl _) (by omega) (by omega)]
    have hg := so_scan2_ge Sort.ltInt xs.toArray b (b - i) i (Nat.le_refl _)
    generalize Sort.scanSorted Sort.ltInt xs.toArray b i = i' at *
    simp only
    by_cases e : i' = b
    · rw [if_pos (by omega), if_pos e, LR.on_ret]; rfl
    rw [if_neg (by omega), if_neg e]
    by_cases h50 : b - a < 50
    · rw [if_pos (by omega), if_pos h50, LR.on_ret]; rfl
    rw [if_neg (by omega), if_neg h50, Int.toNat_natCast, show ((i' : Int) - 1).toNat = i' - 1 by omega, so_swp]
    rw [show (xs.set i' (xs.getD (i' - 1) 0)).set (i' - 1) (xs.getD i' 0) = sw xs i' (i' - 1) from rfl]
    have e1 : (if (2 : Int) ≤ (i' : Int) - (a : Int) then (k_a (i' - 1 + 1) ((i' : Int) - 1, sw xs i' (i' - 1))).2 else sw xs i' (i' - 1)) = (if i' - a ≥ 2 then Sort.shiftDown Sort.ltInt (i' - 1) (sw xs i' (i' - 1)).toArray else (sw xs i' (i' - 1)).toArray).toList := by
      by_cases h : i' - a ≥ 2
      · rw [if_pos (by omega), if_pos h, show (i' : Int) - 1 = ((i' - 1 : Nat) : Int) by omega, so_down _ _ _ (by omega)]
      · rw [if_neg (by omega), if_neg h]
    rw [e1]
    generalize (if i' - a ≥ 2 then Sort.shiftDown Sort.ltInt (i' - 1) (sw xs i' (i' - 1)).toArray else (sw xs i' (i' - 1)).toArray) = d
    by_cases hb : b - i' ≥ 2
    · rw [if_pos (by omega), if_pos hb, show (i' : Int) + 1 = ((i' + 1 : Nat) : Int) by omega, so_up b (b - (i' + 1)) (i' + 1) _ _ (Nat.le_refl _) (by omega) (by omega), Array.toArray_toList, show (5 : Int) - ((s + 1 : Nat) : Int) + 1 = 5 - (s : Int) by omega]
      have := so_part_l a b hab s m i' (Sort.shiftUp Sort.ltInt b (i' + 1) d).toList (by omega) (by omega) (by omega) (by omega)
      rw [Array.toArray_toList] at this
      exact this
    · rw [if_neg (by omega), if_neg hb, show (5 : Int) - ((s + 1 : Nat) : Int) + 1 = 5 - (s : Int) by omega]
      have := so_part_l a b hab s m i' d.toList (by omega) (by omega) (by omega) (by omega)
      rw [Array.toArray_toList] at this
      exact this
theorem so_part (xs : List Int) (a b : Nat) (hab : a < b) : k_e xs (a : Int) (b : Int) = pairL (Sort.partialInsertionSort Sort.ltInt xs.toArray a b) := by
  unfold k_e Sort.partialInsertionSort
  exact so_part_l a b hab 5 _ (a + 1) xs (by decide) (Nat.le_refl _) (by omega) (by decide)
/-- the two scans -/
theorem scanUp_le (p : Int → Bool) (d : Array Int) (j : Nat) : ∀ (k i : Nat), j + 1 - i ≤ k → i ≤ Sort.scanUp p d j i ∧ Sort.scanUp p d j i ≤ max i (j + 1)
  | k, i, h => by
    rw [Sort.scanUp]
    by_cases hi : (decide (i ≤ j) && p d[i]!) = true
    · rw [if_pos hi]
      have : i ≤ j := of_decide_eq_true (Bool.and_eq_true_iff.1 hi).1
      cases k with
      | zero => omega
      | succ k => have := scanUp_le p d j k (i + 1) (by omega); omega
    · rw [if_neg hi]; omega
theorem scanDown_le (p : Int → Bool) (d : Array Int) (i : Nat) (hi : 1 ≤ i) : ∀ (j : Nat), Sort.scanDown p d i j ≤ j ∧ (i - 1 ≤ j → i - 1 ≤ Sort.scanDown p d i j)
  | 0 => by rw [Sort.scanDown]; omega
  | j + 1 => by
    rw [Sort.scanDown]
    split
    · rename_i h
      have h1 : i ≤ j + 1 := of_decide_eq_true (Bool.and_eq_true_iff.1 h).1
      have := scanDown_le p d i hi j; omega
    · omega
theorem so_e3 (a j : Nat) (xs : List Int) : ∀ (k i m : Nat), j + 1 - i ≤ k → k < m → k_2f (a : Int) (j : Int) xs m (i : Int) = ((Sort.scanUp (fun x => !Sort.ltInt xs.toArray[a]! x) xs.toArray j i : Nat) : Int)
  | k, i, 0, _, h => by omega
  | k, i, m + 1, h1, h2 => by
    simp only [k_2f, LR.seq_go, so_less, Int.toNat_natCast]
    rw [Sort.scanUp]
    simp only [so_get]
    rw [so_ifd, so_le]
    cases hb : (decide (i ≤ j) && !Sort.ltInt (xs.getD a 0) (xs.getD i 0)) with
    | false => rfl
    | true =>
      have : i ≤ j := of_decide_eq_true (Bool.and_eq_true_iff.1 hb).1
      rw [if_pos rfl, if_pos rfl]
      cases k with
      | zero => omega
      | succ k => have := so_e3 a j xs k (i + 1) m (by omega) (by omega); simp only [so_get] at this; exact this
theorem so_e5 (a i : Nat) (hi : 1 ≤ i) (xs : List Int) : ∀ (j m : Nat), j + 1 - i < m → k_28 (a : Int) (i : Int) xs m (j : Int) = ((Sort.scanDown (fun x => Sort.ltInt xs.toArray[a]! x) xs.toArray i j : Nat) : Int)
  | j, 0, h => by omega
  | 0, m + 1, h => by
    simp only [k_28, LR.seq_go]
    rw [so_ifd, show decide ((i : Int) ≤ ((0 : Nat) : Int)) = false from decide_eq_false (by omega), Bool.false_and, if_neg Bool.false_ne_true, Sort.scanDown]
  | j + 1, m + 1, h => by
    simp only [k_28, LR.seq_go, so_less, Int.toNat_natCast, tn1i]
    rw [Sort.scanDown]
    simp only [so_get]
    rw [so_ifd, so_le]
    cases hb : (decide (i ≤ j + 1) && Sort.ltInt (xs.getD a 0) (xs.getD (j + 1) 0)) with
    | false => rfl
    | true =>
      have hij : i ≤ j + 1 := of_decide_eq_true (Bool.and_eq_true_iff.1 hb).1
      rw [if_pos rfl, if_pos rfl]
      have := so_e5 a i hi xs j m (by omega); simp only [so_get] at this; exact this
def pairI2 (p : Nat × Array Int) : Int × List Int := ((p.1 : Int), p.2.toList)
theorem so_e2 (a : Nat) : ∀ (k i j m : Nat) (xs : List Int), j + 1 - i ≤ k → k < m → a + 1 ≤ i → i - 1 ≤ j + 1 → a ≤ j → k_29 (a : Int) m ((i : Int), (j : Int), xs) = pairI2 (Sort.partEqLoop Sort.ltInt a i j xs.toArray)
  | k, i, j, 0, xs, _, h, _, _, _ => by omega
  | k, i, j, m + 1, xs, h1, h2, h3, h4, h5 => by
    simp only [k_29, LR.seq_go]
    rw [Sort.partEqLoop, so_e3 a j xs (j + 1 - i) i _ (Nat.le_refl _) (by omega)]
    have hu := scanUp_le (fun x => !Sort.ltInt xs.toArray[a]! x) xs.toArray j (j + 1 - i) i (Nat.le_refl _)
    generalize hi2 : Sort.scanUp (fun x => !Sort.ltInt xs.toArray[a]! x) xs.toArray j i = i2 at *
    rw [so_e5 a i2 (by omega) xs j _ (by omega)]
    have hd := scanDown_le (fun x => Sort.ltInt xs.toArray[a]! x) xs.toArray i2 (by omega) j
    generalize hj2 : Sort.scanDown (fun x => Sort.ltInt xs.toArray[a]! x) xs.toArray i2 j = j2 at *
    by_cases hc : i2 > j2
    · rw [if_pos (by omega), if_pos hc]; rfl
    · rw [if_neg (by omega), if_neg hc, dif_pos (by omega), so_swp]
      simp only [Int.toNat_natCast]
      rw [show (j2 : Int) - 1 = ((j2 - 1 : Nat) : Int) by omega]
      cases k with
      | zero => omega
      | succ k => exact so_e2 a k (i2 + 1) (j2 - 1) m (sw xs i2 j2) (by omega) (by omega) (by omega) (by omega) (by omega)
theorem so_pe (xs : List Int) (a b p : Nat) (hab : a < b) : k_23 xs (a : Int) (b : Int) (p : Int) = pairI2 (Sort.partitionEqual Sort.ltInt xs.toArray a b p) := by
  unfold k_23 Sort.partitionEqual
  simp only [LR.seq_go, Int.toNat_natCast]
  rw [so_swp, show (b : Int) - 1 = ((b - 1 : Nat) : Int) by omega]
  exact so_e2 a (b - 1 + 1 - (a + 1)) (a + 1) (b - 1) _ (sw xs a p) (Nat.le_refl _) (by omega) (by omega) (by omega) (by omega)
theorem so_p8 (a j : Nat) (xs : List Int) : ∀ (k i m : Nat), j + 1 - i ≤ k → k < m → k_48 (a : Int) (j : Int) xs m (i : Int) = ((Sort.scanUp (fun x => Sort.ltInt x xs.toArray[a]!) xs.toArray j i : Nat) : Int)
  | k, i, 0, _, h => by omega
  | k, i, m + 1, h1, h2 => by
    simp only [k_48, LR.seq_go, so_less, Int.toNat_natCast]
    rw [Sort.scanUp]
    simp only [so_get]
    rw [so_ifd, so_le]
    cases hb : (decide (i ≤ j) && Sort.ltInt (xs.getD i 0) (xs.getD a 0)) with
    | false => rfl
    | true =>
      have : i ≤ j := of_decide_eq_true (Bool.and_eq_true_iff.1 hb).1
      rw [if_pos rfl, if_pos rfl]
      cases k with
      | zero => omega
      | succ k => have := so_p8 a j xs k (i + 1) m (by omega) (by omega); simp only [so_get] at this; exact this
theorem so_p10 (a i : Nat) (hi : 1 ≤ i) (xs : List Int) : ∀ (j m : Nat), j + 1 - i < m → k_33 (a : Int) (i : Int) xs m (j : Int) = ((Sort.scanDown (fun x => !Sort.ltInt x xs.toArray[a]!) xs.toArray i j : Nat) : Int)
  | j, 0, h => by omega
  | 0, m + 1, h => by
    simp only [k_33, LR.seq_go]
    rw [so_ifd, show decide ((i : Int) ≤ ((0 : Nat) : Int)) = false from decide_eq_false (by omega), Bool.false_and, if_neg Bool.false_ne_true, Sort.scanDown]
  | j + 1, m + 1, h => by
    simp only [k_33, LR.seq_go, so_less, Int.toNat_natCast, tn1i]
    rw [Sort.scanDown]
    simp only [so_get]
    rw [so_ifd, so_le]
    cases hb : (decide (i ≤ j + 1) && !Sort.ltInt (xs.getD (j + 1) 0) (xs.getD a 0)) with
    | false => rfl
    | true =>
      have hij : i ≤ j + 1 := of_decide_eq_true (Bool.and_eq_true_iff.1 hb).1
      rw [if_pos rfl, if_pos rfl]
      have := so_p10 a i hi xs j m (by omega); simp only [so_get] at this; exact this
theorem so_p2 (a b : Nat) (hb0 : 1 ≤ b) (xs : List Int) : ∀ (k i m : Nat), b - 1 + 1 - i ≤ k → k < m → k_49 (a : Int) (b : Int) xs m (i : Int) = ((Sort.scanUp (fun x => Sort.ltInt x xs.toArray[a]!) xs.toArray (b - 1) i : Nat) : Int)
  | k, i, 0, _, h => by omega
  | k, i, m + 1, h1, h2 => by
    simp only [k_49, LR.seq_go, so_less, Int.toNat_natCast]
    rw [Sort.scanUp]
    simp only [so_get]
    rw [so_ifd, show decide ((i : Int) ≤ (b : Int) - 1) = decide (i ≤ b - 1) by rw [decide_eq_decide]; omega]
    cases hb : (decide (i ≤ b - 1) && Sort.ltInt (xs.getD i 0) (xs.getD a 0)) with
    | false => rfl
    | true =>
      have : i ≤ b - 1 := of_decide_eq_true (Bool.and_eq_true_iff.1 hb).1
      rw [if_pos rfl, if_pos rfl]
      cases k with
      | zero => omega
      | succ k => have := so_p2 a b hb0 xs k (i + 1) m (by omega) (by omega); simp only [so_get] at this; exact this
theorem so_p4 (a i : Nat) (hi : 1 ≤ i) (xs : List Int) : ∀ (j m : Nat), j + 1 - i < m → k_38 (a : Int) (i : Int) xs m (j : Int) = ((Sort.scanDown (fun x => !Sort.ltInt x xs.toArray[a]!) xs.toArray i j : Nat) : Int)
  | j, 0, h => by omega
  | 0, m + 1, h => by
    simp only [k_38, LR.seq_go]
    rw [so_ifd, show decide ((i : Int) ≤ ((0 : Nat) : Int)) = false from decide_eq_false (by omega), Bool.false_and, if_neg Bool.false_ne_true, Sort.scanDown]
  | j + 1, m + 1, h => by
    simp only [k_38, LR.seq_go, so_less, Int.toNat_natCast, tn1i]
    rw [Sort.scanDown]
    simp only [so_get]
    rw [so_ifd, so_le]
    cases hb : (decide (i ≤ j + 1) && !Sort.ltInt (xs.getD (j + 1) 0) (xs.getD a 0)) with
    | false => rfl
    | true =>
      have hij : i ≤ j + 1 := of_decide_eq_true (Bool.and_eq_true_iff.1 hb).1
      rw [if_pos rfl, if_pos rfl]
      have := so_p4 a i hi xs j m (by omega); simp only [so_get] at this; exact this
theorem so_p7 (a : Nat) : ∀ (k i j m : Nat) (xs : List Int), j + 1 - i ≤ k → k < m → a + 1 ≤ i → i - 1 ≤ j + 1 → a ≤ j → k_39 (a : Int) m ((i : Int), (j : Int), xs) = pairI2 (Sort.partLoop Sort.ltInt a i j xs.toArray)
  | k, i, j, 0, xs, _, h, _, _, _ => by omega
  | k, i, j, m + 1, xs, h1, h2, h3, h4, h5 => by
    simp only [k_39, LR.seq_go]
    rw [Sort.partLoop, so_p8 a j xs (j + 1 - i) i _ (Nat.le_refl _) (by omega)]
    have hu := scanUp_le (fun x => Sort.ltInt x xs.toArray[a]!) xs.toArray j (j + 1 - i) i (Nat.le_refl _)
    generalize hi2 : Sort.scanUp (fun x => Sort.ltInt x xs.toArray[a]!) xs.toArray j i = i2 at *
    rw [so_p10 a i2 (by omega) xs j _ (by omega)]
    have hd := scanDown_le (fun x => !Sort.ltInt x xs.toArray[a]!) xs.toArray i2 (by omega) j
    generalize hj2 : Sort.scanDown (fun x => !Sort.ltInt x xs.toArray[a]!) xs.toArray i2 j = j2 at *
    by_cases hc : i2 > j2
    · rw [if_pos (by omega), if_pos hc]; rfl
    · rw [if_neg (by omega), if_neg hc, dif_pos (by omega), so_swp]
      simp only [Int.toNat_natCast]
      rw [show (j2 : Int) - 1 = ((j2 - 1 : Nat) : Int) by omega]
      cases k with
      | zero => omega
      | succ k => exact so_p7 a k (i2 + 1) (j2 - 1) m (sw xs i2 j2) (by omega) (by omega) (by omega) (by omega) (by omega)
def trip (p : Nat × Bool × Array Int) : Int × Bool × List Int := ((p.1 : Int), p.2.1, p.2.2.toList)
theorem so_pp (xs : List Int) (a b p : Nat) (hab : a < b) : k_3 xs (a : Int) (b : Int) (p : Int) = trip (Sort.partition Sort.ltInt xs.toArray a b p) := by
  unfold k_3 Sort.partition
  simp only [LR.seq_go, Int.toNat_natCast]
  rw [so_swp, show (xs.set a (xs.getD p 0)).set p (xs.getD a 0) = sw xs a p from rfl, show (a : Int) + 1 = ((a + 1 : Nat) : Int) by omega, so_p2 a b (by omega) (sw xs a p) (b - 1 + 1 - (a + 1)) (a + 1) _ (Nat.le_refl _) (by omega)]
  have hu := scanUp_le (fun x => Sort.ltInt x (sw xs a p).toArray[a]!) (sw xs a p).toArray (b - 1) (b - 1 + 1 - (a + 1)) (a + 1) (Nat.le_refl _)
  generalize Sort.scanUp (fun x => Sort.ltInt x (sw xs a p).toArray[a]!) (sw xs a p).toArray (b - 1) (a + 1) = i at *
  rw [show (b : Int) - 1 = ((b - 1 : Nat) : Int) by omega, so_p4 a i (by omega) (sw xs a p) (b - 1) _ (by omega)]
  have hd := scanDown_le (fun x => !Sort.ltInt x (sw xs a p).toArray[a]!) (sw xs a p).toArray i (by omega) (b - 1)
  generalize Sort.scanDown (fun x => !Sort.ltInt x (sw xs a p).toArray[a]!) (sw xs a p).toArray i (b - 1) = j at *
  generalize sw xs a p = ys at *
  by_cases hc : i > j
  · rw [if_pos (by omega), if_pos hc, Int.toNat_natCast, so_swp]; rfl
  · rw [if_neg (by omega), if_neg hc, so_swp]
    simp only [Int.toNat_natCast]
    rw [show (ys.set i (ys.getD j 0)).set j (ys.getD i 0) = sw ys i j from rfl, show (j : Int) - 1 = ((j - 1 : Nat) : Int) by omega, show (i : Int) + 1 = ((i + 1 : Nat) : Int) by omega, so_p7 a (j - 1 + 1 - (i + 1)) (i + 1) (j - 1) _ (sw ys i j) (Nat.le_refl _) (by omega) (by omega) (by omega) (by omega)]
    generalize Sort.partLoop Sort.ltInt a (i + 1) (j - 1) (sw ys i j).toArray = r
    obtain ⟨r1, r2⟩ := r
    obtain ⟨zs, rfl⟩ : ∃ zs : List Int, r2 = zs.toArray := ⟨r2.toList, (Array.toArray_toList).symm⟩
    simp only [pairI2, trip, Int.toNat_natCast]
    rw [so_swp]; rfl
end Go.SX

set_option linter.unusedVariables false
set_option linter.unusedSimpArgs false
namespace Go.SX
open Go
theorem so_o2 (xs : List Int) (a b s : Nat) : k_12 xs (a : Int) (b : Int) (s : Int) = (((Sort.order2 Sort.ltInt xs.toArray a b s).1 : Int), ((Sort.order2 Sort.ltInt xs.toArray a b s).2.1 : Int), xs, ((Sort.order2 Sort.ltInt xs.toArray a b s).2.2 : Int)) := by
  unfold k_12 Sort.order2
  rw [LR.seq_go, so_less, Int.toNat_natCast, Int.toNat_natCast, so_get, so_get]
  split <;> rfl
theorem so_med (xs : List Int) (a b c s : Nat) : k_1e xs (a : Int) (b : Int) (c : Int) (s : Int) = (((Sort.median Sort.ltInt xs.toArray a b c s).1 : Int), xs, ((Sort.median Sort.ltInt xs.toArray a b c s).2 : Int)) := by
  unfold k_1e Sort.median
  simp only [LR.seq_go, so_o2]
theorem so_madj (xs : List Int) (a s : Nat) (ha : 1 ≤ a) : k_2 xs (a : Int) (s : Int) = (((Sort.medianAdjacent Sort.ltInt xs.toArray a s).1 : Int), xs, ((Sort.medianAdjacent Sort.ltInt xs.toArray a s).2 : Int)) := by
  unfold k_2 Sort.medianAdjacent
  rw [show (a : Int) - 1 = ((a - 1 : Nat) : Int) by omega, show (a : Int) + 1 = ((a + 1 : Nat) : Int) by omega, LR.seq_go, so_med]
def hintN : Sort.Hint → Int
  | .unknown => 0
  | .increasing => 1
  | .decreasing => 2
theorem so_choose (xs : List Int) (a b : Nat) (hab : a + 12 < b) : k_13 xs (a : Int) (b : Int) = (((Sort.choosePivot Sort.ltInt xs.toArray a b).1 : Int), hintN (Sort.choosePivot Sort.ltInt xs.toArray a b).2, xs) := by
  have key : ∀ (p s : Nat), (if ((s : Nat) : Int) = 0 then (((p : Int), (1 : Int), xs) : Int × Int × List Int) else (if ((s : Nat) : Int) = 12 then ((p : Int), 2, xs) else ((p : Int), 0, xs))) = ((p : Int), hintN (if s = 0 then .increasing else if s = 12 then .decreasing else .unknown), xs) := fun p s => by
    by_cases h0 : s = 0
    · rw [if_pos (by omega), if_pos h0]; rfl
    · rw [if_neg (by omega), if_neg h0]
      by_cases h1 : s = 12
      · rw [if_pos (by omega), if_pos h1]; rfl
      · rw [if_neg (by omega), if_neg h1]; rfl
  unfold k_13 Sort.choosePivot
  rw [if_pos (show (8 : Int) ≤ (b : Int) - (a : Int) by omega)]
  simp only [LR.seq_go]
  rw [if_pos (show b - a ≥ 8 by omega)]
  have e1 : (a : Int) + ((b : Int) - (a : Int)) / 4 * 1 = ((a + (b - a) / 4 * 1 : Nat) : Int) := by omega
  have e2 : (a : Int) + ((b : Int) - (a : Int)) / 4 * 2 = ((a + (b - a) / 4 * 2 : Nat) : Int) := by omega
  have e3 : (a : Int) + ((b : Int) - (a : Int)) / 4 * 3 = ((a + (b - a) / 4 * 3 : Nat) : Int) := by omega
  rw [e1, e2, e3]
  by_cases h50 : b - a ≥ 50
  · rw [if_pos (show (50 : Int) ≤ (b : Int) - (a : Int) by omega), if_pos h50]
    rw [show (0 : Int) = ((0 : Nat) : Int) from rfl, so_madj _ _ _ (by omega)]
    simp only
    rw [so_madj _ _ _ (by omega)]
    simp only
    rw [so_madj _ _ _ (by omega)]
    simp only
    rw [so_med]
    exact key _ _
  · rw [if_neg (show ¬ (50 : Int) ≤ (b : Int) - (a : Int) by omega), if_neg h50]
    simp only
    rw [show (0 : Int) = ((0 : Nat) : Int) from rfl, so_med]
    exact key _ _
theorem so_next (r : UInt64) : k_7b (r.toNat : Int) = (((Sort.xorNext r).toNat : Int), ((Sort.xorNext r).toNat : Int)) := by
  have x0 : r.toNat < 18446744073709551616 := r.toNat_lt
  have bx : ∀ u v : Nat, u < 18446744073709551616 → v < 18446744073709551616 → bxor .u64 (u : Int) (v : Int) = ((u ^^^ v : Nat) : Int) := fun u v hu hv => bits_xor_u64_nat u v hu hv
  have lt : ∀ u v : Nat, u < 18446744073709551616 → v < 18446744073709551616 → u ^^^ v < 18446744073709551616 := fun u v hu hv => Nat.xor_lt_two_pow (n := 64) hu hv
  have s13 : ∀ u : Nat, bshl .u64 (u : Int) 13 = ((u * 8192 % 18446744073709551616 : Nat) : Int) := fun u => by
    show IntKind.u64.wrap ((u : Int) * 8192) = _
    rw [IntKind.wrap_u64]; omega
  have s17 : ∀ u : Nat, bshl .u64 (u : Int) 17 = ((u * 131072 % 18446744073709551616 : Nat) : Int) := fun u => by
    show IntKind.u64.wrap ((u : Int) * 131072) = _
    rw [IntKind.wrap_u64]; omega
  have s7 : ∀ u : Nat, bshr .u64 (u : Int) 7 = ((u / 128 : Nat) : Int) := fun u => by
    show (u : Int).fdiv 128 = _
    rw [Int.fdiv_eq_ediv_of_nonneg _ (by decide)]; omega
  unfold k_7b
  simp only [LR.seq_go, Sort.xorNext_toNat, Sort.xorNextN]
  generalize r.toNat = x at *
  rw [s13, bx x _ x0 (by omega)]
  have x1 := lt x (x * 8192 % 18446744073709551616) x0 (by omega)
  generalize x ^^^ (x * 8192 % 18446744073709551616) = y at *
  rw [s7, bx y _ x1 (by omega)]
  have x2 := lt y (y / 128) x1 (by omega)
  generalize y ^^^ (y / 128) = z at *
  rw [s17, bx z _ x2 (by omega)]
theorem so_bstep (a b : Nat) (hab : a + 8 ≤ b) (hb : b ≤ 4000000) (i m : Nat) (hi : i ≤ a + (b - a) / 4 * 2 + 1) (r : UInt64) (xs : List Int) :
    k_17 (a : Int) (b : Int) (m + 1) ((i : Int), (r.toNat : Int), xs) = k_17 (a : Int) (b : Int) m (((i + 1 : Nat) : Int), ((Sort.breakStep a (b - a) (1 <<< Sort.bitsLen (b - a)) (r, xs.toArray) i).1.toNat : Int), (Sort.breakStep a (b - a) (1 <<< Sort.bitsLen (b - a)) (r, xs.toArray) i).2.toList) := by
  simp only [k_17, LR.seq_go, so_next, Int.toNat_natCast]
  rw [if_pos (by omega), show (b : Int) - (a : Int) = ((b - a : Nat) : Int) by omega, npow_eq _ (by omega)]
  have h1 := Sort.two_pow_bitsLen_le (n := b - a) (by omega)
  have h0 : 0 < 2 ^ Sort.bitsLen (b - a) := Nat.two_pow_pos _
  unfold Sort.breakStep
  simp only
  rw [Nat.one_shiftLeft]
  generalize 2 ^ Sort.bitsLen (b - a) = M at h0 h1
  have hr : (Sort.xorNext r).toNat < 18446744073709551616 := (Sort.xorNext r).toNat_lt
  generalize Sort.xorNext r = r2 at *
  have e : IntKind.u64.wrap ((M : Int) - 1) = ((M - 1 : Nat) : Int) := by rw [k_c9 ⟨by omega, by omega⟩]; omega
  have eb : band .u64 (r2.toNat : Int) ((M - 1 : Nat) : Int) = ((r2.toNat &&& (M - 1) : Nat) : Int) := bits_and_u64_nat _ _ hr (by omega)
  rw [e, eb]
  generalize r2.toNat &&& (M - 1) = o
  have eo : (if ((b - a : Nat) : Int) ≤ (o : Int) then (o : Int) - ((b - a : Nat) : Int) else (o : Int)) = ((if o ≥ b - a then o - (b - a) else o : Nat) : Int) := by
    by_cases h : o ≥ b - a
    · rw [if_pos (by omega), if_pos h]; omega
    · rw [if_neg (by omega), if_neg h]
  rw [eo]
  generalize (if o ≥ b - a then o - (b - a) else o) = q
  rw [show ((a : Int) + (q : Int)).toNat = a + q by omega, so_swp]
  rfl
theorem so_break (xs : List Int) (a b : Nat) (hab : a + 12 < b) (hb : b ≤ 4000000) : k_19 xs (a : Int) (b : Int) = (Sort.breakPatterns xs.toArray a b).toList := by
  unfold k_19 Sort.breakPatterns
  rw [if_pos (by omega)]
  simp only
  rw [if_pos (show b - a ≥ 8 by omega), LR.seq_go]
  have e0 : (a : Int) + ((b : Int) - (a : Int)) / 4 * 2 - 1 = ((a + (b - a) / 4 * 2 - 1 : Nat) : Int) := by omega
  have em : ((a : Int) + ((b : Int) - (a : Int)) / 4 * 2 + 2 - ((a + (b - a) / 4 * 2 - 1 : Nat) : Int)).toNat + 1 = 4 := by omega
  have er : (b : Int) - (a : Int) = ((UInt64.ofNat (b - a)).toNat : Int) := by
    rw [UInt64.toNat_ofNat']; omega
  rw [e0, em]
  conv => lhs; rw [show ((b : Int) - (a : Int)) = ((UInt64.ofNat (b - a)).toNat : Int) from er]
  rw [so_bstep a b (by omega) hb _ 3 (by omega), so_bstep a b (by omega) hb _ 2 (by omega), so_bstep a b (by omega) hb _ 1 (by omega)]
  simp only [Array.toArray_toList]
  rw [k_17, if_neg (by simp only; omega)]
theorem partEq_rng (lt : Int → Int → Bool) (a : Nat) : ∀ (k i j : Nat) (d : Array Int), j + 1 - i ≤ k → 1 ≤ i → i ≤ (Sort.partEqLoop lt a i j d).1 ∧ (Sort.partEqLoop lt a i j d).1 ≤ max i (j + 1)
  | k, i, j, d, h, h1 => by
    rw [Sort.partEqLoop]
    have hu := scanUp_le (fun x => !lt d[a]! x) d j (j + 1 - i) i (Nat.le_refl _)
    generalize Sort.scanUp (fun x => !lt d[a]! x) d j i = i2 at *
    have hd := scanDown_le (fun x => lt d[a]! x) d i2 (by omega) j
    generalize Sort.scanDown (fun x => lt d[a]! x) d i2 j = j2 at *
    by_cases hc : i2 > j2
    · rw [if_pos hc]; exact ⟨hu.1, hu.2⟩
    · rw [if_neg hc]
      split
      · cases k with
        | zero => omega
        | succ k => have := partEq_rng lt a k (i2 + 1) (j2 - 1) (Sort.swp d i2 j2) (by omega) (by omega); omega
      · exact ⟨hu.1, hu.2⟩
theorem peq_f (xs : List Int) (a b p : Int) (r : Int × List Int) (e : r = k_23 xs a b p) (h : 0 ≤ a ∧ a < b ∧ 0 ≤ p) : a < r.1 ∧ r.1 ≤ b := by
  obtain ⟨a, rfl⟩ : ∃ n : Nat, a = n := ⟨a.toNat, by omega⟩
  obtain ⟨b, rfl⟩ : ∃ n : Nat, b = n := ⟨b.toNat, by omega⟩
  obtain ⟨p, rfl⟩ : ∃ n : Nat, p = n := ⟨p.toNat, by omega⟩
  rw [e, so_pe xs a b p (by omega)]
  unfold Sort.partitionEqual
  have := partEq_rng Sort.ltInt a (b - 1 + 1 - (a + 1)) (a + 1) (b - 1) (Sort.swp xs.toArray a p) (Nat.le_refl _) (by omega)
  simp only [pairI2]
  omega
theorem pp_f (xs : List Int) (a b p : Int) (r : Int × Bool × List Int) (e : r = k_3 xs a b p) (h : 0 ≤ a ∧ a ≤ p ∧ p < b ∧ b ≤ (xs.length : Int)) : a ≤ r.1 ∧ r.1 < b := by
  obtain ⟨a, rfl⟩ : ∃ n : Nat, a = n := ⟨a.toNat, by omega⟩
  obtain ⟨b, rfl⟩ : ∃ n : Nat, b = n := ⟨b.toNat, by omega⟩
  obtain ⟨p, rfl⟩ : ∃ n : Nat, p = n := ⟨p.toNat, by omega⟩
  rw [e, so_pp xs a b p (by omega)]
  have := Sort.partition_holds Sort.ltInt Sort.swo_ltInt xs.toArray a b p (by omega) (by omega) (by simp; omega)
  simp only [trip]
  omega
end Go.SX
