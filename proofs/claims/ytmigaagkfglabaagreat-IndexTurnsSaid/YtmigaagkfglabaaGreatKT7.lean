/- 'IndexTurns' answers true, whatever it is handed, and what it is handed reads behind it as it did. -/
import Derived.RangeFuncNested
import Derived.RangeFuncBound
import Derived.RangeFuncCalls
import Derived.RangeFuncLeaves
import Derived.Shelf.Abstract
import Derived.Laws.AppendOwn
import Derived.Laws.OwnMore
import Derived.KernelRfl
import Derived.IntWalk
import Derived.Laws.Append
import Derived.WideLaws
import Derived.Laws.Slices
import Derived.Laws.MakeOwn
import Derived.OrdersIn
import Derived.Laws.Cover3
import Derived.Test.YtmigaagkfglabaaGreatProg
import Derived.Laws.StructEq
import Derived.Shelf.Sort.Plain
import Derived.Sort.OwnSortedInts
import Derived.Shelf.Slices.In.SortNone
import Derived.Maps.RangeRun
import Derived.Lib.AppendZeros
import Derived.Sort.AssemblyPlain
import Derived.Shelf.Small.Bits
import Derived.Sort.Walk7a
import Derived.Laws.Bits64
import Derived.Laws.Bits64b
import Derived.Shelf.Spec.SlicesInsert
import Derived.Shelf.Spec.SlicesInsertGrow
import Derived.ProofKit
import Derived.ChangeSlices
import Derived.Carry
import Derived.Deep.Slices
import Derived.OpenShut
import Derived.Test.YtmigaagkfglabaaGreatRows
import Derived.Test.YtmigaagkfglabaaGreatKT6
set_option linter.unusedVariables false
set_option linter.unusedSimpArgs false
namespace Go.SX
open Go Go.Proofs

def k_76  : Nat → Nat → ((List (Int × (List Int)))) → (List (Int × (List Int)))
  | 0, kl9, sl9 => sl9
  | ml9 + 1, kl9, sl9 => k_76 ml9 (kl9 + 1) ((sl9.set kl9 (((sl9.getD kl9 (((0, []) : Int × (List Int)) : Int × (List Int))).1, ((sl9.getD kl9 (((0, []) : Int × (List Int)) : Int × (List Int))).2.set 0 0)))))
def k_72  : Nat → Nat → ((List (Int × (List Int)))) → (List (Int × (List Int)))
  | 0, kl9a, sl9a => sl9a
  | ml9a + 1, kl9a, sl9a => k_72 ml9a (kl9a + 1) ((sl9a.set kl9a (((sl9a.getD kl9a (((0, []) : Int × (List Int)) : Int × (List Int))).1, ((sl9a.getD kl9a (((0, []) : Int × (List Int)) : Int × (List Int))).2.set 0 0)))))
def k_54 (r63 : ((List (Int × (List Int)))) × Int) (r69 : ((List (Int × (List Int)))) × Int) : Nat → Nat → ((List (Int × (List Int))) × (List (Int × (List Int)))) → (List (Int × (List Int))) × (List (Int × (List Int)))
  | 0, kl8, sl8 => (sl8.1, sl8.2)
  | ml8 + 1, kl8, sl8 => if (kl8 : Int) = 0 then (LR.seq (k_76 (r63.1.length - 0) 0 sl8.2) (fun ol9 => k_54 r63 r69 ml8 (kl8 + 1) ((sl8.1, ol9)))) else (LR.seq (k_72 (r69.1.length - 0) 0 sl8.1) (fun ol9a => k_54 r63 r69 ml8 (kl8 + 1) ((ol9a, sl8.2))))
def k_d (a2 : List (List Int)) : List Int → Nat → ((List (Int × (List Int)))) → LR (LR (Bool) (Unit)) (Unit)
  | [], kl2, sl2 => .go ()
  | yl2 :: ysl2, kl2, sl2 => if (kl2 : Int) = 8 then (.go ()) else (LR.seq (k_34 sl2) (fun r39 => LR.seq (if (k_15 sl2) = true then (LR.seq (k_50 sl2 yl2) (fun r46 => (decide ((0 : Int) < (r46.length : Int))))) else false : Bool) (fun sc3 => LR.seq (if (kl2 : Int) < (a2.length : Int) then (LR.seq (k_86 (a2.getD kl2 ([] : List Int))) (fun r58 => r58)) else [] : (List Int)) (fun sc4 => LR.seq (k_6b sl2 yl2 sc4) (fun r63 => LR.seq (k_8c sl2 yl2) (fun r69 => LR.seq (if (k_15 sl2) = true then (LR.seq (if (!(k_1f yl2)) = true then ((2, [])) else (if (!(k_1c sc4)) = true then ((130, [])) else (if sc3 = true then ((5, [])) else (LR.seq (k_21 sc4) (fun r76 => LR.seq (k_25 sl2 yl2 r76) (fun r77 => (0, r77)))))) : Int × (List (Int × (List Int)))) (fun sc6 => if sc3 = true then (LR.seq (k_25 sl2 yl2 []) (fun r91 => (sc6.1, 0, r91, sc6.2))) else ((sc6.1, 4, [], sc6.2)))) else ((240, 240, [], [])) : Int × Int × (List (Int × (List Int))) × (List (Int × (List Int)))) (fun sc5 => LR.seq (if r63.2 ≠ sc5.1 then true else (if r69.2 ≠ sc5.2.1 then true else (if (!(k_45 r63.1 sc5.2.2.2)) = true then true else ((!(k_45 r69.1 sc5.2.2.1))))) : Bool) (fun sc7 => if sc7 = true then (.ret (.ret false)) else (LR.seq (k_54 r63 r69 (2 - 0) 0 ((r69.1, r63.1))) (fun ol8 => if (!(k_45 sl2 r39)) = true then (.ret (.ret false)) else (if r63.2 = 0 then (LR.seq (k_34 sc5.2.2.2) (fun r141 => k_d a2 ysl2 (kl2 + 1) r141)) else (LR.seq (if r69.2 = 0 then ((decide (((Int.tmod (kl2 : Int) 2) : Int) = 0))) else false : Bool) (fun sc10 => if sc10 = true then (LR.seq (k_34 sc5.2.2.1) (fun r151 => k_d a2 ysl2 (kl2 + 1) r151)) else (k_d a2 ysl2 (kl2 + 1) sl2))))))))))))))
def k_3d (a0 : (List (Int × (List Int)))) (a1 : List Int) (a2 : List (List Int)) : Bool :=
  if (!k_9) = true then false else (LR.seq (k_34 a0) (fun r28 => LR.on (LR.on (k_d a2 a1 0 r28) (fun r => r) (fun ol2 => .go ol2) : LR (Bool) (Unit)) (fun r => r) (fun sc1 => true)))
set_option maxHeartbeats 3200000 in
theorem windroselaw14_IndexTurns_c (H : Heap) (a0 : (List (Int × (List Int)))) (va0_0 : Value) (ha0_0 : RdS listedE H va0_0 a0) (va1 : Value) (a1 : List Int) (ha1 : RdS (intE .i64) H va1 a1) (va2 : Value) (a2 : List (List Int)) (ha2 : RdS (slE (intE .u64)) H va2 a2) : Fv Tryz.prog (fnv 3) [.agg #[va0_0], va1, va2] H (.bool (k_3d a0 a1 a2)) := by
 refine Fc.of_body (N := 153) Tryz.func3 rfl kA rfl rfl ?_
 intro w0
 obtain ⟨Aa0_0, ca0_0, rfl, hca0_0, hda0_0, ha0_0⟩ := ha0_0.shape
 obtain ⟨Aa1, ca1, rfl, hca1, hda1, ha1⟩ := ha1.shape
 obtain ⟨Aa2, ca2, rfl, hca2, hda2, ha2⟩ := ha2.shape
 refine sR ?_
 refine R.box rfl cA ?_
 intro b3
 refine R.asE rfl cA ?_
 refine TL.shut .hd ?_
 intro Hb3_1 sb3_1 qb3_1
 have hb3_1 : Hb3_1 b3 = some (.cells #[.slice Aa0_0 a0.length ca0_0] 24) := shut1 qb3_1
 refine nN ?_
 refine T.seq ?_
 refine sR ?_
 refine R.callv rfl rfl rfl (windroselaw14_wakes_c _ ) ?_
 refine R.not rfl rfl ?_
 refine nN ?_
 refine T.cond rfl (fun c26 => ?_) (fun c26 => ?_)
 ·refine T.set 26 (.bool true) (congrArg Value.bool c26) ?_
  refine sR ?_
  refine R.asE rfl cA ?_
  refine nN ?_
  refine T.has Has.nil ?_
  refine T.ret (Post.thnR ?_)
  have hM : k_3d a0 a1 a2 = false := by rw [k_3d, if_t c26]
  exact fin1L (v := .bool false) [] rfl rfl (List.Sublist.refl _) ⟨rfl, by first | rw [hM] | rfl⟩
 refine T.set 26 (.bool false) (congrArg Value.bool c26) ?_
 refine T.skip (Post.thnN ?_)
 refine sR ?_
 refine R.ldXH (cs := [.slice Aa0_0 a0.length ca0_0]) (l := [.slice Aa0_0 a0.length ca0_0]) Tryz.isAgg24 Tryz.sizeOf24 rfl rfl hb3_1 rfl rfl ?_
 obtain ⟨r28, er28⟩ : ∃ r, r = (k_34 a0) := ⟨_, rfl⟩
 refine TL.call [] rfl rfl rfl (k_c1 _ a0 _ (ha0_0.mono sb3_1)) ?_
 intro v28 H28 L28 s28 q28
 rw [← er28] at q28
 obtain ⟨u28_0_0, c28_0_0, rfl, rfl, w28_0_0⟩ := q28
 obtain ⟨A28_0_0, p28_0_0, rfl, m28_0_0, n28_0_0⟩ := OwnS.shape w28_0_0
 have tow28 := own_len _ _ er28
 have toa28 := tow28.1
 have tob28 := tow28.2
 refine TL.shut .hd ?_
 intro HF28_0_0_2 sF28_0_0_2 qF28_0_0_2
 have fF28_0_0_2 := OwnS.read w28_0_0 sF28_0_0_2 qF28_0_0_2
 refine R.alloc Tryz.zeroValue24 rfl ?_
 intro b7
 refine R.stX (old := [.slice none 0 0]) (l := [.slice A28_0_0 r28.length p28_0_0]) (new := [.slice A28_0_0 r28.length p28_0_0]) (et := 24) Tryz.sizeOf24 rfl rfl rfl rfl rfl (by show 0 + 1 ≤ 1; decide) rfl (k_20 rfl) .hd ?_
 refine nN ?_
 refine T.seq ?_
 refine sR ?_
 refine R.mvE rfl cA ?_
 refine R.len Tryz.underlying25 rfl rfl ?_
 refine R.mvE rfl cA ?_
 refine nN ?_
 refine T.cutK (ι := Unit) (fun _ H' L' ds' => Has L' [] ∧ (LR.on (k_d a2 a1 0 r28) (fun r => r) (fun ol2 => .go ol2) : LR (Bool) (Unit)) = .go ()) (fun _ => []) ?_ ?_
 ·refine T.block ?_
  refine T.loop (ι := Nat × Value × (List (Int × (List Int)))) (fun ⟨kl2, vb7l2_0, xb7l2_0⟩ H' L' ds' => kl2 ≤ a1.length ∧ Has L' [[(b7, .cells #[vb7l2_0] 24)]] ∧ RdS listedE H' vb7l2_0 xb7l2_0 ∧ xb7l2_0.length ≤ 60 ∧ (∀ q ∈ xb7l2_0, q.2.length ≤ 12) ∧ k_d a2 (a1.drop kl2) kl2 xb7l2_0 = k_d a2 a1 0 r28) (fun ⟨kl2, vb7l2_0, xb7l2_0⟩ => [(31, .int .i64 (kl2 : Int)), (2, .slice Aa2 a2.length ca2), (7, .pointer (some ⟨b7, 0, none⟩)), (29, .slice Aa1 a1.length ca1), (30, .int .i64 (a1.length : Int))]) (fun ⟨kl2, vb7l2_0, xb7l2_0⟩ => a1.length - kl2) (0, .slice A28_0_0 r28.length p28_0_0, r28) ?_ ?_ ?_
  ·exact ⟨oA, (Has.cons .hd Has.nil), fF28_0_0_2, (by first | omega | assumption | rfl | (simp; omega) | exact ne_set (by assumption) h127), (by first | omega | assumption | rfl | (simp; omega) | exact ne_set (by assumption) h127), (by rfl)⟩
  ·exact ⟨rfl, rfl, rfl, rfl, rfl, trivial⟩
  intro ⟨kl2, vb7l2_0, xb7l2_0⟩ σ_l2 H_l2 L_l2 ds_l2 s_l2 hI_l2
  obtain ⟨hkl2, hI_l2⟩ := hI_l2
  obtain ⟨hLl2, wb7l2_0, hBl2_0, hBl2_1, hQl2⟩ := hI_l2
  obtain ⟨Ab7l2_0, pb7l2_0, rfl, mb7l2_0, nb7l2_0_, wb7l2_0⟩ := RdS.shape wb7l2_0
  refine T.has hLl2 ?_
  refine sR ?_
  refine R.lss rfl rfl rfl ?_
  refine nN ?_
  refine T.seq ?_
  refine T.condD rfl (fun c32 => ?_) (fun c32 => ?_)
  ·have hltl2 : kl2 < a1.length := by omega
   obtain ⟨yl2, hyl2⟩ := getk (xs := a1) (k := kl2) oA
   refine T.skip (Post.thnN ?_)
   refine T.seq ?_
   refine T.block ?_
   refine sR ?_
   refine R.mvE rfl cA ?_
   obtain ⟨b34, o34, i34, k34⟩ := RdS.elem (ha1.mono (sb3_1.trans (s28.trans (sF28_0_0_2.trans s_l2)))) hyl2
   obtain ⟨l34, g34, k34⟩ := k34
   obtain rfl : l34 = [.int .i64 yl2] := g34
   refine R.ixp Tryz.underlying25 Tryz.sizeOf3 rfl rfl rfl oA i34 ?_
   refine R.ldC Tryz.isAgg3 rfl rfl (k34 0 _ rfl) ?_
   refine R.asE rfl cA ?_
   refine R.asE rfl cA ?_
   refine nN ?_
   refine T.seq ?_
   refine sR ?_
   refine R.mvE rfl cA ?_
   refine R.eql rfl rfl rfl ?_
   refine nN ?_
   refine T.condD rfl (fun c37 => ?_) (fun c37 => ?_)
   ·refine T.set 37 (.bool true) (congrArg Value.bool (decide_eq_true c37)) ?_
    refine T.exit (Post.thnE (Post.blkE rfl (Post.thnE (Post.thnE (Post.blkX ?_)))))
    have hEl2 : k_d a2 a1 0 r28 = .go () := (by rw [← hQl2, k_16 hyl2, k_d]; rw [if_pos c37])
    refine id (Post.thnN ?_)
    exact ⟨(), s_l2, ⟨Has.nil, (by rw [hEl2, LR.on_go])⟩, trivial⟩
   refine T.set 37 (.bool false) (congrArg Value.bool (decide_eq_false c37)) ?_
   refine T.skip (Post.thnN ?_)
   refine sR ?_
   refine R.ldX (cs := [.slice Ab7l2_0 xb7l2_0.length pb7l2_0]) (l := [.slice Ab7l2_0 xb7l2_0.length pb7l2_0]) Tryz.isAgg24 Tryz.sizeOf24 rfl rfl .hd rfl rfl ?_
   obtain ⟨r39, er39⟩ : ∃ r, r = (k_34 xb7l2_0) := ⟨_, rfl⟩
   refine TL.call [] rfl rfl rfl (k_c1 _ xb7l2_0 _ wb7l2_0) ?_
   intro v39 H39 L39 s39 q39
   rw [← er39] at q39
   obtain ⟨u39_0_0, c39_0_0, rfl, rfl, w39_0_0⟩ := q39
   obtain ⟨A39_0_0, p39_0_0, rfl, m39_0_0, n39_0_0⟩ := OwnS.shape w39_0_0
   have tow39 := own_len _ _ er39
   have toa39 := tow39.1
   have tob39 := tow39.2
   refine R.alloc Tryz.zeroValue24 rfl ?_
   intro b10
   refine R.stX (old := [.slice none 0 0]) (l := [.slice A39_0_0 r39.length p39_0_0]) (new := [.slice A39_0_0 r39.length p39_0_0]) (et := 24) Tryz.sizeOf24 rfl rfl rfl rfl rfl (by show 0 + 1 ≤ 1; decide) rfl (k_20 rfl) .hd ?_
   refine TL.shut (.tl .hd) ?_
   intro HF39_0_0_3 sF39_0_0_3 qF39_0_0_3
   have fF39_0_0_3 := OwnS.read w39_0_0 sF39_0_0_3 qF39_0_0_3
   refine TL.shut .hd ?_
   intro Hb10_4 sb10_4 qb10_4
   have hb10_4 : Hb10_4 b10 = some (.cells #[.slice A39_0_0 r39.length p39_0_0] 24) := shut1 qb10_4
   refine nN ?_
   refine sR ?_
   refine R.ldX (cs := [.slice Ab7l2_0 xb7l2_0.length pb7l2_0]) (l := [.slice Ab7l2_0 xb7l2_0.length pb7l2_0]) Tryz.isAgg24 Tryz.sizeOf24 rfl rfl .hd rfl rfl ?_
   refine R.callv rfl rfl rfl (windroseref14_Right_c _ xb7l2_0 _ (wb7l2_0.mono (s39.trans (sF39_0_0_3.trans sb10_4))) bA) ?_
   refine R.asE rfl cA ?_
   refine nN ?_
   refine T.seq ?_
   refine T.cutK (ι := Bool) (fun b12c3 H' L' ds' => Has L' [[(b7, .cells #[.slice Ab7l2_0 xb7l2_0.length pb7l2_0] 24)]] ∧ (if (k_15 xb7l2_0) = true then (LR.seq (k_50 xb7l2_0 yl2) (fun r46 => (decide ((0 : Int) < (r46.length : Int))))) else false : Bool) = b12c3) (fun b12c3 => [(2, .slice Aa2 a2.length ca2), (7, .pointer (some ⟨b7, 0, none⟩)), (8, .int .i64 (kl2 : Int)), (9, .int .i64 yl2), (10, .pointer (some ⟨b10, 0, none⟩)), (11, .bool ((k_15 xb7l2_0))), (12, .bool (b12c3)), (29, .slice Aa1 a1.length ca1), (30, .int .i64 (a1.length : Int)), (31, .int .i64 (kl2 : Int))]) ?_ ?_
   ·refine T.region ?_
    refine R.mvE rfl cA ?_
    refine R.mvE rfl cA ?_
    refine TL.gsplit 43 rfl (fun g43 => ?_) (fun g43 => ?_)
    ·refine R.ldX (cs := [.slice Ab7l2_0 xb7l2_0.length pb7l2_0]) (l := [.slice Ab7l2_0 xb7l2_0.length pb7l2_0]) Tryz.isAgg24 Tryz.sizeOf24 rfl rfl .hd rfl rfl ?_
     refine R.mvE rfl cA ?_
     obtain ⟨r46, er46⟩ : ∃ r, r = (k_50 xb7l2_0 yl2) := ⟨_, rfl⟩
     refine TL.call [] rfl rfl rfl (windroseref14_In_c _ xb7l2_0 _ (wb7l2_0.mono (s39.trans (sF39_0_0_3.trans sb10_4))) (yl2) bA) ?_
     intro v46 H46 L46 s46 q46
     rw [← er46] at q46
     obtain ⟨u46_0_0, c46_0_0, rfl, rfl, w46_0_0⟩ := q46
     obtain ⟨A46_0_0, p46_0_0, rfl, m46_0_0, n46_0_0⟩ := OwnS.shape w46_0_0
     refine R.len Tryz.underlying30 rfl rfl ?_
     refine R.gtr rfl rfl rfl ?_
     refine R.pkTE rfl rfl cA ?_
     refine R.asE rfl cA ?_
     refine nN ?_
     exact ⟨(decide ((0 : Int) < (r46.length : Int))), s46, ⟨(Has.cons (.tl .hd) Has.nil), (by subst er46; rw [if_t g43, LR.seq_go])⟩, rfl, rfl, rfl, rfl, rfl, rfl, rfl, rfl, rfl, rfl, trivial⟩
    refine TL.off rfl rfl rfl ?_
    refine TL.off rfl rfl rfl ?_
    refine TL.off rfl rfl rfl ?_
    refine TL.off rfl rfl rfl ?_
    refine TL.off rfl rfl rfl ?_
    refine R.pkFE rfl rfl cA ?_
    refine R.asE rfl cA ?_
    refine nN ?_
    exact ⟨false, HLe.refl _, ⟨(Has.cons .hd Has.nil), (by rw [if_f g43])⟩, rfl, rfl, rfl, rfl, rfl, rfl, rfl, rfl, rfl, rfl, trivial⟩
   intro b12c3 σ_c3 H_c3 L_c3 ds_c3 s_c3 hI_c3
   obtain ⟨hLc3, hTc3⟩ := hI_c3
   refine T.has hLc3 ?_
   refine sR ?_
   refine R.asE rfl cA ?_
   refine nN ?_
   refine T.seq ?_
   refine sR ?_
   refine R.mvE rfl cA ?_
   refine R.mvE rfl cA ?_
   refine R.len Tryz.underlying26 rfl rfl ?_
   refine R.lss rfl rfl rfl ?_
   refine nN ?_
   refine T.cutK (ι := Value × (List Int) × Chunk) (fun ⟨v13c4, x13c4, c13c4⟩ H' L' ds' => Has L' [[(b7, .cells #[.slice Ab7l2_0 xb7l2_0.length pb7l2_0] 24)], c13c4] ∧ OwnS (intE .u64) 43 H' v13c4 x13c4 c13c4 ∧ x13c4.length ≤ 16 ∧ (if (kl2 : Int) < (a2.length : Int) then (LR.seq (k_86 (a2.getD kl2 ([] : List Int))) (fun r58 => r58)) else [] : (List Int)) = x13c4) (fun ⟨v13c4, x13c4, c13c4⟩ => [(2, .slice Aa2 a2.length ca2), (7, .pointer (some ⟨b7, 0, none⟩)), (8, .int .i64 (kl2 : Int)), (9, .int .i64 yl2), (10, .pointer (some ⟨b10, 0, none⟩)), (11, .bool ((k_15 xb7l2_0))), (12, .bool (b12c3)), (13, v13c4), (29, .slice Aa1 a1.length ca1), (30, .int .i64 (a1.length : Int)), (31, .int .i64 (kl2 : Int))]) ?_ ?_
   ·refine T.condD rfl (fun c53 => ?_) (fun c53 => ?_)
    ·refine T.set 53 (.bool true) (congrArg Value.bool (decide_eq_true c53)) ?_
     refine T.region ?_
     refine R.mvE rfl cA ?_
     refine R.mvE rfl cA ?_
     have hl56 : kl2 < a2.length := bA
     obtain ⟨y56, e56, h56⟩ : ∃ y, y = (a2.getD kl2 ([] : List Int)) ∧ a2[kl2]? = some y := ⟨_, rfl, k_6 (by first | exact hl56 | simpa using hl56 | (simp only [List.length_set]; omega) | omega | (rw [(k_1 _).length_eq]; exact hl56))⟩
     obtain ⟨b56, o56, i56, k56⟩ := RdS.elem (ha2.mono (sb3_1.trans (s28.trans (sF28_0_0_2.trans (s_l2.trans (s39.trans (sF39_0_0_3.trans (sb10_4.trans s_c3)))))))) h56
     obtain ⟨l56, g56, k56⟩ := k56
     obtain ⟨z56_0, rfl, r56_0⟩ := g56
     obtain ⟨A56_0, p56_0, rfl, m56_0, n56_0, r56_0⟩ := r56_0.shape
     refine R.ixp Tryz.underlying26 Tryz.sizeOf30 rfl rfl rfl bA i56 ?_
     refine R.ldC Tryz.isAgg30 rfl rfl (k56 0 _ rfl) ?_
     obtain ⟨r58, er58⟩ : ∃ r, r = (k_86 y56) := ⟨_, rfl⟩
     refine TL.call [] rfl rfl rfl (windroselaw14_few_c _ _ y56 r56_0) ?_
     intro v58 H58 L58 s58 q58
     rw [← er58] at q58
     obtain ⟨u58_0_0, c58_0_0, rfl, rfl, w58_0_0⟩ := q58
     obtain ⟨A58_0_0, p58_0_0, rfl, m58_0_0, n58_0_0⟩ := OwnS.shape w58_0_0
     have tfw58 := few_len _ _ er58
     refine R.asE rfl cA ?_
     refine nN ?_
     exact ⟨(.slice A58_0_0 r58.length p58_0_0, r58, c58_0_0), s58, ⟨(Has.cons (.tl .hd) (Has.cons .hd Has.nil)), w58_0_0, bA, (by subst er58; subst e56; rw [if_pos c53, LR.seq_go])⟩, rfl, rfl, rfl, rfl, rfl, rfl, rfl, rfl, rfl, rfl, rfl, trivial⟩
    refine T.set 53 (.bool false) (congrArg Value.bool (decide_eq_false c53)) ?_
    refine T.skip (Post.thnN ?_)
    exact ⟨(.slice none 0 0, [], []), HLe.refl _, ⟨(Has.cons .hd (Has.none Has.nil)), OwnS.nil, bA, (by rw [if_neg c53])⟩, rfl, rfl, rfl, rfl, rfl, rfl, rfl, rfl, rfl, rfl, rfl, trivial⟩
   intro ⟨v13c4, x13c4, c13c4⟩ σ_c4 H_c4 L_c4 ds_c4 s_c4 hI_c4
   obtain ⟨hLc4, w13c4, hBc4_0, hTc4⟩ := hI_c4
   obtain ⟨A13c4, p13c4, rfl, m13c4, n13c4_⟩ := OwnS.shape w13c4
   refine T.has hLc4 ?_
   refine sR ?_
   refine R.ldX (cs := [.slice Ab7l2_0 xb7l2_0.length pb7l2_0]) (l := [.slice Ab7l2_0 xb7l2_0.length pb7l2_0]) Tryz.isAgg24 Tryz.sizeOf24 rfl rfl .hd rfl rfl ?_
   refine R.mvE rfl cA ?_
   refine R.mvE rfl cA ?_
   refine TL.shut (.tl .hd) ?_
   intro HF13c4_5 sF13c4_5 qF13c4_5
   have fF13c4_5 := OwnS.read w13c4 sF13c4_5 qF13c4_5
   obtain ⟨r63, er63⟩ : ∃ r, r = (k_6b xb7l2_0 yl2 x13c4) := ⟨_, rfl⟩
   refine TL.call [] rfl rfl rfl (index_Put_c _ xb7l2_0 _ (wb7l2_0.mono (s39.trans (sF39_0_0_3.trans (sb10_4.trans (s_c3.trans (s_c4.trans sF13c4_5)))))) (yl2) _ x13c4 fF13c4_5 (by first | omega | assumption | (simp; done) | (simp; omega) | (simp at *; omega)) (by first | assumption | exact k_c5 (by assumption) oA | (intro r h; simp at h; done))) ?_
   intro v63 H63 L63 s63 q63
   rw [← er63] at q63
   obtain ⟨u63_0_0, c63_0_0, rfl, rfl, w63_0_0⟩ := q63
   obtain ⟨A63_0_0, p63_0_0, rfl, m63_0_0, n63_0_0⟩ := OwnD.shape w63_0_0
   have tpa63 := (put_len _ _ _ _ er63).1
   have tpb63 := (put_len _ _ _ _ er63).2 _ (by first | assumption | exact rows_nil)
   have tpn63 := put_ne _ _ _ _ er63
   refine R.mvE rfl cA ?_
   refine R.ext rfl rfl rfl ?_
   refine R.ext rfl rfl rfl ?_
   refine R.alloc Tryz.zeroValue24 rfl ?_
   intro b14
   refine R.stX (old := [.slice none 0 0]) (l := [.slice A63_0_0 r63.1.length p63_0_0]) (new := [.slice A63_0_0 r63.1.length p63_0_0]) (et := 24) Tryz.sizeOf24 rfl rfl rfl rfl rfl (by show 0 + 1 ≤ 1; decide) rfl (k_20 rfl) .hd ?_
   refine R.asE rfl cA ?_
   refine nN ?_
   refine sR ?_
   refine R.ldX (cs := [.slice Ab7l2_0 xb7l2_0.length pb7l2_0]) (l := [.slice Ab7l2_0 xb7l2_0.length pb7l2_0]) Tryz.isAgg24 Tryz.sizeOf24 rfl rfl (.tl (.tl .hd)) rfl rfl ?_
   refine R.mvE rfl cA ?_
   obtain ⟨r69, er69⟩ : ∃ r, r = (k_8c xb7l2_0 yl2) := ⟨_, rfl⟩
   refine TL.call [] rfl rfl rfl (index_Drop_c _ xb7l2_0 _ (wb7l2_0.mono (s39.trans (sF39_0_0_3.trans (sb10_4.trans (s_c3.trans (s_c4.trans (sF13c4_5.trans s63))))))) (yl2) (by first | omega | assumption | (simp; done) | (simp; omega) | (simp at *; omega)) (by first | assumption | exact k_c5 (by assumption) oA | (intro r h; simp at h; done))) ?_
   intro v69 H69 L69 s69 q69
   rw [← er69] at q69
   obtain ⟨u69_0_0, c69_0_0, rfl, rfl, w69_0_0⟩ := q69
   obtain ⟨A69_0_0, p69_0_0, rfl, m69_0_0, n69_0_0⟩ := OwnD.shape w69_0_0
   have tpa69 := (dropx_len _ _ _ er69).1
   have tpb69 := (dropx_len _ _ _ er69).2 _ (by first | assumption | exact rows_nil)
   have tpn69 := drop_ne _ _ _ er69
   refine R.mvE rfl cA ?_
   refine R.ext rfl rfl rfl ?_
   refine R.ext rfl rfl rfl ?_
   refine R.alloc Tryz.zeroValue24 rfl ?_
   intro b16
   refine R.stX (old := [.slice none 0 0]) (l := [.slice A69_0_0 r69.1.length p69_0_0]) (new := [.slice A69_0_0 r69.1.length p69_0_0]) (et := 24) Tryz.sizeOf24 rfl rfl rfl rfl rfl (by show 0 + 1 ≤ 1; decide) rfl (k_20 rfl) .hd ?_
   refine R.asE rfl cA ?_
   refine nN ?_
   refine sR ?_
   refine R.alloc Tryz.zeroValue24 rfl ?_
   intro b18
   refine R.alloc Tryz.zeroValue24 rfl ?_
   intro b19
   refine nN ?_
   refine sR ?_
   refine R.asE rfl cA ?_
   refine R.asE rfl cA ?_
   refine nN ?_
   refine T.seq ?_
   refine sR ?_
   refine R.mvE rfl cA ?_
   refine nN ?_
   refine T.cutK (ι := Int × Int × Value × (List (Int × (List Int))) × Chunk × Value × (List (Int × (List Int))) × Chunk) (fun ⟨n20c5, n21c5, vb19c5_0, xb19c5_0, cb19c5_0, vb18c5_0, xb18c5_0, cb18c5_0⟩ H' L' ds' => Has L' [[(b19, .cells #[vb19c5_0] 24)], [(b18, .cells #[vb18c5_0] 24)], [(b16, .cells #[.slice A69_0_0 r69.1.length p69_0_0] 24)], c69_0_0, [(b14, .cells #[.slice A63_0_0 r63.1.length p63_0_0] 24)], c63_0_0, [(b7, .cells #[.slice Ab7l2_0 xb7l2_0.length pb7l2_0] 24)], cb19c5_0, cb18c5_0] ∧ OwnS listedE 45 H' vb19c5_0 xb19c5_0 cb19c5_0 ∧ OwnS listedE 45 H' vb18c5_0 xb18c5_0 cb18c5_0 ∧ (if (k_15 xb7l2_0) = true then (LR.seq (if (!(k_1f yl2)) = true then ((2, [])) else (if (!(k_1c x13c4)) = true then ((130, [])) else (if b12c3 = true then ((5, [])) else (LR.seq (k_21 x13c4) (fun r76 => LR.seq (k_25 xb7l2_0 yl2 r76) (fun r77 => (0, r77)))))) : Int × (List (Int × (List Int)))) (fun sc6 => if b12c3 = true then (LR.seq (k_25 xb7l2_0 yl2 []) (fun r91 => (sc6.1, 0, r91, sc6.2))) else ((sc6.1, 4, [], sc6.2)))) else ((240, 240, [], [])) : Int × Int × (List (Int × (List Int))) × (List (Int × (List Int)))) = (n20c5, n21c5, xb19c5_0, xb18c5_0)) (fun ⟨n20c5, n21c5, vb19c5_0, xb19c5_0, cb19c5_0, vb18c5_0, xb18c5_0, cb18c5_0⟩ => [(2, .slice Aa2 a2.length ca2), (7, .pointer (some ⟨b7, 0, none⟩)), (8, .int .i64 (kl2 : Int)), (10, .pointer (some ⟨b10, 0, none⟩)), (14, .pointer (some ⟨b14, 0, none⟩)), (15, .int .i64 (r63.2)), (16, .pointer (some ⟨b16, 0, none⟩)), (17, .int .i64 (r69.2)), (18, .pointer (some ⟨b18, 0, none⟩)), (19, .pointer (some ⟨b19, 0, none⟩)), (20, .int .i64 n20c5), (21, .int .i64 n21c5), (29, .slice Aa1 a1.length ca1), (30, .int .i64 (a1.length : Int)), (31, .int .i64 (kl2 : Int))]) ?_ ?_
   ·refine T.cond rfl (fun c72 => ?_) (fun c72 => ?_)
    ·refine T.set 72 (.bool true) (congrArg Value.bool c72) ?_
     refine T.seq ?_
     refine T.cutK (ι := Int × Value × (List (Int × (List Int))) × Chunk) (fun ⟨n20c6, vb18c6_0, xb18c6_0, cb18c6_0⟩ H' L' ds' => Has L' [[(b19, .cells #[.slice none 0 0] 24)], [(b18, .cells #[vb18c6_0] 24)], [(b16, .cells #[.slice A69_0_0 r69.1.length p69_0_0] 24)], c69_0_0, [(b14, .cells #[.slice A63_0_0 r63.1.length p63_0_0] 24)], c63_0_0, [(b7, .cells #[.slice Ab7l2_0 xb7l2_0.length pb7l2_0] 24)], cb18c6_0] ∧ OwnS listedE 45 H' vb18c6_0 xb18c6_0 cb18c6_0 ∧ (if (!(k_1f yl2)) = true then ((2, [])) else (if (!(k_1c x13c4)) = true then ((130, [])) else (if b12c3 = true then ((5, [])) else (LR.seq (k_21 x13c4) (fun r76 => LR.seq (k_25 xb7l2_0 yl2 r76) (fun r77 => (0, r77)))))) : Int × (List (Int × (List Int)))) = (n20c6, xb18c6_0)) (fun ⟨n20c6, vb18c6_0, xb18c6_0, cb18c6_0⟩ => [(2, .slice Aa2 a2.length ca2), (7, .pointer (some ⟨b7, 0, none⟩)), (8, .int .i64 (kl2 : Int)), (9, .int .i64 yl2), (10, .pointer (some ⟨b10, 0, none⟩)), (12, .bool (b12c3)), (14, .pointer (some ⟨b14, 0, none⟩)), (15, .int .i64 (r63.2)), (16, .pointer (some ⟨b16, 0, none⟩)), (17, .int .i64 (r69.2)), (18, .pointer (some ⟨b18, 0, none⟩)), (19, .pointer (some ⟨b19, 0, none⟩)), (20, .int .i64 n20c6), (29, .slice Aa1 a1.length ca1), (30, .int .i64 (a1.length : Int)), (31, .int .i64 (kl2 : Int))]) ?_ ?_
     ·refine T.block ?_
      refine sR ?_
      refine R.mvE rfl cA ?_
      refine R.callv rfl rfl rfl (windroseref14_Table_c _ (yl2)) ?_
      refine R.not rfl rfl ?_
      refine R.asE rfl cA ?_
      refine nN ?_
      refine T.cond rfl (fun c78 => ?_) (fun c78 => ?_)
      ·refine T.set 78 (.bool true) (congrArg Value.bool c78) ?_
       refine T.region ?_
       refine R.asE rfl cA ?_
       refine TL.nil (Post.blkN ?_)
       refine id (Post.thnN ?_)
       exact ⟨(2, .slice none 0 0, [], []), HLe.refl _, ⟨(Has.cons .hd (Has.cons .hd (Has.cons .hd (Has.cons .hd (Has.cons .hd (Has.cons .hd (Has.cons .hd (Has.none Has.nil)))))))), OwnS.nil, (by rw [if_t c78])⟩, rfl, rfl, rfl, rfl, rfl, rfl, rfl, rfl, rfl, rfl, rfl, rfl, rfl, rfl, rfl, rfl, trivial⟩
      refine T.set 78 (.bool false) (congrArg Value.bool c78) ?_
      refine sR ?_
      refine R.mvE rfl cA ?_
      refine R.callv rfl rfl rfl (windroseref03_Right_c _ _ x13c4 (fF13c4_5.mono (s63.trans s69))) ?_
      refine R.not rfl rfl ?_
      refine R.asE rfl cA ?_
      refine nN ?_
      refine T.cond rfl (fun c82 => ?_) (fun c82 => ?_)
      ·refine T.set 82 (.bool true) (congrArg Value.bool c82) ?_
       refine T.region ?_
       refine R.asE rfl cA ?_
       refine TL.nil (Post.blkN ?_)
       refine id (Post.thnN ?_)
       exact ⟨(130, .slice none 0 0, [], []), HLe.refl _, ⟨(Has.cons .hd (Has.cons .hd (Has.cons .hd (Has.cons .hd (Has.cons .hd (Has.cons .hd (Has.cons .hd (Has.none Has.nil)))))))), OwnS.nil, (by rw [if_f c78, if_t c82])⟩, rfl, rfl, rfl, rfl, rfl, rfl, rfl, rfl, rfl, rfl, rfl, rfl, rfl, rfl, rfl, rfl, trivial⟩
      refine T.set 82 (.bool false) (congrArg Value.bool c82) ?_
      refine sR ?_
      refine R.mvE rfl cA ?_
      refine R.asE rfl cA ?_
      refine nN ?_
      refine T.cond rfl (fun c86 => ?_) (fun c86 => ?_)
      ·refine T.set 86 (.bool true) (congrArg Value.bool c86) ?_
       have hZ86 := hTc3.trans c86
       try simp only [or_f, or_t, k_bf, k_c0, decide_eq_true_eq, decide_eq_false_iff_not, Bool.not_eq_true'] at hZ86
       refine T.region ?_
       refine R.asE rfl cA ?_
       refine TL.nil (Post.blkN ?_)
       refine id (Post.thnN ?_)
       exact ⟨(5, .slice none 0 0, [], []), HLe.refl _, ⟨(Has.cons .hd (Has.cons .hd (Has.cons .hd (Has.cons .hd (Has.cons .hd (Has.cons .hd (Has.cons .hd (Has.none Has.nil)))))))), OwnS.nil, (by rw [if_f c78, if_f c82, if_t c86])⟩, rfl, rfl, rfl, rfl, rfl, rfl, rfl, rfl, rfl, rfl, rfl, rfl, rfl, rfl, rfl, rfl, trivial⟩
      refine T.set 86 (.bool false) (congrArg Value.bool c86) ?_
      have hZ86 := hTc3.trans c86
      try simp only [or_f, or_t, k_bf, k_c0, decide_eq_true_eq, decide_eq_false_iff_not, Bool.not_eq_true'] at hZ86
      refine T.draw k_2b kA ?_
      refine vM 1 [0, 2, 3, 4, 5, 6] rfl rfl cA ?_
      refine vM 2 [0, 3, 4, 5, 6] rfl rfl cA ?_
      refine Plan.s2 0 3 [3, 4, 5, 6] [0, 4, 5, 6] kA kA kA rfl rfl ?_ ?_
      ·refine R.ldX (cs := [.slice Ab7l2_0 xb7l2_0.length pb7l2_0]) (l := [.slice Ab7l2_0 xb7l2_0.length pb7l2_0]) Tryz.isAgg24 Tryz.sizeOf24 rfl rfl (.tl (.tl (.tl (.tl (.tl (.tl .hd)))))) rfl rfl ?_
       refine TL.nil (Plan.e1 (HLe.refl _) ?_)
       refine Plan.s1 3 [4, 5, 6] kA kA rfl ?_
       obtain ⟨r76, er76⟩ : ∃ r, r = (k_21 x13c4) := ⟨_, rfl⟩
       refine R.callp rfl rfl rfl (k_cd _ _ x13c4 (fF13c4_5.mono (s63.trans s69)) bA) ?_
       intro v76 H76 s76 q76
       rw [← er76] at q76
       obtain ⟨u76_0_0, rfl, w76_0_0⟩ := q76
       obtain ⟨A76_0_0, p76_0_0, rfl, m76_0_0, n76_0_0, w76_0_0⟩ := RdS.shape w76_0_0
       have trk76 := rkeys_len _ _ er76
       refine TL.nil (Plan.e1 (s76) ?_)
       refine Plan.s1 4 [5, 6] kA kA rfl ?_
       obtain ⟨r77, er77⟩ : ∃ r, r = (k_25 xb7l2_0 yl2 r76) := ⟨_, rfl⟩
       refine TL.call [] rfl rfl rfl (k_d0 _ xb7l2_0 _ (wb7l2_0.mono (s39.trans (sF39_0_0_3.trans (sb10_4.trans (s_c3.trans (s_c4.trans (sF13c4_5.trans (s63.trans (s69.trans s76))))))))) (yl2) _ r76 w76_0_0 (by first | omega | assumption | (simp; done) | (simp; omega) | (simp at *; omega)) (by first | omega | assumption | (simp; done) | (simp; omega) | (simp at *; omega)) (by first | assumption | exact k_c5 (by assumption) oA | (intro r h; simp at h; done))) ?_
       intro v77 H77 L77 s77 q77
       rw [← er77] at q77
       obtain ⟨u77_0_0, c77_0_0, rfl, rfl, w77_0_0⟩ := q77
       obtain ⟨A77_0_0, p77_0_0, rfl, m77_0_0, n77_0_0⟩ := OwnS.shape w77_0_0
       refine TL.nil (Plan.e1 (s77) ?_)
       refine Plan.s1 5 [6] kA kA rfl ?_
       refine R.stX (old := [.slice none 0 0]) (l := [.slice A77_0_0 r77.length p77_0_0]) (new := [.slice A77_0_0 r77.length p77_0_0]) (et := 24) Tryz.sizeOf24 rfl rfl rfl rfl rfl (by show 0 + 1 ≤ 1; decide) rfl (k_20 rfl) (.tl (.tl .hd)) ?_
       refine TL.nil (Plan.e0 (HLe.refl _) ?_)
       refine vA 6 [] rfl (fun _ _ h_ => R.asE rfl cA (TL.nil h_)) ?_
       refine Plan.done (Post.blkN ?_)
       refine id (Post.thnN ?_)
       exact ⟨(0, .slice A77_0_0 r77.length p77_0_0, r77, c77_0_0), (s76.trans s77), ⟨(Has.cons (.tl .hd) (Has.cons (.tl .hd) (Has.cons (.tl .hd) (Has.cons (.tl .hd) (Has.cons (.tl .hd) (Has.cons (.tl .hd) (Has.cons (.tl .hd) (Has.cons .hd Has.nil)))))))), w77_0_0, (by subst er77; subst er76; rw [if_f c78, if_f c82, if_f c86, LR.seq_go, LR.seq_go])⟩, rfl, rfl, rfl, rfl, rfl, rfl, rfl, rfl, rfl, rfl, rfl, rfl, rfl, rfl, rfl, rfl, trivial⟩
      obtain ⟨r76, er76⟩ : ∃ r, r = (k_21 x13c4) := ⟨_, rfl⟩
      refine R.callp rfl rfl rfl (k_cd _ _ x13c4 (fF13c4_5.mono (s63.trans s69)) bA) ?_
      intro v76 H76 s76 q76
      rw [← er76] at q76
      obtain ⟨u76_0_0, rfl, w76_0_0⟩ := q76
      obtain ⟨A76_0_0, p76_0_0, rfl, m76_0_0, n76_0_0, w76_0_0⟩ := RdS.shape w76_0_0
      have trk76 := rkeys_len _ _ er76
      refine TL.nil (Plan.e1 (s76) ?_)
      refine Plan.s1 0 [4, 5, 6] kA kA rfl ?_
      refine R.ldX (cs := [.slice Ab7l2_0 xb7l2_0.length pb7l2_0]) (l := [.slice Ab7l2_0 xb7l2_0.length pb7l2_0]) Tryz.isAgg24 Tryz.sizeOf24 rfl rfl (.tl (.tl (.tl (.tl (.tl (.tl .hd)))))) rfl rfl ?_
      refine TL.nil (Plan.e1 (HLe.refl _) ?_)
      refine Plan.s1 4 [5, 6] kA kA rfl ?_
      obtain ⟨r77, er77⟩ : ∃ r, r = (k_25 xb7l2_0 yl2 r76) := ⟨_, rfl⟩
      refine TL.call [] rfl rfl rfl (k_d0 _ xb7l2_0 _ (wb7l2_0.mono (s39.trans (sF39_0_0_3.trans (sb10_4.trans (s_c3.trans (s_c4.trans (sF13c4_5.trans (s63.trans (s69.trans s76))))))))) (yl2) _ r76 w76_0_0 (by first | omega | assumption | (simp; done) | (simp; omega) | (simp at *; omega)) (by first | omega | assumption | (simp; done) | (simp; omega) | (simp at *; omega)) (by first | assumption | exact k_c5 (by assumption) oA | (intro r h; simp at h; done))) ?_
      intro v77 H77 L77 s77 q77
      rw [← er77] at q77
      obtain ⟨u77_0_0, c77_0_0, rfl, rfl, w77_0_0⟩ := q77
      obtain ⟨A77_0_0, p77_0_0, rfl, m77_0_0, n77_0_0⟩ := OwnS.shape w77_0_0
      refine TL.nil (Plan.e1 (s77) ?_)
      refine Plan.s1 5 [6] kA kA rfl ?_
      refine R.stX (old := [.slice none 0 0]) (l := [.slice A77_0_0 r77.length p77_0_0]) (new := [.slice A77_0_0 r77.length p77_0_0]) (et := 24) Tryz.sizeOf24 rfl rfl rfl rfl rfl (by show 0 + 1 ≤ 1; decide) rfl (k_20 rfl) (.tl (.tl .hd)) ?_
      refine TL.nil (Plan.e0 (HLe.refl _) ?_)
      refine vA 6 [] rfl (fun _ _ h_ => R.asE rfl cA (TL.nil h_)) ?_
      refine Plan.done (Post.blkN ?_)
      refine id (Post.thnN ?_)
      exact ⟨(0, .slice A77_0_0 r77.length p77_0_0, r77, c77_0_0), (s76.trans s77), ⟨(Has.cons (.tl .hd) (Has.cons (.tl .hd) (Has.cons (.tl .hd) (Has.cons (.tl .hd) (Has.cons (.tl .hd) (Has.cons (.tl .hd) (Has.cons (.tl .hd) (Has.cons .hd Has.nil)))))))), w77_0_0, (by subst er77; subst er76; rw [if_f c78, if_f c82, if_f c86, LR.seq_go, LR.seq_go])⟩, rfl, rfl, rfl, rfl, rfl, rfl, rfl, rfl, rfl, rfl, rfl, rfl, rfl, rfl, rfl, rfl, trivial⟩
     intro ⟨n20c6, vb18c6_0, xb18c6_0, cb18c6_0⟩ σ_c6 H_c6 L_c6 ds_c6 s_c6 hI_c6
     obtain ⟨hLc6, wb18c6_0, hTc6⟩ := hI_c6
     obtain ⟨Ab18c6_0, pb18c6_0, rfl, mb18c6_0, nb18c6_0_⟩ := OwnS.shape wb18c6_0
     refine T.has hLc6 ?_
     refine sR ?_
     refine R.asE rfl cA ?_
     refine nN ?_
     refine sR ?_
     refine R.mvE rfl cA ?_
     refine nN ?_
     refine T.cond rfl (fun c88 => ?_) (fun c88 => ?_)
     ·refine T.set 88 (.bool true) (congrArg Value.bool c88) ?_
      have hZ88 := hTc3.trans c88
      try simp only [or_f, or_t, k_bf, k_c0, decide_eq_true_eq, decide_eq_false_iff_not, Bool.not_eq_true'] at hZ88
      refine T.region ?_
      refine R.ldX (cs := [.slice Ab7l2_0 xb7l2_0.length pb7l2_0]) (l := [.slice Ab7l2_0 xb7l2_0.length pb7l2_0]) Tryz.isAgg24 Tryz.sizeOf24 rfl rfl (.tl (.tl (.tl (.tl (.tl (.tl .hd)))))) rfl rfl ?_
      refine R.mvE rfl cA ?_
      obtain ⟨r91, er91⟩ : ∃ r, r = (k_25 xb7l2_0 yl2 []) := ⟨_, rfl⟩
      refine TL.call [] rfl rfl rfl (k_d0 _ xb7l2_0 _ (wb7l2_0.mono (s39.trans (sF39_0_0_3.trans (sb10_4.trans (s_c3.trans (s_c4.trans (sF13c4_5.trans (s63.trans (s69.trans s_c6))))))))) (yl2) _ [] RdS.nil (by first | omega | assumption | (simp; done) | (simp; omega) | (simp at *; omega)) (by first | omega | assumption | (simp; done) | (simp; omega) | (simp at *; omega)) (by first | assumption | exact k_c5 (by assumption) oA | (intro r h; simp at h; done))) ?_
      intro v91 H91 L91 s91 q91
      rw [← er91] at q91
      obtain ⟨u91_0_0, c91_0_0, rfl, rfl, w91_0_0⟩ := q91
      obtain ⟨A91_0_0, p91_0_0, rfl, m91_0_0, n91_0_0⟩ := OwnS.shape w91_0_0
      refine R.stX (old := [.slice none 0 0]) (l := [.slice A91_0_0 r91.length p91_0_0]) (new := [.slice A91_0_0 r91.length p91_0_0]) (et := 24) Tryz.sizeOf24 rfl rfl rfl rfl rfl (by show 0 + 1 ≤ 1; decide) rfl (k_20 rfl) (.tl .hd) ?_
      refine R.asE rfl cA ?_
      refine nN ?_
      exact ⟨(n20c6, 0, .slice A91_0_0 r91.length p91_0_0, r91, c91_0_0, .slice Ab18c6_0 xb18c6_0.length pb18c6_0, xb18c6_0, cb18c6_0), (s_c6.trans s91), ⟨(Has.cons (.tl .hd) (Has.cons (.tl .hd) (Has.cons (.tl .hd) (Has.cons (.tl .hd) (Has.cons (.tl .hd) (Has.cons (.tl .hd) (Has.cons (.tl .hd) (Has.cons .hd (Has.cons .hd Has.nil))))))))), w91_0_0, (OwnS.mono wb18c6_0 s91), (by subst er91; rw [if_t c72, hTc6, LR.seq_go, if_t c88, LR.seq_go])⟩, rfl, rfl, rfl, rfl, rfl, rfl, rfl, rfl, rfl, rfl, rfl, rfl, rfl, rfl, rfl, trivial⟩
     refine T.set 88 (.bool false) (congrArg Value.bool c88) ?_
     have hZ88 := hTc3.trans c88
     try simp only [or_f, or_t, k_bf, k_c0, decide_eq_true_eq, decide_eq_false_iff_not, Bool.not_eq_true'] at hZ88
     refine T.skip (Post.thnN ?_)
     exact ⟨(n20c6, 4, .slice none 0 0, [], [], .slice Ab18c6_0 xb18c6_0.length pb18c6_0, xb18c6_0, cb18c6_0), s_c6, ⟨(Has.cons .hd (Has.cons .hd (Has.cons .hd (Has.cons .hd (Has.cons .hd (Has.cons .hd (Has.cons .hd (Has.none (Has.cons .hd Has.nil))))))))), OwnS.nil, wb18c6_0, (by rw [if_t c72, hTc6, LR.seq_go, if_f c88])⟩, rfl, rfl, rfl, rfl, rfl, rfl, rfl, rfl, rfl, rfl, rfl, rfl, rfl, rfl, rfl, trivial⟩
    refine T.set 72 (.bool false) (congrArg Value.bool c72) ?_
    refine T.skip (Post.thnN ?_)
    exact ⟨(240, 240, .slice none 0 0, [], [], .slice none 0 0, [], []), HLe.refl _, ⟨(Has.cons .hd (Has.cons .hd (Has.cons .hd (Has.cons .hd (Has.cons .hd (Has.cons .hd (Has.cons .hd (Has.none (Has.none Has.nil))))))))), OwnS.nil, OwnS.nil, (by rw [if_f c72])⟩, rfl, rfl, rfl, rfl, rfl, rfl, rfl, rfl, rfl, rfl, rfl, rfl, rfl, rfl, rfl, trivial⟩
   intro ⟨n20c5, n21c5, vb19c5_0, xb19c5_0, cb19c5_0, vb18c5_0, xb18c5_0, cb18c5_0⟩ σ_c5 H_c5 L_c5 ds_c5 s_c5 hI_c5
   obtain ⟨hLc5, wb19c5_0, wb18c5_0, hTc5⟩ := hI_c5
   obtain ⟨Ab19c5_0, pb19c5_0, rfl, mb19c5_0, nb19c5_0_⟩ := OwnS.shape wb19c5_0
   obtain ⟨Ab18c5_0, pb18c5_0, rfl, mb18c5_0, nb18c5_0_⟩ := OwnS.shape wb18c5_0
   refine T.has hLc5 ?_
   refine T.seq ?_
   refine T.seq ?_
   refine T.shut (.tl (.tl (.tl (.tl (.tl (.tl (.tl (.tl .hd)))))))) ?_
   intro HFb18c5_0_6 sFb18c5_0_6 qFb18c5_0_6
   have fFb18c5_0_6 := OwnS.read wb18c5_0 sFb18c5_0_6 qFb18c5_0_6
   refine T.shut (.tl (.tl (.tl (.tl (.tl (.tl (.tl .hd))))))) ?_
   intro HFb19c5_0_7 sFb19c5_0_7 qFb19c5_0_7
   have fFb19c5_0_7 := OwnS.read (OwnS.mono wb19c5_0 sFb18c5_0_6) sFb19c5_0_7 qFb19c5_0_7
   refine T.cutK (ι := Bool) (fun b111c7 H' L' ds' => Has L' [[(b19, .cells #[.slice Ab19c5_0 xb19c5_0.length pb19c5_0] 24)], [(b18, .cells #[.slice Ab18c5_0 xb18c5_0.length pb18c5_0] 24)], [(b16, .cells #[.slice A69_0_0 r69.1.length p69_0_0] 24)], c69_0_0, [(b14, .cells #[.slice A63_0_0 r63.1.length p63_0_0] 24)], c63_0_0, [(b7, .cells #[.slice Ab7l2_0 xb7l2_0.length pb7l2_0] 24)]] ∧ (if r63.2 ≠ n20c5 then true else (if r69.2 ≠ n21c5 then true else (if (!(k_45 r63.1 xb18c5_0)) = true then true else ((!(k_45 r69.1 xb19c5_0))))) : Bool) = b111c7) (fun b111c7 => [(2, .slice Aa2 a2.length ca2), (7, .pointer (some ⟨b7, 0, none⟩)), (8, .int .i64 (kl2 : Int)), (10, .pointer (some ⟨b10, 0, none⟩)), (14, .pointer (some ⟨b14, 0, none⟩)), (15, .int .i64 (r63.2)), (16, .pointer (some ⟨b16, 0, none⟩)), (17, .int .i64 (r69.2)), (18, .pointer (some ⟨b18, 0, none⟩)), (19, .pointer (some ⟨b19, 0, none⟩)), (29, .slice Aa1 a1.length ca1), (30, .int .i64 (a1.length : Int)), (31, .int .i64 (kl2 : Int)), (111, .bool (b111c7))]) ?_ ?_
   ·refine T.region ?_
    refine R.mvE rfl cA ?_
    refine R.mvE rfl cA ?_
    refine R.neq rfl rfl rfl ?_
    refine R.mvE rfl cA ?_
    refine TL.gsplitD 95 rfl (fun g95 => ?_) (fun g95 => ?_)
    ·refine TL.off rfl rfl rfl ?_
     refine TL.off rfl rfl rfl ?_
     refine TL.off rfl rfl rfl ?_
     refine R.pkTE rfl rfl cA ?_
     refine R.mvE rfl cA ?_
     refine TL.off rfl rfl rfl ?_
     refine TL.off rfl rfl rfl ?_
     refine TL.off rfl rfl rfl ?_
     refine TL.off rfl rfl rfl ?_
     refine R.pkTE rfl rfl cA ?_
     refine R.mvE rfl cA ?_
     refine TL.off rfl rfl rfl ?_
     refine TL.off rfl rfl rfl ?_
     refine TL.off rfl rfl rfl ?_
     refine TL.off rfl rfl rfl ?_
     refine R.pkTE rfl rfl cA ?_
     refine nN ?_
     exact ⟨true, HLe.refl _, ⟨(Has.cons .hd (Has.cons .hd (Has.cons .hd (Has.cons .hd (Has.cons .hd (Has.cons .hd (Has.cons .hd Has.nil))))))), (by rw [if_pos g95])⟩, rfl, rfl, rfl, rfl, rfl, rfl, rfl, rfl, rfl, rfl, rfl, rfl, rfl, rfl, trivial⟩
    refine R.mvE rfl cA ?_
    refine R.mvE rfl cA ?_
    refine R.neq rfl rfl rfl ?_
    refine R.pkFE rfl rfl cA ?_
    refine R.mvE rfl cA ?_
    refine TL.gsplitD 100 rfl (fun g100 => ?_) (fun g100 => ?_)
    ·refine TL.off rfl rfl rfl ?_
     refine TL.off rfl rfl rfl ?_
     refine TL.off rfl rfl rfl ?_
     refine TL.off rfl rfl rfl ?_
     refine R.pkTE rfl rfl cA ?_
     refine R.mvE rfl cA ?_
     refine TL.off rfl rfl rfl ?_
     refine TL.off rfl rfl rfl ?_
     refine TL.off rfl rfl rfl ?_
     refine TL.off rfl rfl rfl ?_
     refine R.pkTE rfl rfl cA ?_
     refine nN ?_
     exact ⟨true, HLe.refl _, ⟨(Has.cons .hd (Has.cons .hd (Has.cons .hd (Has.cons .hd (Has.cons .hd (Has.cons .hd (Has.cons .hd Has.nil))))))), (by rw [if_neg g95, if_pos g100])⟩, rfl, rfl, rfl, rfl, rfl, rfl, rfl, rfl, rfl, rfl, rfl, rfl, rfl, rfl, trivial⟩
    refine R.ldX (cs := [.slice A63_0_0 r63.1.length p63_0_0]) (l := [.slice A63_0_0 r63.1.length p63_0_0]) Tryz.isAgg24 Tryz.sizeOf24 rfl rfl (.tl (.tl (.tl (.tl .hd)))) rfl rfl ?_
    refine R.ldX (cs := [.slice Ab18c5_0 xb18c5_0.length pb18c5_0]) (l := [.slice Ab18c5_0 xb18c5_0.length pb18c5_0]) Tryz.isAgg24 Tryz.sizeOf24 rfl rfl (.tl .hd) rfl rfl ?_
    refine R.callvB rfl rfl rfl (fun HB103 sB103 qB103 => by have fB103_0 := OwnD.read (OwnD.mono w63_0_0 (s69.trans (s_c5.trans (sFb18c5_0_6.trans sFb19c5_0_7)))) sB103 (In.all (.tl (.tl (.tl (.tl (.tl .hd))))) qB103); exact (k_ca _ r63.1 _ fB103_0 xb18c5_0 _ (fFb18c5_0_6.mono (sFb19c5_0_7.trans sB103)))) ?_
    refine R.not rfl rfl ?_
    refine R.pkFE rfl rfl cA ?_
    refine R.mvE rfl cA ?_
    refine TL.gsplit 106 rfl (fun g106 => ?_) (fun g106 => ?_)
    ·refine TL.off rfl rfl rfl ?_
     refine TL.off rfl rfl rfl ?_
     refine TL.off rfl rfl rfl ?_
     refine TL.off rfl rfl rfl ?_
     refine R.pkTE rfl rfl cA ?_
     refine nN ?_
     exact ⟨true, HLe.refl _, ⟨(Has.cons .hd (Has.cons .hd (Has.cons .hd (Has.cons .hd (Has.cons .hd (Has.cons .hd (Has.cons .hd Has.nil))))))), (by rw [if_neg g95, if_neg g100, if_t g106])⟩, rfl, rfl, rfl, rfl, rfl, rfl, rfl, rfl, rfl, rfl, rfl, rfl, rfl, rfl, trivial⟩
    refine R.ldX (cs := [.slice A69_0_0 r69.1.length p69_0_0]) (l := [.slice A69_0_0 r69.1.length p69_0_0]) Tryz.isAgg24 Tryz.sizeOf24 rfl rfl (.tl (.tl .hd)) rfl rfl ?_
    refine R.ldX (cs := [.slice Ab19c5_0 xb19c5_0.length pb19c5_0]) (l := [.slice Ab19c5_0 xb19c5_0.length pb19c5_0]) Tryz.isAgg24 Tryz.sizeOf24 rfl rfl .hd rfl rfl ?_
    refine R.callvB rfl rfl rfl (fun HB109 sB109 qB109 => by have fB109_0 := OwnD.read (OwnD.mono w69_0_0 (s_c5.trans (sFb18c5_0_6.trans sFb19c5_0_7))) sB109 (In.all (.tl (.tl (.tl .hd))) qB109); exact (k_ca _ r69.1 _ fB109_0 xb19c5_0 _ (fFb19c5_0_7.mono sB109))) ?_
    refine R.not rfl rfl ?_
    refine R.pkFE rfl rfl cA ?_
    refine nN ?_
    exact ⟨(!(k_45 r69.1 xb19c5_0)), HLe.refl _, ⟨(Has.cons .hd (Has.cons .hd (Has.cons .hd (Has.cons .hd (Has.cons .hd (Has.cons .hd (Has.cons .hd Has.nil))))))), (by rw [if_neg g95, if_neg g100, if_f g106])⟩, rfl, rfl, rfl, rfl, rfl, rfl, rfl, rfl, rfl, rfl, rfl, rfl, rfl, rfl, trivial⟩
   intro b111c7 σ_c7 H_c7 L_c7 ds_c7 s_c7 hI_c7
   obtain ⟨hLc7, hTc7⟩ := hI_c7
   refine T.has hLc7 ?_
   refine T.cond rfl (fun c111 => ?_) (fun c111 => ?_)
   ·refine T.set 111 (.bool true) (congrArg Value.bool c111) ?_
    have hZ111 := hTc7.trans c111
    try simp only [or_f, or_t, k_bf, k_c0, decide_eq_true_eq, decide_eq_false_iff_not, Bool.not_eq_true'] at hZ111
    refine sR ?_
    refine R.asE rfl cA ?_
    refine nN ?_
    refine T.has Has.nil ?_
    refine T.ret (Post.thnR (Post.blkR (Post.thnR (Post.thnR (Post.blkR (Post.thnR ?_))))))
    have hXl2 : k_d a2 a1 0 r28 = .ret (.ret false) := by subst er69; subst er63; subst er39; rw [← hQl2, k_16 hyl2, k_d]; rw [if_neg c37, LR.seq_go, hTc3, LR.seq_go, hTc4, LR.seq_go, LR.seq_go, LR.seq_go, hTc5, LR.seq_go, hTc7, LR.seq_go, if_t c111]
    have hM : k_3d a0 a1 a2 = false := by subst er28; rw [k_3d, if_f c26, LR.seq_go, hXl2, LR.on_ret, LR.on_ret]
    exact fin1L (v := .bool false) [] rfl rfl (List.Sublist.refl _) ⟨rfl, by first | rw [hM] | rfl⟩
   refine T.set 111 (.bool false) (congrArg Value.bool c111) ?_
   have hZ111 := hTc7.trans c111
   try simp only [or_f, or_t, k_bf, k_c0, decide_eq_true_eq, decide_eq_false_iff_not, Bool.not_eq_true'] at hZ111
   refine T.skip (Post.thnN ?_)
   refine T.seq ?_
   refine sR ?_
   refine R.ldX (cs := [.slice A63_0_0 r63.1.length p63_0_0]) (l := [.slice A63_0_0 r63.1.length p63_0_0]) Tryz.isAgg24 Tryz.sizeOf24 rfl rfl (.tl (.tl (.tl (.tl .hd)))) rfl rfl ?_
   refine R.ldX (cs := [.slice A69_0_0 r69.1.length p69_0_0]) (l := [.slice A69_0_0 r69.1.length p69_0_0]) Tryz.isAgg24 Tryz.sizeOf24 rfl rfl (.tl (.tl .hd)) rfl rfl ?_
   refine R.bld (cs := [.slice A63_0_0 r63.1.length p63_0_0, .slice A69_0_0 r69.1.length p69_0_0]) rfl (fun _ => by kernel_rfl) ?_
   refine R.mvE rfl cA ?_
   refine nN ?_
   refine T.block ?_
   refine T.loop (ι := Nat × (List (Int × (List Int))) × Chunk × (List (Int × (List Int))) × Chunk) (fun ⟨kl8, xr69_0_0l8, cr69_0_0l8, xr63_0_0l8, cr63_0_0l8⟩ H' L' ds' => kl8 ≤ 2 ∧ Has L' [[(b19, .cells #[.slice Ab19c5_0 xb19c5_0.length pb19c5_0] 24)], [(b18, .cells #[.slice Ab18c5_0 xb18c5_0.length pb18c5_0] 24)], cr69_0_0l8, cr63_0_0l8, [(b7, .cells #[.slice Ab7l2_0 xb7l2_0.length pb7l2_0] 24)]] ∧ OwnD listedD 45 H' (.slice A69_0_0 r69.1.length p69_0_0) xr69_0_0l8 cr69_0_0l8 ∧ OwnD listedD 45 H' (.slice A63_0_0 r63.1.length p63_0_0) xr63_0_0l8 cr63_0_0l8 ∧ xr69_0_0l8.length = r69.1.length ∧ (∀ r ∈ xr69_0_0l8, r.2 ≠ []) ∧ xr63_0_0l8.length = r63.1.length ∧ (∀ r ∈ xr63_0_0l8, r.2 ≠ []) ∧ k_54 r63 r69 (2 - kl8) kl8 ((xr69_0_0l8, xr63_0_0l8)) = k_54 r63 r69 (2 - 0) 0 ((r69.1, r63.1))) (fun ⟨kl8, xr69_0_0l8, cr69_0_0l8, xr63_0_0l8, cr63_0_0l8⟩ => [(115, .int .i64 (kl8 : Int)), (2, .slice Aa2 a2.length ca2), (7, .pointer (some ⟨b7, 0, none⟩)), (8, .int .i64 (kl2 : Int)), (10, .pointer (some ⟨b10, 0, none⟩)), (15, .int .i64 (r63.2)), (17, .int .i64 (r69.2)), (18, .pointer (some ⟨b18, 0, none⟩)), (19, .pointer (some ⟨b19, 0, none⟩)), (29, .slice Aa1 a1.length ca1), (30, .int .i64 (a1.length : Int)), (31, .int .i64 (kl2 : Int)), (114, .agg #[.slice A63_0_0 r63.1.length p63_0_0, .slice A69_0_0 r69.1.length p69_0_0])]) (fun ⟨kl8, xr69_0_0l8, cr69_0_0l8, xr63_0_0l8, cr63_0_0l8⟩ => 2 - kl8) (0, r69.1, c69_0_0, r63.1, c63_0_0) ?_ ?_ ?_
   ·exact ⟨oA, (Has.cons .hd (Has.cons .hd (Has.cons (.tl .hd) (Has.cons (.tl (.tl .hd)) (Has.cons (.tl (.tl .hd)) Has.nil))))), (OwnD.mono w69_0_0 (s_c5.trans (sFb18c5_0_6.trans (sFb19c5_0_7.trans s_c7)))), (OwnD.mono w63_0_0 (s69.trans (s_c5.trans (sFb18c5_0_6.trans (sFb19c5_0_7.trans s_c7))))), (by first | omega | assumption | rfl | (simp; omega) | exact ne_set (by assumption) h127), (by first | omega | assumption | rfl | (simp; omega) | exact ne_set (by assumption) h127), (by first | omega | assumption | rfl | (simp; omega) | exact ne_set (by assumption) h127), (by first | omega | assumption | rfl | (simp; omega) | exact ne_set (by assumption) h127), (by rfl)⟩
   ·exact ⟨rfl, rfl, rfl, rfl, rfl, rfl, rfl, rfl, rfl, rfl, rfl, rfl, rfl, trivial⟩
   intro ⟨kl8, xr69_0_0l8, cr69_0_0l8, xr63_0_0l8, cr63_0_0l8⟩ σ_l8 H_l8 L_l8 ds_l8 s_l8 hI_l8
   obtain ⟨hkl8, hI_l8⟩ := hI_l8
   obtain ⟨hLl8, wr69_0_0l8, wr63_0_0l8, hBl8_0, hBl8_1, hBl8_2, hBl8_3, hQl8⟩ := hI_l8
   refine T.has hLl8 ?_
   refine sR ?_
   refine R.lss rfl rfl rfl ?_
   refine nN ?_
   refine T.seq ?_
   refine T.condD rfl (fun c116 => ?_) (fun c116 => ?_)
   ·have hltl8 : kl8 < 2 := by omega
    refine T.skip (Post.thnN ?_)
    refine T.seq ?_
    refine T.block ?_
    refine sR ?_
    refine R.idxV2 (c0 := [.slice A63_0_0 r63.1.length p63_0_0]) (c1 := [.slice A69_0_0 r69.1.length p69_0_0]) Tryz.underlying41 Tryz.sizeOf24 Tryz.isAgg24 rfl rfl rfl rfl rfl bA bA ?_
    refine ⟨fun i117 => ?_, fun i117 => ?_⟩
    ·refine R.alloc Tryz.zeroValue24 rfl ?_
     intro b23
     refine R.stX (old := [.slice none 0 0]) (l := [.slice A63_0_0 r63.1.length p63_0_0]) (new := [.slice A63_0_0 r63.1.length p63_0_0]) (et := 24) Tryz.sizeOf24 rfl rfl rfl rfl rfl (by show 0 + 1 ≤ 1; decide) rfl (k_20 rfl) .hd ?_
     refine nN ?_
     refine sR ?_
     refine R.fldA Tryz.underlying24 rfl Tryz.sizeOf22 (by decide) rfl rfl ?_
     refine R.ld Tryz.isAgg22 rfl rfl .hd rfl ?_
     refine R.len Tryz.underlying22 rfl rfl ?_
     refine R.mvE rfl cA ?_
     refine nN ?_
     refine T.block ?_
     refine T.loop (ι := Nat × (List (Int × (List Int))) × Chunk) (fun ⟨kl9, xr63_0_0l9, cr63_0_0l9⟩ H' L' ds' => kl9 ≤ r63.1.length ∧ Has L' [[(b23, .cells #[.slice A63_0_0 r63.1.length p63_0_0] 24)], [(b19, .cells #[.slice Ab19c5_0 xb19c5_0.length pb19c5_0] 24)], [(b18, .cells #[.slice Ab18c5_0 xb18c5_0.length pb18c5_0] 24)], cr69_0_0l8, cr63_0_0l9, [(b7, .cells #[.slice Ab7l2_0 xb7l2_0.length pb7l2_0] 24)]] ∧ OwnD listedD 45 H' (.slice A63_0_0 r63.1.length p63_0_0) xr63_0_0l9 cr63_0_0l9 ∧ xr63_0_0l9.length = r63.1.length ∧ (∀ r ∈ xr63_0_0l9, r.2 ≠ []) ∧ k_76 (r63.1.length - kl9) kl9 xr63_0_0l9 = k_76 (r63.1.length - 0) 0 xr63_0_0l8) (fun ⟨kl9, xr63_0_0l9, cr63_0_0l9⟩ => [(121, .int .i64 (kl9 : Int)), (2, .slice Aa2 a2.length ca2), (7, .pointer (some ⟨b7, 0, none⟩)), (8, .int .i64 (kl2 : Int)), (10, .pointer (some ⟨b10, 0, none⟩)), (15, .int .i64 (r63.2)), (17, .int .i64 (r69.2)), (18, .pointer (some ⟨b18, 0, none⟩)), (19, .pointer (some ⟨b19, 0, none⟩)), (23, .pointer (some ⟨b23, 0, none⟩)), (29, .slice Aa1 a1.length ca1), (30, .int .i64 (a1.length : Int)), (31, .int .i64 (kl2 : Int)), (114, .agg #[.slice A63_0_0 r63.1.length p63_0_0, .slice A69_0_0 r69.1.length p69_0_0]), (115, .int .i64 (kl8 : Int)), (120, .int .i64 (r63.1.length : Int))]) (fun ⟨kl9, xr63_0_0l9, cr63_0_0l9⟩ => r63.1.length - kl9) (0, xr63_0_0l8, cr63_0_0l8) ?_ ?_ ?_
     ·exact ⟨oA, (Has.cons .hd (Has.cons .hd (Has.cons .hd (Has.cons .hd (Has.cons .hd (Has.cons .hd Has.nil)))))), wr63_0_0l8, (by first | omega | assumption | rfl | (simp; omega) | exact ne_set (by assumption) h127), (by first | omega | assumption | rfl | (simp; omega) | exact ne_set (by assumption) h127), (by rfl)⟩
     ·exact ⟨rfl, rfl, rfl, rfl, rfl, rfl, rfl, rfl, rfl, rfl, rfl, rfl, rfl, rfl, rfl, rfl, trivial⟩
     intro ⟨kl9, xr63_0_0l9, cr63_0_0l9⟩ σ_l9 H_l9 L_l9 ds_l9 s_l9 hI_l9
     obtain ⟨hkl9, hI_l9⟩ := hI_l9
     obtain ⟨hLl9, wr63_0_0l9, hBl9_0, hBl9_1, hQl9⟩ := hI_l9
     refine T.has hLl9 ?_
     refine sR ?_
     refine R.lss rfl rfl rfl ?_
     refine nN ?_
     refine T.seq ?_
     refine T.condD rfl (fun c122 => ?_) (fun c122 => ?_)
     ·have hltl9 : kl9 < r63.1.length := by omega
      refine T.skip (Post.thnN ?_)
      refine T.seq ?_
      refine T.block ?_
      refine sR ?_
      refine R.mvE rfl cA ?_
      refine R.asE rfl cA ?_
      refine nN ?_
      refine T.region ?_
      refine R.fldA Tryz.underlying24 rfl Tryz.sizeOf22 (by decide) rfl rfl ?_
      refine R.ld Tryz.isAgg22 rfl rfl .hd rfl ?_
      refine R.mvE rfl cA ?_
      have hl127 : kl9 < r63.1.length := bA
      obtain ⟨y127, e127, h127⟩ : ∃ y, y = (xr63_0_0l9.getD kl9 (((0, []) : Int × (List Int)) : Int × (List Int))) ∧ xr63_0_0l9[kl9]? = some y := ⟨_, rfl, k_6 (by first | exact hl127 | simpa using hl127 | (simp only [List.length_set]; omega) | omega | (rw [(k_1 _).length_eq]; exact hl127))⟩
      have tn127 := ne_len (by assumption) h127
      obtain ⟨raws127, c0127, cd127, hC127, hO127, hD127⟩ := wr63_0_0l9
      obtain ⟨rr127, cc127, rt127, hr127, hp127, hR127, hb127⟩ := Deep.at hD127 h127
      obtain ⟨z127_1, rfl, r127_1⟩ := hR127
      obtain ⟨A127_1, p127_1, rfl, m127_1, n127_1⟩ := OwnS.shape r127_1
      obtain ⟨b127, u127, cs127, l127, f127, j127, i127, g127, k127⟩ := OwnS.elem hO127 hr127
      obtain ⟨rfl, _, _⟩ := g127
      refine TL.focus (.tl (.tl (.tl (.tl .hd)))) hC127 hp127 ?_
      refine R.ixp (sz := (rawE 2).size) Tryz.underlying22 Tryz.sizeOf45 rfl rfl rfl bA i127 ?_
      refine R.fldA Tryz.underlying45 rfl Tryz.sizeOf25 (by decide) rfl rfl ?_
      refine R.ld Tryz.isAgg25 rfl rfl (by rw [← f127]; exact .hd) (k127 1 _ rfl) ?_
      have hl130 : 0 < y127.2.length := bA
      obtain ⟨y130, e130, h130⟩ : ∃ y, y = (y127.2.getD 0 (0 : Int)) ∧ y127.2[0]? = some y := ⟨_, rfl, k_6 (by first | exact hl130 | simpa using hl130 | (simp only [List.length_set]; omega) | omega | (rw [(k_1 _).length_eq]; exact hl130))⟩
      obtain ⟨b130, u130, cs130, l130, f130, j130, i130, g130, k130⟩ := OwnS.elem r127_1 h130
      obtain rfl : l130 = [.int .i64 y130] := g130
      refine R.ixp (sz := ((intE .i64)).size) Tryz.underlying25 Tryz.sizeOf3 rfl rfl rfl bA i130 ?_
      refine R.stEF (E := (intE .i64)) (e := 3) (v := (.slice A127_1 y127.2.length p127_1)) (m := [.int .i64 0]) (o := 0) (y := y130) (y' := 0) (j := 0) Tryz.sizeOf3 rfl r127_1 (.tl .hd) i130 rfl rfl (cells1 rfl) (k_20 rfl) h130 (by show 0 + 1 ≤ 1; decide) (fun l hl => by have e0 : l = [.int .i64 y130] := hl; subst e0; exact rfl) ?_
      intro cst37 wst37
      have w127_37 : OwnD listedD 45 H_l9 (.slice A63_0_0 r63.1.length p63_0_0) (xr63_0_0l9.set kl9 ((y127.1, (y127.2.set 0 0)))) (c0127 ++ (cst37 ++ rt127)) := ⟨raws127, c0127, _, rfl, hO127, by have h := hb127 _ _ ((y127.1, (y127.2.set 0 0))) _ (HLe.refl _) ⟨_, rfl, wst37⟩; rwa [set_self hr127] at h⟩
      refine TL.unfocus (.tl .hd) .hd .hd ?_
      refine TL.nil (Post.blkN ?_)
      refine id (Post.thnN ?_)
      refine T.region ?_
      refine R.addI rfl rfl rfl oA ?_
      refine R.mvE rfl cA ?_
      refine nN ?_
      exact ⟨(kl9 + 1, (xr63_0_0l9.set kl9 ((y127.1, (y127.2.set 0 0)))), (c0127 ++ (cst37 ++ rt127))), s_l9, ⟨oA, (Has.cons (.tl .hd) (Has.cons (.tl .hd) (Has.cons (.tl .hd) (Has.cons (.tl .hd) (Has.cons .hd (Has.cons .hd Has.nil)))))), w127_37, (by first | omega | assumption | rfl | (simp; omega) | exact ne_set (by assumption) h127), (by first | omega | assumption | rfl | (simp; omega) | exact ne_set (by assumption) h127), (by subst e130; subst e127; rw [← hQl9, show r63.1.length - kl9 = (r63.1.length - (kl9 + 1)) + 1 by omega, k_76])⟩, by show r63.1.length - (kl9 + 1) < r63.1.length - kl9; omega, rfl, rfl, rfl, rfl, rfl, rfl, rfl, rfl, rfl, rfl, rfl, rfl, rfl, rfl, rfl, rfl, trivial⟩
     refine T.exit (Post.thnE (Post.thnE (Post.blkX ?_)))
     have hEl9 : k_76 (r63.1.length - 0) 0 xr63_0_0l8 = xr63_0_0l9 := (hQl9.symm.trans (by rw [show kl9 = r63.1.length by omega, Nat.sub_self, k_76]))
     refine id (Post.blkN ?_)
     refine id (Post.thnN ?_)
     refine T.region ?_
     refine R.addI rfl rfl rfl oA ?_
     refine R.mvE rfl cA ?_
     refine nN ?_
     exact ⟨(kl8 + 1, xr69_0_0l8, cr69_0_0l8, xr63_0_0l9, cr63_0_0l9), (s_l8.trans s_l9), ⟨oA, (Has.cons (.tl .hd) (Has.cons (.tl .hd) (Has.cons (.tl .hd) (Has.cons (.tl .hd) (Has.cons (.tl .hd) Has.nil))))), (OwnD.mono wr69_0_0l8 s_l9), wr63_0_0l9, (by first | omega | assumption | rfl | (simp; omega) | exact ne_set (by assumption) h127), (by first | omega | assumption | rfl | (simp; omega) | exact ne_set (by assumption) h127), (by first | omega | assumption | rfl | (simp; omega) | exact ne_set (by assumption) h127), (by first | omega | assumption | rfl | (simp; omega) | exact ne_set (by assumption) h127), (by rw [← hQl8, show 2 - kl8 = (2 - (kl8 + 1)) + 1 by omega, k_54]; rw [if_pos i117, hEl9, LR.seq_go])⟩, by show 2 - (kl8 + 1) < 2 - kl8; omega, rfl, rfl, rfl, rfl, rfl, rfl, rfl, rfl, rfl, rfl, rfl, rfl, rfl, trivial⟩
    refine R.alloc Tryz.zeroValue24 rfl ?_
    intro b23
    refine R.stX (old := [.slice none 0 0]) (l := [.slice A69_0_0 r69.1.length p69_0_0]) (new := [.slice A69_0_0 r69.1.length p69_0_0]) (et := 24) Tryz.sizeOf24 rfl rfl rfl rfl rfl (by show 0 + 1 ≤ 1; decide) rfl (k_20 rfl) .hd ?_
    refine nN ?_
    refine sR ?_
    refine R.fldA Tryz.underlying24 rfl Tryz.sizeOf22 (by decide) rfl rfl ?_
    refine R.ld Tryz.isAgg22 rfl rfl .hd rfl ?_
    refine R.len Tryz.underlying22 rfl rfl ?_
    refine R.mvE rfl cA ?_
    refine nN ?_
    refine T.block ?_
    refine T.loop (ι := Nat × (List (Int × (List Int))) × Chunk) (fun ⟨kl9a, xr69_0_0l9a, cr69_0_0l9a⟩ H' L' ds' => kl9a ≤ r69.1.length ∧ Has L' [[(b23, .cells #[.slice A69_0_0 r69.1.length p69_0_0] 24)], [(b19, .cells #[.slice Ab19c5_0 xb19c5_0.length pb19c5_0] 24)], [(b18, .cells #[.slice Ab18c5_0 xb18c5_0.length pb18c5_0] 24)], cr69_0_0l9a, cr63_0_0l8, [(b7, .cells #[.slice Ab7l2_0 xb7l2_0.length pb7l2_0] 24)]] ∧ OwnD listedD 45 H' (.slice A69_0_0 r69.1.length p69_0_0) xr69_0_0l9a cr69_0_0l9a ∧ xr69_0_0l9a.length = r69.1.length ∧ (∀ r ∈ xr69_0_0l9a, r.2 ≠ []) ∧ k_72 (r69.1.length - kl9a) kl9a xr69_0_0l9a = k_72 (r69.1.length - 0) 0 xr69_0_0l8) (fun ⟨kl9a, xr69_0_0l9a, cr69_0_0l9a⟩ => [(121, .int .i64 (kl9a : Int)), (2, .slice Aa2 a2.length ca2), (7, .pointer (some ⟨b7, 0, none⟩)), (8, .int .i64 (kl2 : Int)), (10, .pointer (some ⟨b10, 0, none⟩)), (15, .int .i64 (r63.2)), (17, .int .i64 (r69.2)), (18, .pointer (some ⟨b18, 0, none⟩)), (19, .pointer (some ⟨b19, 0, none⟩)), (23, .pointer (some ⟨b23, 0, none⟩)), (29, .slice Aa1 a1.length ca1), (30, .int .i64 (a1.length : Int)), (31, .int .i64 (kl2 : Int)), (114, .agg #[.slice A63_0_0 r63.1.length p63_0_0, .slice A69_0_0 r69.1.length p69_0_0]), (115, .int .i64 (kl8 : Int)), (120, .int .i64 (r69.1.length : Int))]) (fun ⟨kl9a, xr69_0_0l9a, cr69_0_0l9a⟩ => r69.1.length - kl9a) (0, xr69_0_0l8, cr69_0_0l8) ?_ ?_ ?_
    ·exact ⟨oA, (Has.cons .hd (Has.cons .hd (Has.cons .hd (Has.cons .hd (Has.cons .hd (Has.cons .hd Has.nil)))))), wr69_0_0l8, (by first | omega | assumption | rfl | (simp; omega) | exact ne_set (by assumption) h127), (by first | omega | assumption | rfl | (simp; omega) | exact ne_set (by assumption) h127), (by rfl)⟩
    ·exact ⟨rfl, rfl, rfl, rfl, rfl, rfl, rfl, rfl, rfl, rfl, rfl, rfl, rfl, rfl, rfl, rfl, trivial⟩
    intro ⟨kl9a, xr69_0_0l9a, cr69_0_0l9a⟩ σ_l9a H_l9a L_l9a ds_l9a s_l9a hI_l9a
    obtain ⟨hkl9a, hI_l9a⟩ := hI_l9a
    obtain ⟨hLl9a, wr69_0_0l9a, hBl9a_0, hBl9a_1, hQl9a⟩ := hI_l9a
    refine T.has hLl9a ?_
    refine sR ?_
    refine R.lss rfl rfl rfl ?_
    refine nN ?_
    refine T.seq ?_
    refine T.condD rfl (fun c122 => ?_) (fun c122 => ?_)
    ·have hltl9a : kl9a < r69.1.length := by omega
     refine T.skip (Post.thnN ?_)
     refine T.seq ?_
     refine T.block ?_
     refine sR ?_
     refine R.mvE rfl cA ?_
     refine R.asE rfl cA ?_
     refine nN ?_
     refine T.region ?_
     refine R.fldA Tryz.underlying24 rfl Tryz.sizeOf22 (by decide) rfl rfl ?_
     refine R.ld Tryz.isAgg22 rfl rfl .hd rfl ?_
     refine R.mvE rfl cA ?_
     have hl127 : kl9a < r69.1.length := bA
     obtain ⟨y127, e127, h127⟩ : ∃ y, y = (xr69_0_0l9a.getD kl9a (((0, []) : Int × (List Int)) : Int × (List Int))) ∧ xr69_0_0l9a[kl9a]? = some y := ⟨_, rfl, k_6 (by first | exact hl127 | simpa using hl127 | (simp only [List.length_set]; omega) | omega | (rw [(k_1 _).length_eq]; exact hl127))⟩
     have tn127 := ne_len (by assumption) h127
     obtain ⟨raws127, c0127, cd127, hC127, hO127, hD127⟩ := wr69_0_0l9a
     obtain ⟨rr127, cc127, rt127, hr127, hp127, hR127, hb127⟩ := Deep.at hD127 h127
     obtain ⟨z127_1, rfl, r127_1⟩ := hR127
     obtain ⟨A127_1, p127_1, rfl, m127_1, n127_1⟩ := OwnS.shape r127_1
     obtain ⟨b127, u127, cs127, l127, f127, j127, i127, g127, k127⟩ := OwnS.elem hO127 hr127
     obtain ⟨rfl, _, _⟩ := g127
     refine TL.focus (.tl (.tl (.tl .hd))) hC127 hp127 ?_
     refine R.ixp (sz := (rawE 2).size) Tryz.underlying22 Tryz.sizeOf45 rfl rfl rfl bA i127 ?_
     refine R.fldA Tryz.underlying45 rfl Tryz.sizeOf25 (by decide) rfl rfl ?_
     refine R.ld Tryz.isAgg25 rfl rfl (by rw [← f127]; exact .hd) (k127 1 _ rfl) ?_
     have hl130 : 0 < y127.2.length := bA
     obtain ⟨y130, e130, h130⟩ : ∃ y, y = (y127.2.getD 0 (0 : Int)) ∧ y127.2[0]? = some y := ⟨_, rfl, k_6 (by first | exact hl130 | simpa using hl130 | (simp only [List.length_set]; omega) | omega | (rw [(k_1 _).length_eq]; exact hl130))⟩
     obtain ⟨b130, u130, cs130, l130, f130, j130, i130, g130, k130⟩ := OwnS.elem r127_1 h130
     obtain rfl : l130 = [.int .i64 y130] := g130
     refine R.ixp (sz := ((intE .i64)).size) Tryz.underlying25 Tryz.sizeOf3 rfl rfl rfl bA i130 ?_
     refine R.stEF (E := (intE .i64)) (e := 3) (v := (.slice A127_1 y127.2.length p127_1)) (m := [.int .i64 0]) (o := 0) (y := y130) (y' := 0) (j := 0) Tryz.sizeOf3 rfl r127_1 (.tl .hd) i130 rfl rfl (cells1 rfl) (k_20 rfl) h130 (by show 0 + 1 ≤ 1; decide) (fun l hl => by have e0 : l = [.int .i64 y130] := hl; subst e0; exact rfl) ?_
     intro cst38 wst38
     have w127_38 : OwnD listedD 45 H_l9a (.slice A69_0_0 r69.1.length p69_0_0) (xr69_0_0l9a.set kl9a ((y127.1, (y127.2.set 0 0)))) (c0127 ++ (cst38 ++ rt127)) := ⟨raws127, c0127, _, rfl, hO127, by have h := hb127 _ _ ((y127.1, (y127.2.set 0 0))) _ (HLe.refl _) ⟨_, rfl, wst38⟩; rwa [set_self hr127] at h⟩
     refine TL.unfocus (.tl .hd) .hd .hd ?_
     refine TL.nil (Post.blkN ?_)
     refine id (Post.thnN ?_)
     refine T.region ?_
     refine R.addI rfl rfl rfl oA ?_
     refine R.mvE rfl cA ?_
     refine nN ?_
     exact ⟨(kl9a + 1, (xr69_0_0l9a.set kl9a ((y127.1, (y127.2.set 0 0)))), (c0127 ++ (cst38 ++ rt127))), s_l9a, ⟨oA, (Has.cons (.tl .hd) (Has.cons (.tl .hd) (Has.cons (.tl .hd) (Has.cons .hd (Has.cons .hd (Has.cons .hd Has.nil)))))), w127_38, (by first | omega | assumption | rfl | (simp; omega) | exact ne_set (by assumption) h127), (by first | omega | assumption | rfl | (simp; omega) | exact ne_set (by assumption) h127), (by subst e130; subst e127; rw [← hQl9a, show r69.1.length - kl9a = (r69.1.length - (kl9a + 1)) + 1 by omega, k_72])⟩, by show r69.1.length - (kl9a + 1) < r69.1.length - kl9a; omega, rfl, rfl, rfl, rfl, rfl, rfl, rfl, rfl, rfl, rfl, rfl, rfl, rfl, rfl, rfl, rfl, trivial⟩
    refine T.exit (Post.thnE (Post.thnE (Post.blkX ?_)))
    have hEl9a : k_72 (r69.1.length - 0) 0 xr69_0_0l8 = xr69_0_0l9a := (hQl9a.symm.trans (by rw [show kl9a = r69.1.length by omega, Nat.sub_self, k_72]))
    refine id (Post.blkN ?_)
    refine id (Post.thnN ?_)
    refine T.region ?_
    refine R.addI rfl rfl rfl oA ?_
    refine R.mvE rfl cA ?_
    refine nN ?_
    exact ⟨(kl8 + 1, xr69_0_0l9a, cr69_0_0l9a, xr63_0_0l8, cr63_0_0l8), (s_l8.trans s_l9a), ⟨oA, (Has.cons (.tl .hd) (Has.cons (.tl .hd) (Has.cons (.tl .hd) (Has.cons (.tl .hd) (Has.cons (.tl .hd) Has.nil))))), wr69_0_0l9a, (OwnD.mono wr63_0_0l8 s_l9a), (by first | omega | assumption | rfl | (simp; omega) | exact ne_set (by assumption) h127), (by first | omega | assumption | rfl | (simp; omega) | exact ne_set (by assumption) h127), (by first | omega | assumption | rfl | (simp; omega) | exact ne_set (by assumption) h127), (by first | omega | assumption | rfl | (simp; omega) | exact ne_set (by assumption) h127), (by rw [← hQl8, show 2 - kl8 = (2 - (kl8 + 1)) + 1 by omega, k_54]; rw [if_neg i117, hEl9a, LR.seq_go])⟩, by show 2 - (kl8 + 1) < 2 - kl8; omega, rfl, rfl, rfl, rfl, rfl, rfl, rfl, rfl, rfl, rfl, rfl, rfl, rfl, trivial⟩
   refine T.exit (Post.thnE (Post.thnE (Post.blkX ?_)))
   have hEl8 : k_54 r63 r69 (2 - 0) 0 ((r69.1, r63.1)) = (xr69_0_0l8, xr63_0_0l8) := (hQl8.symm.trans (by rw [show kl8 = 2 by omega, Nat.sub_self, k_54]))
   refine id (Post.thnN ?_)
   refine T.seq ?_
   refine sR ?_
   refine R.ldX (cs := [.slice Ab7l2_0 xb7l2_0.length pb7l2_0]) (l := [.slice Ab7l2_0 xb7l2_0.length pb7l2_0]) Tryz.isAgg24 Tryz.sizeOf24 rfl rfl (.tl (.tl (.tl (.tl .hd)))) rfl rfl ?_
   refine R.ldXH (cs := [.slice A39_0_0 r39.length p39_0_0]) (l := [.slice A39_0_0 r39.length p39_0_0]) Tryz.isAgg24 Tryz.sizeOf24 rfl rfl ((s_c3.trans (s_c4.trans (sF13c4_5.trans (s63.trans (s69.trans (s_c5.trans (sFb18c5_0_6.trans (sFb19c5_0_7.trans (s_c7.trans s_l8))))))))) _ _ hb10_4) rfl rfl ?_
   refine R.callv rfl rfl rfl (k_ca _ xb7l2_0 _ (wb7l2_0.mono (s39.trans (sF39_0_0_3.trans (sb10_4.trans (s_c3.trans (s_c4.trans (sF13c4_5.trans (s63.trans (s69.trans (s_c5.trans (sFb18c5_0_6.trans (sFb19c5_0_7.trans (s_c7.trans s_l8))))))))))))) r39 _ (fF39_0_0_3.mono (sb10_4.trans (s_c3.trans (s_c4.trans (sF13c4_5.trans (s63.trans (s69.trans (s_c5.trans (sFb18c5_0_6.trans (sFb19c5_0_7.trans (s_c7.trans s_l8)))))))))))) ?_
   refine R.not rfl rfl ?_
   refine nN ?_
   refine T.cond rfl (fun c136 => ?_) (fun c136 => ?_)
   ·refine T.set 136 (.bool true) (congrArg Value.bool c136) ?_
    refine sR ?_
    refine R.asE rfl cA ?_
    refine nN ?_
    refine T.has Has.nil ?_
    refine T.ret (Post.thnR (Post.blkR (Post.thnR (Post.thnR (Post.blkR (Post.thnR ?_))))))
    have hXl2 : k_d a2 a1 0 r28 = .ret (.ret false) := by subst er69; subst er63; subst er39; rw [← hQl2, k_16 hyl2, k_d]; rw [if_neg c37, LR.seq_go, hTc3, LR.seq_go, hTc4, LR.seq_go, LR.seq_go, LR.seq_go, hTc5, LR.seq_go, hTc7, LR.seq_go, if_f c111, hEl8, LR.seq_go, if_t c136]
    have hM : k_3d a0 a1 a2 = false := by subst er28; rw [k_3d, if_f c26, LR.seq_go, hXl2, LR.on_ret, LR.on_ret]
    exact fin1L (v := .bool false) [] rfl rfl (List.Sublist.refl _) ⟨rfl, by first | rw [hM] | rfl⟩
   refine T.set 136 (.bool false) (congrArg Value.bool c136) ?_
   refine T.skip (Post.thnN ?_)
   refine T.block ?_
   refine sR ?_
   refine R.mvE rfl cA ?_
   refine R.eql rfl rfl rfl ?_
   refine R.asE rfl cA ?_
   refine nN ?_
   refine T.condD rfl (fun c137 => ?_) (fun c137 => ?_)
   ·refine T.set 137 (.bool true) (congrArg Value.bool (decide_eq_true c137)) ?_
    refine T.region ?_
    refine R.ldX (cs := [.slice Ab18c5_0 xb18c5_0.length pb18c5_0]) (l := [.slice Ab18c5_0 xb18c5_0.length pb18c5_0]) Tryz.isAgg24 Tryz.sizeOf24 rfl rfl (.tl .hd) rfl rfl ?_
    obtain ⟨r141, er141⟩ : ∃ r, r = (k_34 xb18c5_0) := ⟨_, rfl⟩
    refine TL.call [] rfl rfl rfl (k_c1 _ xb18c5_0 _ (fFb18c5_0_6.mono (sFb19c5_0_7.trans (s_c7.trans s_l8)))) ?_
    intro v141 H141 L141 s141 q141
    rw [← er141] at q141
    obtain ⟨u141_0_0, c141_0_0, rfl, rfl, w141_0_0⟩ := q141
    obtain ⟨A141_0_0, p141_0_0, rfl, m141_0_0, n141_0_0⟩ := OwnS.shape w141_0_0
    have tow141 := own_len _ _ er141
    have toa141 := tow141.1
    have tob141 := tow141.2
    refine TL.shut .hd ?_
    intro HF141_0_0_8 sF141_0_0_8 qF141_0_0_8
    have fF141_0_0_8 := OwnS.read w141_0_0 sF141_0_0_8 qF141_0_0_8
    refine R.stX (old := [.slice Ab7l2_0 xb7l2_0.length pb7l2_0]) (l := [.slice A141_0_0 r141.length p141_0_0]) (new := [.slice A141_0_0 r141.length p141_0_0]) (et := 24) Tryz.sizeOf24 rfl rfl rfl rfl rfl (by show 0 + 1 ≤ 1; decide) rfl (k_20 rfl) (.tl (.tl (.tl (.tl .hd)))) ?_
    refine TL.nil (Post.blkN ?_)
    refine id (Post.blkN ?_)
    refine id (Post.thnN ?_)
    refine T.region ?_
    refine R.addI rfl rfl rfl oA ?_
    refine R.mvE rfl cA ?_
    refine nN ?_
    exact ⟨(kl2 + 1, .slice A141_0_0 r141.length p141_0_0, r141), (s_l2.trans (s39.trans (sF39_0_0_3.trans (sb10_4.trans (s_c3.trans (s_c4.trans (sF13c4_5.trans (s63.trans (s69.trans (s_c5.trans (sFb18c5_0_6.trans (sFb19c5_0_7.trans (s_c7.trans (s_l8.trans (s141.trans sF141_0_0_8))))))))))))))), ⟨oA, (Has.cons (.tl (.tl (.tl (.tl .hd)))) Has.nil), fF141_0_0_8, (by first | omega | assumption | rfl | (simp; omega) | exact ne_set (by assumption) h127), (by first | omega | assumption | rfl | (simp; omega) | exact ne_set (by assumption) h127), (by subst er141; subst er69; subst er63; subst er39; rw [← hQl2, k_16 hyl2, k_d]; rw [if_neg c37, LR.seq_go, hTc3, LR.seq_go, hTc4, LR.seq_go, LR.seq_go, LR.seq_go, hTc5, LR.seq_go, hTc7, LR.seq_go, if_f c111, hEl8, LR.seq_go, if_f c136, if_pos c137, LR.seq_go])⟩, by show a1.length - (kl2 + 1) < a1.length - kl2; omega, rfl, rfl, rfl, rfl, rfl, trivial⟩
   refine T.set 137 (.bool false) (congrArg Value.bool (decide_eq_false c137)) ?_
   refine T.seq ?_
   refine T.cutK (ι := Bool) (fun b142c10 H' L' ds' => Has L' [[(b19, .cells #[.slice Ab19c5_0 xb19c5_0.length pb19c5_0] 24)], [(b7, .cells #[.slice Ab7l2_0 xb7l2_0.length pb7l2_0] 24)]] ∧ (if r69.2 = 0 then ((decide (((Int.tmod (kl2 : Int) 2) : Int) = 0))) else false : Bool) = b142c10) (fun b142c10 => [(2, .slice Aa2 a2.length ca2), (7, .pointer (some ⟨b7, 0, none⟩)), (19, .pointer (some ⟨b19, 0, none⟩)), (29, .slice Aa1 a1.length ca1), (30, .int .i64 (a1.length : Int)), (31, .int .i64 (kl2 : Int)), (142, .bool (b142c10))]) ?_ ?_
   ·refine T.region ?_
    refine R.mvE rfl cA ?_
    refine R.eql rfl rfl rfl ?_
    refine R.mvE rfl cA ?_
    refine TL.gsplitD 145 rfl (fun g145 => ?_) (fun g145 => ?_)
    ·refine R.mvE rfl cA ?_
     refine R.rem rfl rfl rfl oA ?_
     refine R.eql rfl rfl rfl ?_
     refine R.pkTE rfl rfl cA ?_
     refine R.asE rfl cA ?_
     refine nN ?_
     exact ⟨(decide (((Int.tmod (kl2 : Int) 2) : Int) = 0)), HLe.refl _, ⟨(Has.cons .hd (Has.cons (.tl (.tl (.tl .hd))) Has.nil)), (by rw [if_pos g145])⟩, rfl, rfl, rfl, rfl, rfl, rfl, rfl, trivial⟩
    refine TL.off rfl rfl rfl ?_
    refine TL.off rfl rfl rfl ?_
    refine TL.off rfl rfl rfl ?_
    refine R.pkFE rfl rfl cA ?_
    refine R.asE rfl cA ?_
    refine nN ?_
    exact ⟨false, HLe.refl _, ⟨(Has.cons .hd (Has.cons (.tl (.tl (.tl .hd))) Has.nil)), (by rw [if_neg g145])⟩, rfl, rfl, rfl, rfl, rfl, rfl, rfl, trivial⟩
   intro b142c10 σ_c10 H_c10 L_c10 ds_c10 s_c10 hI_c10
   obtain ⟨hLc10, hTc10⟩ := hI_c10
   refine T.has hLc10 ?_
   refine T.cond rfl (fun c142 => ?_) (fun c142 => ?_)
   ·refine T.set 142 (.bool true) (congrArg Value.bool c142) ?_
    have hZ142 := hTc10.trans c142
    try simp only [or_f, or_t, k_bf, k_c0, decide_eq_true_eq, decide_eq_false_iff_not, Bool.not_eq_true'] at hZ142
    refine T.region ?_
    refine R.ldX (cs := [.slice Ab19c5_0 xb19c5_0.length pb19c5_0]) (l := [.slice Ab19c5_0 xb19c5_0.length pb19c5_0]) Tryz.isAgg24 Tryz.sizeOf24 rfl rfl .hd rfl rfl ?_
    obtain ⟨r151, er151⟩ : ∃ r, r = (k_34 xb19c5_0) := ⟨_, rfl⟩
    refine TL.call [] rfl rfl rfl (k_c1 _ xb19c5_0 _ (fFb19c5_0_7.mono (s_c7.trans (s_l8.trans s_c10)))) ?_
    intro v151 H151 L151 s151 q151
    rw [← er151] at q151
    obtain ⟨u151_0_0, c151_0_0, rfl, rfl, w151_0_0⟩ := q151
    obtain ⟨A151_0_0, p151_0_0, rfl, m151_0_0, n151_0_0⟩ := OwnS.shape w151_0_0
    have tow151 := own_len _ _ er151
    have toa151 := tow151.1
    have tob151 := tow151.2
    refine TL.shut .hd ?_
    intro HF151_0_0_9 sF151_0_0_9 qF151_0_0_9
    have fF151_0_0_9 := OwnS.read w151_0_0 sF151_0_0_9 qF151_0_0_9
    refine R.stX (old := [.slice Ab7l2_0 xb7l2_0.length pb7l2_0]) (l := [.slice A151_0_0 r151.length p151_0_0]) (new := [.slice A151_0_0 r151.length p151_0_0]) (et := 24) Tryz.sizeOf24 rfl rfl rfl rfl rfl (by show 0 + 1 ≤ 1; decide) rfl (k_20 rfl) (.tl .hd) ?_
    refine TL.nil (Post.blkN ?_)
    refine id (Post.blkN ?_)
    refine id (Post.thnN ?_)
    refine T.region ?_
    refine R.addI rfl rfl rfl oA ?_
    refine R.mvE rfl cA ?_
    refine nN ?_
    exact ⟨(kl2 + 1, .slice A151_0_0 r151.length p151_0_0, r151), (s_l2.trans (s39.trans (sF39_0_0_3.trans (sb10_4.trans (s_c3.trans (s_c4.trans (sF13c4_5.trans (s63.trans (s69.trans (s_c5.trans (sFb18c5_0_6.trans (sFb19c5_0_7.trans (s_c7.trans (s_l8.trans (s_c10.trans (s151.trans sF151_0_0_9)))))))))))))))), ⟨oA, (Has.cons (.tl .hd) Has.nil), fF151_0_0_9, (by first | omega | assumption | rfl | (simp; omega) | exact ne_set (by assumption) h127), (by first | omega | assumption | rfl | (simp; omega) | exact ne_set (by assumption) h127), (by subst er151; subst er69; subst er63; subst er39; rw [← hQl2, k_16 hyl2, k_d]; rw [if_neg c37, LR.seq_go, hTc3, LR.seq_go, hTc4, LR.seq_go, LR.seq_go, LR.seq_go, hTc5, LR.seq_go, hTc7, LR.seq_go, if_f c111, hEl8, LR.seq_go, if_f c136, if_neg c137, hTc10, LR.seq_go, if_t c142, LR.seq_go])⟩, by show a1.length - (kl2 + 1) < a1.length - kl2; omega, rfl, rfl, rfl, rfl, rfl, trivial⟩
   refine T.set 142 (.bool false) (congrArg Value.bool c142) ?_
   have hZ142 := hTc10.trans c142
   try simp only [or_f, or_t, k_bf, k_c0, decide_eq_true_eq, decide_eq_false_iff_not, Bool.not_eq_true'] at hZ142
   refine T.skip (Post.blkN ?_)
   refine id (Post.blkN ?_)
   refine id (Post.thnN ?_)
   refine T.region ?_
   refine R.addI rfl rfl rfl oA ?_
   refine R.mvE rfl cA ?_
   refine nN ?_
   exact ⟨(kl2 + 1, .slice Ab7l2_0 xb7l2_0.length pb7l2_0, xb7l2_0), (s_l2.trans (s39.trans (sF39_0_0_3.trans (sb10_4.trans (s_c3.trans (s_c4.trans (sF13c4_5.trans (s63.trans (s69.trans (s_c5.trans (sFb18c5_0_6.trans (sFb19c5_0_7.trans (s_c7.trans (s_l8.trans s_c10)))))))))))))), ⟨oA, (Has.cons (.tl .hd) Has.nil), (wb7l2_0.mono (s39.trans (sF39_0_0_3.trans (sb10_4.trans (s_c3.trans (s_c4.trans (sF13c4_5.trans (s63.trans (s69.trans (s_c5.trans (sFb18c5_0_6.trans (sFb19c5_0_7.trans (s_c7.trans (s_l8.trans s_c10)))))))))))))), (by first | omega | assumption | rfl | (simp; omega) | exact ne_set (by assumption) h127), (by first | omega | assumption | rfl | (simp; omega) | exact ne_set (by assumption) h127), (by subst er69; subst er63; subst er39; rw [← hQl2, k_16 hyl2, k_d]; rw [if_neg c37, LR.seq_go, hTc3, LR.seq_go, hTc4, LR.seq_go, LR.seq_go, LR.seq_go, hTc5, LR.seq_go, hTc7, LR.seq_go, if_f c111, hEl8, LR.seq_go, if_f c136, if_neg c137, hTc10, LR.seq_go, if_f c142])⟩, by show a1.length - (kl2 + 1) < a1.length - kl2; omega, rfl, rfl, rfl, rfl, rfl, trivial⟩
  refine T.exit (Post.thnE (Post.thnE (Post.blkX ?_)))
  have hEl2 : k_d a2 a1 0 r28 = .go () := (hQl2.symm.trans (by rw [show kl2 = a1.length by omega, List.drop_length, k_d]))
  refine id (Post.thnN ?_)
  exact ⟨(), s_l2, ⟨Has.nil, (by rw [hEl2, LR.on_go])⟩, trivial⟩
 intro _ σ_c1 H_c1 L_c1 ds_c1 s_c1 hI_c1
 obtain ⟨hLc1, hTc1⟩ := hI_c1
 refine T.has hLc1 ?_
 refine sR ?_
 refine R.asE rfl cA ?_
 refine nN ?_
 refine T.has Has.nil ?_
 refine T.ret ?_
 have hM : k_3d a0 a1 a2 = true := by subst er28; rw [k_3d, if_f c26, LR.seq_go, hTc1, LR.on_go]
 exact fin1L (v := .bool true) [] rfl rfl (List.Sublist.refl _) ⟨rfl, by first | rw [hM] | rfl⟩
end Go.SX

set_option linter.unusedVariables false
set_option linter.unusedSimpArgs false
namespace Go.SX
open Go
theorem r03_has (n : Int) : ∀ l : List Int, k_90 l n = decide (n ∈ l)
  | [] => rfl
  | y :: ys => by
    have ih := r03_has n ys
    unfold k_90 at ih ⊢
    rw [k_7e]
    by_cases e : y = n
    · rw [if_pos e, LR.on_ret]; subst e; exact (decide_eq_true (List.mem_cons_self ..)).symm
    · rw [if_neg e, ih]
      exact decide_eq_decide.2 ⟨fun q => List.mem_cons_of_mem _ q, fun q => by rcases List.mem_cons.1 q with q | q; exact absurd q.symm e; exact q⟩
theorem with_l1 (n : Int) : ∀ (l a : List Int), k_58 n l a = a ++ l.filter (fun y => decide (y < n))
  | [], a => by simp [k_58]
  | y :: ys, a => by
    rw [k_58, List.filter_cons]
    by_cases h : y < n
    · rw [if_pos h, with_l1 n ys, if_pos (decide_eq_true h)]; simp
    · rw [if_neg h, with_l1 n ys, if_neg (by simpa using h)]
theorem with_l2 (n : Int) : ∀ (l a : List Int), k_57 n l a = a ++ l.filter (fun y => decide (n < y))
  | [], a => by simp [k_57]
  | y :: ys, a => by
    rw [k_57, List.filter_cons]
    by_cases h : n < y
    · rw [if_pos h, with_l2 n ys, if_pos (decide_eq_true h)]; simp
    · rw [if_neg h, with_l2 n ys, if_neg (by simpa using h)]
theorem with_eq (l : List Int) (n : Int) : k_63 l n = l.filter (fun y => decide (y < n)) ++ [n] ++ l.filter (fun y => decide (n < y)) := by
  unfold k_63
  simp only [LR.seq_go]
  rw [with_l1, with_l2, List.nil_append]
theorem with_law {l : List Int} (hl : l.Pairwise (· < ·)) (n : Int) : (k_63 l n).Pairwise (· < ·) ∧ ∀ y, y ∈ k_63 l n ↔ y = n ∨ y ∈ l := by
  rw [with_eq]
  refine ⟨?_, fun y => ?_⟩
  · rw [List.append_assoc, List.pairwise_append]
    refine ⟨hl.sublist List.filter_sublist, ?_, fun u hu v hv => ?_⟩
    · rw [List.singleton_append, List.pairwise_cons]
      exact ⟨fun v hv => of_decide_eq_true (List.mem_filter.1 hv).2, hl.sublist List.filter_sublist⟩
    · have h1 : u < n := of_decide_eq_true (List.mem_filter.1 hu).2
      rw [List.singleton_append] at hv
      rcases List.mem_cons.1 hv with e | hv
      · rw [e]; exact h1
      · have h2 : n < v := of_decide_eq_true (List.mem_filter.1 hv).2
        omega
  · rw [List.mem_append, List.mem_append, List.mem_singleton, List.mem_filter, List.mem_filter, decide_eq_true_eq, decide_eq_true_eq]
    constructor
    · rintro ((q | q) | q)
      · exact .inr q.1
      · exact .inl q
      · exact .inr q.1
    · rintro (q | q)
      · exact .inl (.inr q)
      · rcases Int.lt_trichotomy y n with z | z | z
        · exact .inl (.inl ⟨q, z⟩)
        · exact .inl (.inr z)
        · exact .inr ⟨q, z⟩
def setF (x : Ix) (n : Int) (K : List Int) (i : Int) : List Int := if i ∈ K then k_63 ((findA x i).filter (fun y => !decide (y = n))) n else (findA x i).filter (fun y => !decide (y = n))
theorem set_l3 (x : Ix) (n : Int) (K : List Int) : ∀ (A : List Int) (s : Ix), k_62 x n K A s = s ++ turnL (setF x n K) A
  | [], s => by simp [k_62, turnL]
  | i :: A, s => by
    rw [k_62]
    simp only [LR.seq_go]
    rw [r14_find, rwithout_eq, r03_has]
    have ht : (if decide (i ∈ K) = true then k_63 ((findA x i).filter (fun y => !decide (y = n))) n else (findA x i).filter (fun y => !decide (y = n))) = setF x n K i := by
      unfold setF
      by_cases h : i ∈ K
      · rw [if_pos (decide_eq_true h), if_pos h]
      · rw [if_neg (by simpa using h), if_neg h]
    rw [ht]
    unfold turnL
    rw [List.filterMap_cons]
    by_cases e : setF x n K i = []
    · rw [if_pos e, if_neg (by rw [e]; decide)]
      exact set_l3 x n K A s
    · rw [if_neg e, if_pos (by have := List.length_pos_iff.2 e; omega), set_l3 x n K A]
      simp [turnL]
theorem set_l1 : ∀ (x : Ix) (a : List Int), a.Pairwise (· < ·) → (k_6f x a).Pairwise (· < ·) ∧ ∀ y, y ∈ k_6f x a ↔ y ∈ a ∨ y ∈ x.map Prod.fst
  | [], a, h => ⟨h, fun y => by simp [k_6f]⟩
  | r :: x, a, h => by
    rw [k_6f, LR.seq_go]
    obtain ⟨p1, p2⟩ := rput_law h r.1
    obtain ⟨q1, q2⟩ := set_l1 x _ p1
    refine ⟨q1, fun y => ?_⟩
    rw [q2, p2, List.map_cons, List.mem_cons]
    constructor
    · rintro ((z | z) | z)
      · exact .inr (.inl z)
      · exact .inl z
      · exact .inr (.inr z)
    · rintro (z | z | z)
      · exact .inl (.inr z)
      · exact .inl (.inl z)
      · exact .inr z
theorem set_l2 : ∀ (x : List Int) (a : List Int), a.Pairwise (· < ·) → (k_73 x a).Pairwise (· < ·) ∧ ∀ y, y ∈ k_73 x a ↔ y ∈ a ∨ y ∈ x
  | [], a, h => ⟨h, fun y => by simp [k_73]⟩
  | r :: x, a, h => by
    rw [k_73, LR.seq_go]
    obtain ⟨p1, p2⟩ := rput_law h r
    obtain ⟨q1, q2⟩ := set_l2 x _ p1
    refine ⟨q1, fun y => ?_⟩
    rw [q2, p2, List.mem_cons]
    constructor
    · rintro ((z | z) | z)
      · exact .inr (.inl z)
      · exact .inl z
      · exact .inr (.inr z)
    · rintro (z | z | z)
      · exact .inl (.inr z)
      · exact .inl (.inl z)
      · exact .inr z
/-- The document's Set: tidy, and what it finds. -/
theorem set_law (x : Ix) (n : Int) (K : List Int) : Tidy (k_25 x n K) ∧ ∀ i, findA (k_25 x n K) i = setF x n K i := by
  unfold k_25
  simp only [LR.seq_go]
  obtain ⟨a1, a2⟩ := set_l1 x [] List.Pairwise.nil
  obtain ⟨b1, b2⟩ := set_l2 K _ a1
  rw [set_l3, List.nil_append]
  refine ⟨⟨turnL_up _ b1, fun r hr => by rw [(turnL_mem.1 hr).2.1]; exact (turnL_mem.1 hr).2.2⟩, fun i => findA_turnL b1 i (fun q => ?_)⟩
  rw [b2, a2] at q
  unfold setF
  have h0 : findA x i = [] := Decidable.byContradiction (fun z => q (.inl (.inr (findA_ne z))))
  rw [if_neg (fun z => q (.inr z)), h0]; rfl
theorem set_put {x : Ix} (h : RightI x) (hl : x.length ≤ 2000000) {n : Int} (K : List Int) (hin : inA x n = []) : k_25 x n K = k_59 x K (fun z => k_99 n z) := by
  obtain ⟨s1, s2⟩ := set_law x n K
  refine Tidy.ext s1 (Tidy.turned h.up hl _ _) (fun i => ?_)
  rw [s2, findA_turned h.up hl]
  have hno : n ∉ findA x i := fun q => by
    have := (inA_find h.up n i).2 q
    rw [hin] at this; cases this
  have hf : (findA x i).filter (fun y => !decide (y = n)) = findA x i := List.filter_eq_self.2 (fun y hy => by
    rw [Bool.not_eq_true', decide_eq_false_iff_not]; intro e; rw [e] at hy; exact hno hy)
  unfold setF
  rw [hf]
  by_cases e : i ∈ K
  · rw [if_pos e, if_pos e]
    have hlen : (findA x i).length ≤ 2000000 := by have := up_len (rows_len h i).1 (rows_len h i).2; omega
    obtain ⟨h1, h2⟩ := put1_law (rows_len h i).1 hlen hno
    obtain ⟨h3, h4⟩ := with_law (rows_len h i).1 n
    exact up_ext h3 h1 (fun y => by rw [h4, h2])
  · rw [if_neg e, if_neg e]
theorem set_drop {x : Ix} (h : RightI x) (hl : x.length ≤ 2000000) (n : Int) : k_25 x n [] = k_59 x (inA x n) (fun z => k_8f n z) := by
  obtain ⟨s1, s2⟩ := set_law x n []
  refine Tidy.ext s1 (Tidy.turned h.up hl _ _) (fun i => ?_)
  rw [s2, findA_turned h.up hl]
  unfold setF
  rw [if_neg (fun z => by cases z)]
  by_cases e : i ∈ inA x n
  · rw [if_pos e, drop1_eq]
  · rw [if_neg e]
    refine List.filter_eq_self.2 (fun y hy => ?_)
    rw [Bool.not_eq_true', decide_eq_false_iff_not]; intro z; rw [z] at hy; exact e ((inA_find h.up n i).2 hy)
theorem own14_id {x : Ix} (h1 : x.length ≤ 60) (h2 : ∀ r ∈ x, r.2.length ≤ 12) : k_34 x = x := by
  rw [own14_eq, List.take_of_length_le (by omega)]
  conv => rhs; rw [← List.map_id x]
  refine List.map_congr_left (fun r hr => ?_)
  have := h2 r hr
  show (r.1, r.2.take (min r.2.length 12)) = r
  rw [List.take_of_length_le (by omega)]
theorem turned_U {x : Ix} (hs : (x.map Prod.fst).Pairwise (· < ·)) (hl : x.length ≤ 2000000) {K : List Int} {g : List Int → List Int} (hu : ∀ r ∈ x, U r.1) (hK : ∀ i ∈ K, U i) : ∀ r ∈ k_59 x K g, U r.1 := by
  rw [turned_eq hs hl]
  intro r hr
  have := (turnL_mem.1 hr).1
  rw [allA_mem] at this
  rcases this with q | q
  · exact hK _ q
  · obtain ⟨z, hz, e⟩ := List.mem_map.1 q
    rw [← e]; exact hu z hz
theorem it_l2 (a2 : List (List Int)) (h2 : ∀ r ∈ a2, ∀ x ∈ r, U x) : ∀ (l : List Int) (k : Nat) (x : Ix), (∀ r ∈ x, U r.1) → x.length ≤ 60 → (∀ r ∈ x, r.2.length ≤ 12) → k_d a2 l k x = .go ()
  | [], _, _, _, _, _ => rfl
  | n :: ys, k, x, hu, hlen, hrow => by
    have ih := it_l2 a2 h2 ys (k + 1)
    rw [k_d]
    by_cases hk : (k : Int) = 8
    · rw [if_pos hk]
    rw [if_neg hk]
    simp only [LR.seq_go]
    rw [own14_id hlen hrow]
    -- the row
    obtain ⟨l, hl⟩ : ∃ l, l = (if (k : Int) < (a2.length : Int) then k_86 (a2.getD k ([] : List Int)) else [] : List Int) := ⟨_, rfl⟩
    rw [← hl]
    have hul : ∀ z ∈ l, U z := by
      rw [hl]
      intro z hz
      split at hz
      · rename_i hlt
        have hlt' : k < a2.length := by omega
        simp only [k_86] at hz
        have hz' := List.mem_of_mem_take hz
        rw [List.getD_eq_getElem?_getD, List.getElem?_eq_getElem hlt', Option.getD_some] at hz'
        exact h2 _ (List.getElem_mem hlt') z hz'
      · cases hz
    clear hl
    -- what is told is one
    obtain ⟨P, hP⟩ : ∃ P, P = k_6b x n l := ⟨_, rfl⟩
    obtain ⟨D, hD⟩ : ∃ D, D = k_8c x n := ⟨_, rfl⟩
    rw [← hP, ← hD]
    obtain ⟨sc5, hsc⟩ : ∃ sc5 : Int × Int × Ix × Ix, sc5 = (if k_15 x = true then (if (if k_15 x = true then decide ((0 : Int) < ((k_50 x n).length : Int)) else false) = true then ((if (!(k_1f n)) = true then ((2 : Int), ([] : Ix)) else (if (!(k_1c l)) = true then (130, []) else (if (if k_15 x = true then decide ((0 : Int) < ((k_50 x n).length : Int)) else false) = true then (5, []) else (0, k_25 x n (k_21 l))))).1, (0 : Int), k_25 x n [], (if (!(k_1f n)) = true then ((2 : Int), ([] : Ix)) else (if (!(k_1c l)) = true then (130, []) else (if (if k_15 x = true then decide ((0 : Int) < ((k_50 x n).length : Int)) else false) = true then (5, []) else (0, k_25 x n (k_21 l))))).2) else ((if (!(k_1f n)) = true then ((2 : Int), ([] : Ix)) else (if (!(k_1c l)) = true then (130, []) else (if (if k_15 x = true then decide ((0 : Int) < ((k_50 x n).length : Int)) else false) = true then (5, []) else (0, k_25 x n (k_21 l))))).1, 4, [], (if (!(k_1f n)) = true then ((2 : Int), ([] : Ix)) else (if (!(k_1c l)) = true then (130, []) else (if (if k_15 x = true then decide ((0 : Int) < ((k_50 x n).length : Int)) else false) = true then (5, []) else (0, k_25 x n (k_21 l))))).2)) else ((240 : Int), (240 : Int), ([] : Ix), ([] : Ix))) := ⟨_, rfl⟩
    rw [← hsc]
    have key : P.2 = sc5.1 ∧ D.2 = sc5.2.1 ∧ P.1 = sc5.2.2.2 ∧ D.1 = sc5.2.2.1 ∧ (∀ r ∈ P.1, U r.1) ∧ (∀ r ∈ D.1, U r.1) := by
      by_cases hR : RightI x
      · rw [if_pos ((r14_right hu).2 hR), if_pos ((r14_right hu).2 hR), r14_in] at hsc
        have hck := (check_iff x).1.2 hR
        have hDU : ∀ r ∈ k_59 x (inA x n) (fun z => k_8f n z), U r.1 := turned_U hR.up (by omega) hu (fun i hi => by
          obtain ⟨r, hr, _, e⟩ := inA_mem.1 hi
          rw [← e]; exact hu r hr)
        have hTab : k_1f n = k_87 n := rfl
        rw [hTab] at hsc
        have hPut : (P.2, P.1) = (if (!(k_87 n)) = true then ((2 : Int), ([] : Ix)) else (if (!(k_1c l)) = true then (130, []) else (if decide ((0 : Int) < ((inA x n).length : Int)) = true then (5, []) else (0, k_25 x n (k_21 l))))) ∧ ∀ r ∈ P.1, U r.1 := by
          rw [hP]
          unfold k_6b
          simp only [LR.seq_go]
          rw [if_neg (fun q => q hck)]
          cases ht : k_87 n with
          | false => exact ⟨rfl, fun r hr => by cases hr⟩
          | true =>
            rw [Bool.not_true, if_neg Bool.false_ne_true, if_neg Bool.false_ne_true]
            by_cases hc : k_2e l = 0
            · rw [(r03_right hul).2 hc, Bool.not_true, if_neg Bool.false_ne_true, if_neg (fun q => q hc), in_m]
              rw [show ((x.filter (fun r => decide (n ∈ r.2))).map (fun r => r.1)) = inA x n from rfl]
              by_cases hi : (0 : Int) < ((inA x n).length : Int)
              · rw [if_pos hi, decide_eq_true hi, if_pos rfl]; exact ⟨rfl, fun r hr => by cases hr⟩
              · have hin : inA x n = [] := List.eq_nil_of_length_eq_zero (by omega)
                rw [if_neg hi, decide_eq_false hi, if_neg Bool.false_ne_true, r14_keys hul hc, set_put hR (by omega) _ hin]
                exact ⟨rfl, turned_U hR.up (by omega) hu (fun i hi => (keys_kind hc hul hi).2)⟩
            · have hf : k_1c l = false := by rw [← Bool.not_eq_true, r03_right hul]; exact hc
              rw [hf, Bool.not_false, if_pos rfl, if_pos hc]
              exact ⟨rfl, fun r hr => by cases hr⟩
        obtain ⟨hPut, hPU⟩ := hPut
        rw [← hPut] at hsc
        by_cases hi : (0 : Int) < ((inA x n).length : Int)
        · rw [if_pos (decide_eq_true hi)] at hsc
          have hne : inA x n ≠ [] := fun e => by rw [e] at hi; exact absurd hi (by decide)
          have hDe := drop_ok hR hne
          rw [← hD] at hDe
          rw [hsc, hDe]
          refine ⟨rfl, rfl, rfl, (set_drop hR (by omega) n).symm, hPU, hDU⟩
        · rw [if_neg (by rw [decide_eq_true_eq]; exact hi)] at hsc
          have hin : inA x n = [] := List.eq_nil_of_length_eq_zero (by omega)
          have hDe : D = (([] : Ix), (4 : Int)) := by
            rw [hD]
            unfold k_8c
            simp only [LR.seq_go]
            rw [if_neg (fun q => q hck), in_m]
            show (if ((inA x n).length : Int) = 0 then _ else _) = _
            rw [if_pos (by rw [hin]; rfl)]
          rw [hsc, hDe]
          exact ⟨rfl, rfl, rfl, rfl, hPU, fun r hr => by cases hr⟩
      · have hRf : k_15 x = false := by rw [← Bool.not_eq_true, r14_right hu]; exact hR
        rw [hRf, if_neg Bool.false_ne_true] at hsc
        have hck : k_7c x ≠ 0 := fun q => hR ((check_iff x).1.1 q)
        have h240 := (check_iff x).2 hck
        have hPe : P = (([] : Ix), (240 : Int)) := by
          rw [hP]; unfold k_6b; rw [if_pos hck]
        have hDe : D = (([] : Ix), (240 : Int)) := by
          rw [hD]; unfold k_8c; rw [if_pos hck, h240]
        rw [hsc, hPe, hDe]
        exact ⟨rfl, rfl, rfl, rfl, fun r hr => (by cases hr), fun r hr => (by cases hr)⟩
    obtain ⟨k1, k2, k3, k4, k5, k6⟩ := key
    rw [r14_same, r14_same, r14_same, decide_eq_true k3, decide_eq_true k4, decide_eq_true (rfl : x = x)]
    rw [if_neg (show ¬ ((if P.2 ≠ sc5.1 then true else (if D.2 ≠ sc5.2.1 then true else (if (!true) = true then true else (!true)))) = true) by
      rw [if_neg (fun q => q k1), if_neg (fun q => q k2)]; decide)]
    rw [Bool.not_true, if_neg Bool.false_ne_true]
    have ow : ∀ y : Ix, (∀ r ∈ y, U r.1) → k_d a2 ys (k + 1) (k_34 y) = .go () := fun y hy => by
      have := own_len y _ rfl
      exact ih _ (own14_U hy) this.1 this.2
    by_cases p0 : P.2 = 0
    · rw [if_pos p0, ← k3]; exact ow _ k5
    · rw [if_neg p0]
      generalize (if D.2 = 0 then decide (Int.tmod (k : Int) 2 = 0) else false) = b
      cases b with
      | true => rw [if_pos rfl, ← k4]; exact ow _ k6
      | false => rw [if_neg Bool.false_ne_true]; exact ih x hu hlen hrow
theorem indexTurns_true (a0 : Ix) (a1 : List Int) (a2 : List (List Int)) (h0 : ∀ r ∈ a0, U r.1) (h2 : ∀ r ∈ a2, ∀ x ∈ r, U x) : k_3d a0 a1 a2 = true := by
  unfold k_3d
  rw [w14_true, Bool.not_true, if_neg Bool.false_ne_true]
  simp only [LR.seq_go]
  have hl := own_len a0 _ rfl
  rw [it_l2 a2 h2 a1 0 _ (own14_U h0) hl.1 hl.2, LR.on_go, LR.on_go]
end Go.SX

set_option linter.unusedVariables false
set_option linter.unusedSimpArgs false
namespace Go.SX
open Go Go.ChangeShapes Go.WideShapes Go.ChangeAt Go.RowKit

/-- All that stands in a world's memory can be read. -/
def heapOf (W : World) : Heap := fun b => W.heap[b]?
theorem sat_heapOf (W : World) : Sat (heapOf W) [] W := ⟨fun _ _ h => h, fun p h => (by cases h), List.nodup_nil, fun p h => (by cases h)⟩

/-- A contract of a function that hands back v, at a world. -/
theorem calls_of_Fv {P : Program} {f : FuncId} {fn : Func} {c : Code} {vs : List Value} {v : Value} {W : World} (hf : P.funcs[f]? = some fn) (hb : fn.body = some c) (hname : (fn.name == "runtime.NumGoroutine") = false)
    (h : Fv P (fnv f) vs (heapOf W) v) : Calls P f vs.toArray W fun e W' => e = .returned v ∧ Below W.heap.size W W' := by
  obtain ⟨nx, w1, h1, h2⟩ := h W (sat_heapOf W)
  have he := Go.Proofs.enters_of (P := P) hf hname hb vs.toArray W
  have hrun : Sem.run P (do let d ← Deferred.ofValue (fnv f) vs.toArray; invoke d.target d.args) W = .ok (.enter f vs.toArray) W := by
    simp [Deferred.ofValue, invoke, he]
  rw [hrun] at h1
  injection h1 with h1 h3
  subst h1; subst h3
  refine callsIn_wide.1 (CallsIn.mono h2 ?_)
  rintro e w' ⟨u, H', L', rfl, hst, rfl, rfl⟩
  exact ⟨rfl, hst.chg.os, hst.chg.tape, hst.chg.output, hst.chg.size, fun b hb => hst.chg.same b hb (by simp [keys])⟩

section
variable {H : Type} {enc : TypeId × Value → H} {P : Program}

theorem trodAll_below (hl : laidOutB P = true) {W W' : World} (hb : Below W.heap.size W W') {sp : Nat → Bool} : ∀ {ts : List TypeId} {vs : List Value} {ds : List (DataW H)} {p : List MemPlace},
    (∀ t ∈ ts, P.readableRec t = true ∧ t < P.types.size) → DataW.TrodAll enc P W 0 (fun _ => true) true ts vs ds p → (∀ q ∈ p, q.block < W.heap.size ∧ sp q.block = true) → DataW.TrodAll enc P W' 0 sp true ts vs ds p
  | [], _, _, _, _, h, _ => by
    obtain ⟨rfl, rfl, rfl⟩ := trodAll_nil h
    exact trodAll_mk0
  | t :: ts, _, _, _, ht, h, hp => by
    obtain ⟨v, vs, d, ds, a, b, rfl, rfl, rfl, h1, h2⟩ := trodAll_cons h
    have h3 := WideElems.Trod_stays (sp' := sp) hl (ht t (List.mem_cons_self ..)).1 (ht t (List.mem_cons_self ..)).2 h1 (fun x hx => hb.same (hp x (List.mem_append_left _ hx)).1) (fun x hx => (hp x (List.mem_append_left _ hx)).2)
    exact ⟨a, b, h3, trodAll_below hl hb (fun t' h' => ht t' (List.mem_cons_of_mem _ h')) h2 (fun x hx => hp x (List.mem_append_right _ hx)), rfl⟩

/-- What is asked behind a call that turned nothing of what there was, and says true. -/
theorem post_true {f : Func} {s : ChangeSpec} {fresh handsOn again : Bool} {W W' : World} {args : Array Value} {ds gs : List (DataW H)} {before : List MemPlace} {tb : TypeId} (hl : laidOutB P = true)
    (hW : DataW.Whole enc P f.params.toList s.vars false W args.toList ds gs before) (hvars : s.vars = []) (hpar : ∀ t ∈ f.params.toList, P.readableRec t = true ∧ t < P.types.size)
    (hs : s.fn H (ds ++ gs) = { results := [.lit (.bool true)], args := ds }) (hrt : f.resultTypes = #[tb]) (htb : P.underlying tb = some .bool) (hb : Below W.heap.size W W') :
    s.post enc P f false fresh handsOn again W args (.bool true) W' := by
  have hlt := hW.lt
  have hW0 := hW
  obtain ⟨p, q, hA, hV, rfl, hfz, hnd⟩ := hW
  rw [hvars] at hV
  obtain ⟨rfl, rfl⟩ := trodVars_none hV
  rw [List.append_nil] at hfz hlt
  have hres : ∀ (b : Nat) (sp : Nat → Bool) (hd : Bool), DataW.TrodAll enc P W' b sp hd f.resultTypes.toList ((Value.bool true).resultList f.resultTypes.size) [.lit (.bool true)] [] := by
    intro b sp hd
    rw [hrt]
    exact trodAll_mk1 (shut_bool htb true)
  have hargs : ∀ sp : Nat → Bool, (∀ x ∈ p, sp x.block = true) → DataW.TrodAll enc P W' 0 sp true f.params.toList args.toList ds p := fun sp hsp =>
    trodAll_below hl hb hpar hA (fun x hx => ⟨hlt x hx, hsp x hx⟩)
  have hvr : ∀ sp : Nat → Bool, DataW.TrodVars enc P W' sp s.vars ([] : List (DataW H)) [] := fun sp => by rw [hvars]; rfl
  refine ⟨ds, [], p ++ [], [], p, [], hW0, ?_, ?_, ?_, World.keptBut_mono (fun x hx => ⟨hx, ?_⟩) (hb.frame (· ∈ p ++ [])), fun _ => ?_⟩
  · rw [hs]; exact hres _ _ _
  · rw [hs]; exact hargs _ (fun x hx => by simpa using hlt x hx)
  · rw [hs]; exact hvr _
  · exact Or.inr (by simpa using hx)
  · refine ⟨ok_one hrt rfl (okWide_bool_mk htb true), _, _, ([] ++ p) ++ [], ⟨[] ++ p, [], trodAll_append (hargs _ (fun _ _ => rfl)) (hres _ _ _), hvr _, rfl, ?_, fun h => by cases h⟩, ?_⟩
    · intro b off hp
      have hp' : MemPlace.cell b off ∈ p := by simpa using hp
      have := hb.frozen (p := ⟨b, off, none⟩) (hlt _ hp')
      rw [this]
      exact hfz b off hp'
    · intro x hx _
      simpa using hx

theorem cellAt_heapOf {W : World} {b o : Nat} {v : Value} (h : W.cell? ⟨b, o, none⟩ = some v) : cellAt (heapOf W) b o = some v := by
  unfold World.cell? at h
  unfold cellAt heapOf
  simp only at h
  revert h
  cases hb : W.heap[b]? with
  | none => intro h; simp at h
  | some ob => cases ob <;> intro h <;> simp_all

end
theorem u_of_wf {x : Int} (h : (Lit.int .u64 x).wf = true) : 0 ≤ x ∧ x < 18446744073709551616 := by
  simp [Lit.wf, IntKind.min, IntKind.max, IntKind.signed, IntKind.bits] at h; omega
end Go.SX

set_option linter.unusedVariables false
set_option linter.unusedSimpArgs false
namespace Go.SX
open Go Go.ChangeShapes Go.WideShapes Go.ChangeAt Go.RowKit Go.Deep
/-- What can be read at the type stands as E says. -/
def Opn (P : Program) (t : TypeId) {α : Type} (E : ER α) (Q : α → Prop) : Prop :=
  ∀ (H : Type) (enc : TypeId × Value → H) (W : World) (sp : Nat → Bool) (hd : Bool) (n : Nat) (cs : List Value) (x : DataW H × List MemPlace), DataW.trod enc P W 0 sp hd n t cs = some x → ∃ a, E.R (heapOf W) cs a ∧ Q a
theorem Opn.int {P : Program} {t : TypeId} {k : IntKind} (ht : P.underlying t = some (.int k)) : Opn P t (intE k) (fun x => (Lit.int k x).wf = true) := fun H enc W sp hd n cs x h => by
  obtain ⟨n, rfl, _, hw⟩ := DataW.trod_int ht h
  exact ⟨n, rfl, hw⟩
theorem Opn.bool {P : Program} {t : TypeId} (ht : P.underlying t = some .bool) : Opn P t boolE (fun _ => True) := fun H enc W sp hd n cs x h => by
  obtain ⟨b, rfl, _⟩ := DataW.trod_bool ht h
  exact ⟨b, rfl, trivial⟩
theorem Opn.weak {P : Program} {t : TypeId} {α : Type} {E : ER α} {Q Q' : α → Prop} (h : Opn P t E Q) (hq : ∀ a, Q a → Q' a) : Opn P t E Q' := fun H enc W sp hd n cs x hx => by
  obtain ⟨a, h1, h2⟩ := h H enc W sp hd n cs x hx
  exact ⟨a, h1, hq a h2⟩
/-- A struct of two ints. -/
theorem Opn.pair {P : Program} {t i : TypeId} {f0 f1 : Field} (ht : P.underlying t = some (.struct #[f0, f1])) (ct : P.cellsOf t = 2) (o0 : f0.offset = 0) (o1 : f1.offset = 1) (t0 : f0.type = i) (t1 : f1.type = i)
    (hi : P.underlying i = some (.int .i64)) (ci : P.cellsOf i = 1) : Opn P t pairE (fun _ => True) := fun H enc W sp hd n cs x h => by
  obtain ⟨xs, m, _, _, hl, hxl, hf⟩ := DataW.trod_struct ht h
  rw [ct] at hl
  match cs, hl, xs, hxl with
  | [v0, v1], _, [y0, y1], _ =>
    have g0 := hf 0 f0 rfl
    have g1 := hf 1 f1 rfl
    rw [o0, t0, ci] at g0
    rw [o1, t1, ci] at g1
    simp at g0 g1
    obtain ⟨a, ha, _⟩ := DataW.trod_int hi g0
    obtain ⟨b, hb, _⟩ := DataW.trod_int hi g1
    simp at ha hb
    subst ha; subst hb
    exact ⟨(a, b), rfl, trivial⟩
/-- An array of two ints. -/
theorem Opn.two {P : Program} {t i : TypeId} (ht : P.underlying t = some (.array 2 i)) (ct : P.cellsOf t = 2) (hi : P.underlying i = some (.int .i64)) (ci : P.cellsOf i = 1) : Opn P t pairE (fun _ => True) := fun H enc W sp hd n cs x h => by
  obtain ⟨xs, m, _, _, hl, hxl, hf⟩ := DataW.trod_array ht h
  rw [ct] at hl
  match cs, hl, xs, hxl with
  | [v0, v1], _, [y0, y1], _ =>
    have g0 := hf 0 (by omega)
    have g1 := hf 1 (by omega)
    rw [ci] at g0 g1
    simp at g0 g1
    obtain ⟨a, ha, _⟩ := DataW.trod_int hi g0
    obtain ⟨b, hb, _⟩ := DataW.trod_int hi g1
    simp at ha hb
    subst ha; subst hb
    exact ⟨(a, b), rfl, trivial⟩
/-- A slice. -/
theorem Opn.slice {P : Program} {t e : TypeId} {α : Type} {E : ER α} {Q : α → Prop} (ht : P.underlying t = some (.slice e)) (hc : P.cellsOf e = E.size) (he : Opn P e E Q) (hs : 0 < E.size) : Opn P t (slE E) (fun xs => ∀ x ∈ xs, Q x) := fun H enc W sp hd n cs x h => by
  rcases open_slice ht h with ⟨rfl, _⟩ | ⟨a, len, cap, m, n', D, Pl, rfl, _, hl, hm, hmm, _, hx⟩
  · exact ⟨[], ⟨_, rfl, RdS.nil⟩, fun x hx => by simp at hx⟩
  · have key : ∀ i, i < len → ∃ x, (∃ b o, a = ⟨b, o, none⟩ ∧ ElemAt E (heapOf W) b (o + i * E.size) x) ∧ Q x := fun i hi => by
      obtain ⟨cs', h1, h2⟩ := hx i (by rw [hmm]; split <;> omega)
      obtain ⟨x, h3, h4⟩ := he H enc W sp hd n' cs' _ h2
      refine ⟨x, ?_, h4⟩
      rw [hc] at h1
      obtain ⟨_, hlen, hcell⟩ := World.cells?_some h1
      obtain ⟨ab, ao, asp⟩ := a
      cases asp with
      | none =>
        refine ⟨ab, ao, rfl, cs', h3, fun j u hj => ?_⟩
        have hjl : j < E.size := by rw [← hlen]; exact (List.getElem?_eq_some_iff.1 hj).1
        have h5 := hcell j hjl
        rw [hj, add_add, Addr.add_lit] at h5
        have := cellAt_heapOf h5
        rw [show ao + i * E.size + j = ao + (i * E.size + j) by omega]
        exact this
      | some s =>
        exfalso
        obtain ⟨cs0, k1, _⟩ := hx 0 (by rw [hmm]; split <;> omega)
        rw [hc, Nat.zero_mul, Addr.add_zero'] at k1
        obtain ⟨_, klen, kcell⟩ := World.cells?_some k1
        have h5 := kcell 0 hs
        rw [Addr.add_zero'] at h5
        obtain ⟨u, hu⟩ : ∃ u, cs0[0]? = some u := ⟨cs0[0], List.getElem?_eq_getElem (by omega)⟩
        rw [hu] at h5
        unfold World.cell? at h5
        revert h5
        cases hb : W.heap[ab]? with
        | none => intro h; simp [hb] at h
        | some ob => cases ob <;> intro h <;> simp [hb] at h
    obtain ⟨f, hf⟩ : ∃ f : Nat → Option α, ∀ i, i < len → ∃ x, f i = some x ∧ (∃ b o, a = ⟨b, o, none⟩ ∧ ElemAt E (heapOf W) b (o + i * E.size) x) ∧ Q x := by
      classical
      refine ⟨fun i => if hi : i < len then some (Classical.choose (key i hi)) else none, fun i hi => ?_⟩
      exact ⟨_, dif_pos hi, Classical.choose_spec (key i hi)⟩
    have hxs : ∀ n, n ≤ len → ∃ xs : List α, xs.length = n ∧ ∀ i, i < n → xs[i]? = f i := fun n => by
      induction n with
      | zero => exact fun _ => ⟨[], rfl, fun i hi => absurd hi (Nat.not_lt_zero _)⟩
      | succ n ih =>
        intro hn
        obtain ⟨xs, h1, h2⟩ := ih (by omega)
        obtain ⟨x, h3, _⟩ := hf n (by omega)
        refine ⟨xs ++ [x], by simp [h1], fun i hi => ?_⟩
        by_cases h : i < n
        · rw [List.getElem?_append_left (by omega)]; exact h2 i h
        · obtain rfl : i = n := by omega
          rw [List.getElem?_append_right (by omega), h1, Nat.sub_self, h3]; rfl
    obtain ⟨xs, h1, h2⟩ := hxs len (Nat.le_refl _)
    subst h1
    refine ⟨xs, ⟨_, rfl, some a, cap, rfl, hl, hm, fun i x hx => ?_⟩, fun x hx => ?_⟩
    · have hi : i < xs.length := (List.getElem?_eq_some_iff.1 hx).1
      obtain ⟨y, h3, ⟨b, o, h4, h5⟩, _⟩ := hf i hi
      rw [h2 i hi, h3] at hx
      injection hx with hx
      subst hx
      exact ⟨b, o, by rw [h4], h5⟩
    · obtain ⟨i, hi, rfl⟩ := List.mem_iff_getElem.1 hx
      obtain ⟨y, h3, _, h4⟩ := hf i hi
      have := h2 i hi
      rw [h3, List.getElem?_eq_getElem hi] at this
      injection this with this
      rw [this]; exact h4
section
variable {P : Program} {H : Type} {enc : TypeId × Value → H} {W : World} {r : Reach} {b0 : Nat} {t : TypeId} {v : Value} {d : DataW H} {p : List MemPlace} {α : Type} {E : ER α} {Q : α → Prop}
/-- A slice that is handed in. -/
theorem open_sl {e : TypeId} (ht : P.underlying t = some (.slice e)) (ho : Opn P t (slE E) (fun xs => ∀ x ∈ xs, Q x)) (hval : Value.okWide P W r b0 t v) (h : DataW.Trod enc P W 0 (fun _ => true) true t v d p) :
    ∃ xs : List α, RdS E (heapOf W) v xs ∧ ∀ x ∈ xs, Q x := by
  obtain ⟨a0, len, cap, rfl⟩ := okWide_slice ht hval
  obtain ⟨n, hn⟩ := h
  obtain ⟨xs, ⟨u, h1, h2⟩, h3⟩ := ho H enc W _ _ n _ _ hn
  have : Value.slice a0 len cap = u := by simpa [Value.cells] using h1
  rw [this]
  exact ⟨xs, h2, h3⟩
/-- A struct, or an array, that is handed in. -/
theorem open_agg (hu : (∃ fs, P.underlying t = some (.struct fs)) ∨ ∃ n e, P.underlying t = some (.array n e)) (ho : Opn P t E Q) (hval : Value.okWide P W r b0 t v) (h : DataW.Trod enc P W 0 (fun _ => true) true t v d p) :
    ∃ cs a, v = .agg cs ∧ E.R (heapOf W) cs.toList a ∧ Q a := by
  have hv : ∃ cs, v = .agg cs := by
    unfold Value.okWide at hval
    rcases hu with ⟨fs, hu⟩ | ⟨n, e, hu⟩
    · rw [hu] at hval; obtain ⟨cs, h1, _⟩ := hval; exact ⟨cs, h1⟩
    · rw [hu] at hval; obtain ⟨cs, h1, _⟩ := hval; exact ⟨cs, h1⟩
  obtain ⟨cs, rfl⟩ := hv
  obtain ⟨n, hn⟩ := h
  obtain ⟨a, h1, h2⟩ := ho H enc W _ _ n _ _ hn
  exact ⟨cs, a, rfl, h1, h2⟩
end
end Go.SX

set_option linter.unusedVariables false
set_option linter.unusedSimpArgs false
namespace Go.SX
open Go Go.ChangeShapes Go.WideShapes Go.ChangeAt Go.RowKit Go.Deep
/-- A struct of one thing stands as that does. -/
theorem Opn.st1 {P : Program} {t i : TypeId} {f0 : Field} {α : Type} {E : ER α} {Q : α → Prop} (ht : P.underlying t = some (.struct #[f0])) (ct : P.cellsOf t = E.size) (o0 : f0.offset = 0) (t0 : f0.type = i)
    (hi : Opn P i E Q) (ci : P.cellsOf i = E.size) : Opn P t E Q := fun H enc W sp hd n cs x h => by
  obtain ⟨xs, m, _, _, hl, hxl, hf⟩ := DataW.trod_struct ht h
  rw [ct] at hl
  have hx1 : xs.length = 1 := hxl
  match xs, hx1 with
  | [y0], _ =>
    have g0 := hf 0 f0 rfl
    rw [o0, t0, ci] at g0
    have e : (cs.drop 0).take E.size = cs := by rw [List.drop_zero, List.take_of_length_le (by omega)]
    simp only [List.drop_zero] at g0
    rw [List.take_of_length_le (by omega)] at g0
    exact hi H enc W _ _ _ _ _ g0
/-- A struct of two things that are one cell each. -/
theorem Opn.st2 {P : Program} {t i j : TypeId} {f0 f1 : Field} {α β : Type} {E0 : ER α} {E1 : ER β} {Q0 : α → Prop} {Q1 : β → Prop} (E : ER (α × β)) (ht : P.underlying t = some (.struct #[f0, f1])) (ct : P.cellsOf t = 2) (o0 : f0.offset = 0) (o1 : f1.offset = 1) (t0 : f0.type = i) (t1 : f1.type = j)
    (hi : Opn P i E0 Q0) (ci : P.cellsOf i = 1) (hj : Opn P j E1 Q1) (cj : P.cellsOf j = 1) (hE : ∀ H v0 v1 a b, E0.R H [v0] a → E1.R H [v1] b → E.R H [v0, v1] (a, b)) : Opn P t E (fun x => Q0 x.1 ∧ Q1 x.2) := fun H enc W sp hd n cs x h => by
  obtain ⟨xs, m, _, _, hl, hxl, hf⟩ := DataW.trod_struct ht h
  rw [ct] at hl
  match cs, hl, xs, hxl with
  | [v0, v1], _, [y0, y1], _ =>
    have g0 := hf 0 f0 rfl
    have g1 := hf 1 f1 rfl
    rw [o0, t0, ci] at g0
    rw [o1, t1, cj] at g1
    simp at g0 g1
    obtain ⟨a, ha, qa⟩ := hi H enc W _ _ _ _ _ g0
    obtain ⟨b, hb, qb⟩ := hj H enc W _ _ _ _ _ g1
    exact ⟨(a, b), hE _ _ _ _ _ ha hb, qa, qb⟩
theorem agg_one {α : Type} {E : ER α} {cs : Array Value} {xs : List α} {H : Heap} (h : (slE E).R H cs.toList xs) : ∃ v, cs = #[v] ∧ RdS E H v xs := by
  obtain ⟨v, h1, h2⟩ := h
  exact ⟨v, Array.toList_inj.1 h1, h2⟩
end Go.SX

set_option linter.unusedVariables false
namespace Go.Proofs.YtmigaagkfglabaaGreat
open Go.ChangeShapes Go.WideShapes Go.ChangeAt Go.RowKit Go.SX

theorem indexTurns_own : ownKnob Tryz.prog.godebug = none := by kernel_rfl
theorem indexTurns_laid : laidOutB Tryz.prog = true := by kernel_rfl

set_option maxRecDepth 100000 in
theorem indexTurns_lifted (os : Os) (started : os.Started) (H : Type) (enc : TypeId × Value → H) :
    ReturnsInHanded {} Tryz.checked os 3 .any (Rows.indexTurnsSpec.pre6 enc Tryz.prog Tryz.f3 Rows.indexTurnsRow.domain false) (Rows.indexTurnsSpec.post enc Tryz.prog Tryz.f3 false true false false) := by
  refine returnsInHanded_of_change (C := Tryz.checked) indexTurns_own started (by kernel_rfl) Tryz.func3
    (ChangeSpec.witness6 (enc := enc) (C := Tryz.checked) false ⟨#[], #[.agg #[.slice none 0 0], .slice none 0 0, .slice none 0 0], []⟩ 8 (by kernel_rfl) (by kernel_rfl) (by kernel_rfl) (by kernel_rfl)) ?_
  intro W base args ds gs before hval0 hW hcnd _
  have hval : ∀ (j : Nat) t v, Tryz.f3.params[j]? = some t → args[j]? = some v → Value.okWide Tryz.prog W .any base t v := hval0
  have hW' := hW
  obtain ⟨p, q, hA0, hV, rfl, hfz, hnd⟩ := hW
  have hA : DataW.TrodAll enc Tryz.prog W 0 (fun _ => true) true Tryz.f3.params.toList args.toList ds p := hA0
  rw [Tryz.params3] at hA hval
  clear hA0 hval0
  obtain ⟨v0, vs0, d0, ds0, p0, q0, e0, rfl, rfl, h0, r0⟩ := trodAll_cons hA
  obtain ⟨v1, vs1, d1, ds1, p1, q1, e1, rfl, rfl, h1, r1⟩ := trodAll_cons r0
  subst e1
  obtain ⟨v2, vs2, d2, ds2, p2, q2, e2, rfl, rfl, h2, r2⟩ := trodAll_cons r1
  subst e2
  obtain ⟨e3, rfl, rfl⟩ := trodAll_nil r2
  subst e3
  obtain rfl : args = #[v0, v1, v2] := by cases args; simp_all
  obtain ⟨rfl, rfl⟩ := trodVars_none hV
  obtain ⟨cs0, xs0, rfl, hx0, hw0⟩ := open_agg (.inl ⟨_, Tryz.underlying24⟩) (Opn.st1 Tryz.underlying24 (by kernel_rfl) rfl rfl (Opn.slice Tryz.underlying22 (by kernel_rfl) (Opn.st2 listedE Tryz.underlying45 (by kernel_rfl) rfl rfl rfl rfl (Opn.int Tryz.underlying43) (by kernel_rfl) (Opn.slice Tryz.underlying25 (by kernel_rfl) (Opn.int Tryz.underlying3) (by decide)) (by kernel_rfl) (fun H v0 v1 a b h0 h1 => by cases (show [v0] = [.int .u64 a] from h0); obtain ⟨w1, hw1, hr1⟩ := h1; cases hw1; exact ⟨_, rfl, hr1⟩)) (by decide)) (by kernel_rfl)) (hval 0 24 v0 rfl rfl) h0
  obtain ⟨u0, rfl, hr0⟩ := agg_one hx0
  obtain ⟨xs1, hr1, hw1⟩ := open_sl Tryz.underlying25 (Opn.slice Tryz.underlying25 (by kernel_rfl) (Opn.int Tryz.underlying3) (by decide)) (hval 1 25 v1 rfl rfl) h1
  obtain ⟨xs2, hr2, hw2⟩ := open_sl Tryz.underlying26 (Opn.slice Tryz.underlying26 (by kernel_rfl) (Opn.slice Tryz.underlying30 (by kernel_rfl) (Opn.int Tryz.underlying43) (by decide)) (by decide)) (hval 2 26 v2 rfl rfl) h2
  have hpar : ∀ t ∈ Tryz.f3.params.toList, Tryz.prog.readableRec t = true ∧ t < Tryz.prog.types.size := by
    intro t ht
    rw [Tryz.params3] at ht
    simp only [List.mem_cons, List.not_mem_nil, or_false] at ht
    rcases ht with rfl | rfl | rfl
    · exact ⟨by kernel_rfl, of_decide_eq_true (by kernel_rfl)⟩
    · exact ⟨by kernel_rfl, of_decide_eq_true (by kernel_rfl)⟩
    · exact ⟨by kernel_rfl, of_decide_eq_true (by kernel_rfl)⟩
  refine (calls_of_Fv Tryz.func3 rfl (by kernel_rfl) (Fv.to (windroselaw14_IndexTurns_c _ xs0 _ hr0 _ xs1 hr1 _ xs2 hr2) (congrArg Value.bool (indexTurns_true xs0 xs1 xs2 (fun r hr => u_of_wf (hw0 r hr).1) (fun r hr x hx => u_of_wf (hw2 r hr x hx)))))).mono fun e W' ⟨he, hb⟩ => ?_
  subst he
  exact ⟨_, rfl, post_true indexTurns_laid hW' rfl hpar rfl rfl Tryz.underlying4 hb⟩

theorem indexTurns_holds : Rows.IndexTurnsSaid :=
  OpenClaim.holds_of_wide 3 Tryz.f3 rfl rfl rfl rfl rfl rfl rfl ⟨rfl, rfl, rfl, rfl, rfl⟩ rfl rfl rfl rfl rfl (by kernel_rfl) Tryz.func3 (by kernel_rfl)
    (of_decide_eq_true (by kernel_rfl)) (by unfold Func.isWrapper; first | (rw [if_pos (by decide +kernel)]; kernel_rfl) | (rw [if_neg (by decide +kernel)]; exact ⟨rfl, rfl⟩))
    (fun os started H enc _ => indexTurns_lifted os started H enc)
end Go.Proofs.YtmigaagkfglabaaGreat
