/- 'AllocMay' answers true, whatever it is handed, and what it is handed reads behind it as it did: the row, and its tied card. -/
import Derived.RangeFuncNested
import Derived.RangeFuncBound
import Derived.RangeFuncCalls
import Derived.RangeFuncLeaves
import Derived.Shelf.Abstract
import Derived.Laws.AppendOwn
import Derived.Laws.OwnMore
import Derived.KernelRfl
import Derived.IntWalk
import Derived.Laws.Append
import Derived.WideLaws
import Derived.Laws.Slices
import Derived.Laws.MakeOwn
import Derived.OrdersIn
import Derived.Laws.Cover3
import Derived.Test.YtmhoclmjgjopfaaDoorProg
import Derived.Laws.StructEq
import Derived.Shelf.Sort.Plain
import Derived.Sort.OwnSortedInts
import Derived.Shelf.Slices.In.SortNone
import Derived.ProofKit
import Derived.ChangeSlices
import Derived.Carry
import Derived.Deep.Slices
import Derived.OpenShut
import Derived.Test.YtmhoclmjgjopfaaDoorCards
import Derived.Test.YtmhoclmjgjopfaaDoorTie
import Derived.LaidMore
import Derived.Stop.Joined
import Derived.MakeChecks
import Derived.Test.YtmhoclmjgjopfaaDoorKM3
set_option linter.unusedVariables false
set_option linter.unusedSimpArgs false
namespace Go.SX
open Go Go.Proofs

def windroselaw02_AllocMay_l4  : List Int → Nat → Unit → LR (LR (Bool) (Unit)) (Unit)
  | [], kl4, sl4 => .go ()
  | yl4 :: ysl4, kl4, sl4 => if (kl4 : Int) = 6 then (.go ()) else (LR.seq (alloc_New_m yl4) (fun r64 => LR.seq (if (1 : Int) ≤ yl4 then ((decide (yl4 ≤ 1048576))) else false : Bool) (fun sc5 => LR.seq (if sc5 = true then (LR.seq (windroseref02_New_m yl4) (fun r75 => (0, r75.1, r75.2.1, r75.2.2))) else ((2, 0, [], [])) : Int × Int × (List (Int × Bool)) × (List Int)) (fun sc6 => LR.seq (if r64.2 ≠ sc6.1 then true else ((!(windroseref02_Same_m r64.1 ((sc6.2.1, sc6.2.2.1, sc6.2.2.2))))) : Bool) (fun sc7 => if sc7 = true then (.ret (.ret false)) else (windroselaw02_AllocMay_l4 ysl4 (kl4 + 1) ()))))))
def windroselaw02_AllocMay_m (a0 : Int × (List (Int × Bool)) × (List Int)) (a1 : Int × (List (Int × Bool)) × (List Int)) (a2 : List Int) : Bool :=
  if (!windroselaw02_wakes_m) = true then false else (LR.seq (LR.seq (windroselaw02_own_m a0) (fun r19 => LR.seq (windroselaw02_own_m a1) (fun r21 => (r19.1, r19.2.1, r19.2.2, r21.1, r21.2.1, r21.2.2))) : Int × (List (Int × Bool)) × (List Int) × Int × (List (Int × Bool)) × (List Int)) (fun sc1 => LR.seq (if ((decide (((alloc_Check_m ((sc1.1, sc1.2.1, sc1.2.2.1))) : Int) = 0)) != (windroseref02_Right_m ((sc1.1, sc1.2.1, sc1.2.2.1)))) = true then true else (if ((alloc_Check_m ((sc1.1, sc1.2.1, sc1.2.2.1))) : Int) ≠ 0 then (if ((alloc_Check_m ((sc1.1, sc1.2.1, sc1.2.2.1))) : Int) ≠ 120 then true else (LR.seq (windroseref02_Same_m ((sc1.1, sc1.2.1, sc1.2.2.1)) ((sc1.2.2.2.1, sc1.2.2.2.2.1, sc1.2.2.2.2.2))) (fun r43 => if ((alloc_Same_m ((sc1.1, sc1.2.1, sc1.2.2.1)) ((sc1.2.2.2.1, sc1.2.2.2.2.1, sc1.2.2.2.2.2))) != r43) = true then true else (LR.seq (windroselaw02_own_m a0) (fun r49 => (!(alloc_Same_m ((sc1.1, sc1.2.1, sc1.2.2.1)) r49))))))) else (LR.seq (windroseref02_Same_m ((sc1.1, sc1.2.1, sc1.2.2.1)) ((sc1.2.2.2.1, sc1.2.2.2.2.1, sc1.2.2.2.2.2))) (fun r43 => if ((alloc_Same_m ((sc1.1, sc1.2.1, sc1.2.2.1)) ((sc1.2.2.2.1, sc1.2.2.2.2.1, sc1.2.2.2.2.2))) != r43) = true then true else (LR.seq (windroselaw02_own_m a0) (fun r49 => (!(alloc_Same_m ((sc1.1, sc1.2.1, sc1.2.2.1)) r49))))))) : Bool) (fun sc2 => if sc2 = true then false else (LR.on (LR.on (windroselaw02_AllocMay_l4 a2 0 ()) (fun r => r) (fun ol4 => .go ol4) : LR (Bool) (Unit)) (fun r => r) (fun sc3 => LR.seq (windroselaw02_own_m a0) (fun r88 => (windroseref02_Same_m ((sc1.1, sc1.2.1, sc1.2.2.1)) r88)))))))
set_option maxHeartbeats 3200000 in
theorem windroselaw02_AllocMay_c (H : Heap) {tG0 : TypeId} (hG0 : H 0 = some (.cells #[.int .i64 0, .bool true] tG0)) (a0 : Int × (List (Int × Bool)) × (List Int)) (va0_1 : Value) (ha0_1 : RdS slotE H va0_1 a0.2.1) (va0_2 : Value) (ha0_2 : RdS (intE .i64) H va0_2 a0.2.2) (a1 : Int × (List (Int × Bool)) × (List Int)) (va1_1 : Value) (ha1_1 : RdS slotE H va1_1 a1.2.1) (va1_2 : Value) (ha1_2 : RdS (intE .i64) H va1_2 a1.2.2) (va2 : Value) (a2 : List Int) (ha2 : RdS (intE .i64) H va2 a2) : Fv Tryd.prog (fnv 4) [.agg #[.int .i64 a0.1, va0_1, va0_2], .agg #[.int .i64 a1.1, va1_1, va1_2], va2] H (.bool (windroselaw02_AllocMay_m a0 a1 a2)) := by
  refine Fc.of_body (N := 90) Tryd.func4 rfl (by kernel_rfl) rfl rfl ?_
  intro w0
  obtain ⟨Aa0_1, ca0_1, rfl, hca0_1, hda0_1, ha0_1⟩ := ha0_1.shape
  obtain ⟨Aa0_2, ca0_2, rfl, hca0_2, hda0_2, ha0_2⟩ := ha0_2.shape
  obtain ⟨Aa1_1, ca1_1, rfl, hca1_1, hda1_1, ha1_1⟩ := ha1_1.shape
  obtain ⟨Aa1_2, ca1_2, rfl, hca1_2, hda1_2, ha1_2⟩ := ha1_2.shape
  obtain ⟨Aa2, ca2, rfl, hca2, hda2, ha2⟩ := ha2.shape
  refine T.seq ?_
  refine T.region ?_
  refine R.box rfl (by conv => lhs; whnf) ?_
  intro b3
  refine R.box rfl (by conv => lhs; whnf) ?_
  intro b4
  refine R.asE rfl (by conv => lhs; whnf) ?_
  refine TL.shut .hd ?_
  intro Hb4_1 sb4_1 qb4_1
  have hb4_1 : Hb4_1 b4 = some (.cells #[.int .i64 (a1.1), .slice Aa1_1 a1.2.1.length ca1_1, .slice Aa1_2 a1.2.2.length ca1_2] 25) := shut1 qb4_1
  refine TL.shut .hd ?_
  intro Hb3_2 sb3_2 qb3_2
  have hb3_2 : Hb3_2 b3 = some (.cells #[.int .i64 (a0.1), .slice Aa0_1 a0.2.1.length ca0_1, .slice Aa0_2 a0.2.2.length ca0_2] 25) := shut1 qb3_2
  refine TL.nil (Post.thnN ?_)
  refine T.seq ?_
  refine T.seq ?_
  refine T.region ?_
  refine R.callv rfl rfl rfl (windroselaw02_wakes_c _ ((sb4_1.trans sb3_2) _ _ hG0)) ?_
  refine R.not rfl rfl ?_
  refine TL.nil (Post.thnN ?_)
  refine T.cond rfl (fun c17 => ?_) (fun c17 => ?_)
  · refine T.set 17 (.bool true) (congrArg Value.bool c17) ?_
    refine T.seq ?_
    refine T.region ?_
    refine R.asE rfl (by conv => lhs; whnf) ?_
    refine TL.nil (Post.thnN ?_)
    refine T.has Has.nil ?_
    refine T.ret (Post.thnR ?_)
    have hM : windroselaw02_AllocMay_m a0 a1 a2 = false := by rw [windroselaw02_AllocMay_m, if_t c17]
    exact fin1L (v := .bool false) [] rfl rfl (List.Sublist.refl _) ⟨rfl, by first | rw [hM] | rfl⟩
  · refine T.set 17 (.bool false) (congrArg Value.bool c17) ?_
    refine T.skip (Post.thnN ?_)
    refine T.seq ?_
    refine T.cutK (ι := Nat × Int × Value × (List (Int × Bool)) × Chunk × Value × (List Int) × Chunk × Nat × Int × Value × (List (Int × Bool)) × Chunk × Value × (List Int) × Chunk) (fun ⟨b7c1, n7c1_0, v7c1_1, x7c1_1, c7c1_1, v7c1_2, x7c1_2, c7c1_2, b8c1, n8c1_0, v8c1_1, x8c1_1, c8c1_1, v8c1_2, x8c1_2, c8c1_2⟩ H' L' ds' => Has L' [c7c1_1, c7c1_2, [(b7c1, .cells #[.int .i64 n7c1_0, v7c1_1, v7c1_2] 25)], c8c1_1, c8c1_2, [(b8c1, .cells #[.int .i64 n8c1_0, v8c1_1, v8c1_2] 25)]] ∧ OwnS slotE 101 H' v7c1_1 x7c1_1 c7c1_1 ∧ OwnS (intE .i64) 3 H' v7c1_2 x7c1_2 c7c1_2 ∧ OwnS slotE 101 H' v8c1_1 x8c1_1 c8c1_1 ∧ OwnS (intE .i64) 3 H' v8c1_2 x8c1_2 c8c1_2 ∧ x7c1_1.length ≤ 40 ∧ x7c1_2.length ≤ 40 ∧ (LR.seq (windroselaw02_own_m a0) (fun r19 => LR.seq (windroselaw02_own_m a1) (fun r21 => (r19.1, r19.2.1, r19.2.2, r21.1, r21.2.1, r21.2.2))) : Int × (List (Int × Bool)) × (List Int) × Int × (List (Int × Bool)) × (List Int)) = (n7c1_0, x7c1_1, x7c1_2, n8c1_0, x8c1_1, x8c1_2)) (fun ⟨b7c1, n7c1_0, v7c1_1, x7c1_1, c7c1_1, v7c1_2, x7c1_2, c7c1_2, b8c1, n8c1_0, v8c1_1, x8c1_1, c8c1_1, v8c1_2, x8c1_2, c8c1_2⟩ => [(2, .slice Aa2 a2.length ca2), (3, .pointer (some ⟨b3, 0, none⟩)), (7, .pointer (some ⟨b7c1, 0, none⟩)), (8, .pointer (some ⟨b8c1, 0, none⟩))]) ?_ ?_
    · refine T.draw Tryd_mixed (by kernel_rfl) ?_
      refine Plan.v 0 [1, 2, 3, 4, 5, 6, 7] (by kernel_rfl) (by kernel_rfl) (by kernel_rfl) (by kernel_rfl) rfl (fun _ _ h_ => R.ldXH (cs := [.int .i64 (a0.1), .slice Aa0_1 a0.2.1.length ca0_1, .slice Aa0_2 a0.2.2.length ca0_2]) (l := [.int .i64 (a0.1), .slice Aa0_1 a0.2.1.length ca0_1, .slice Aa0_2 a0.2.2.length ca0_2]) Tryd.isAgg25 Tryd.sizeOf25 rfl rfl hb3_2 rfl rfl (TL.nil h_)) ?_
      refine Plan.v 2 [1, 3, 4, 5, 6, 7] (by kernel_rfl) (by kernel_rfl) (by kernel_rfl) (by kernel_rfl) rfl (fun _ _ h_ => R.ldXH (cs := [.int .i64 (a1.1), .slice Aa1_1 a1.2.1.length ca1_1, .slice Aa1_2 a1.2.2.length ca1_2]) (l := [.int .i64 (a1.1), .slice Aa1_1 a1.2.1.length ca1_1, .slice Aa1_2 a1.2.2.length ca1_2]) Tryd.isAgg25 Tryd.sizeOf25 rfl rfl (sb3_2 _ _ hb4_1) rfl rfl (TL.nil h_)) ?_
      refine Plan.s3 1 4 5 [3, 4, 5, 6, 7] [1, 3, 5, 6, 7] [1, 3, 4, 6, 7] (by kernel_rfl) (by kernel_rfl) (by kernel_rfl) (by kernel_rfl) rfl rfl rfl ?_ ?_ ?_
      · obtain ⟨r19, er19⟩ : ∃ r, r = (windroselaw02_own_m a0) := ⟨_, rfl⟩
        refine TL.call [] rfl rfl rfl (windroselaw02_own_c _ a0 _ (ha0_1.mono (sb4_1.trans sb3_2)) _ (ha0_2.mono (sb4_1.trans sb3_2))) ?_
        intro v19 H19 L19 s19 q19
        rw [← er19] at q19
        obtain ⟨u19_0_1, u19_0_2, c19_0_1, c19_0_2, rfl, rfl, w19_0_1, w19_0_2⟩ := q19
        obtain ⟨A19_0_1, p19_0_1, rfl, m19_0_1, n19_0_1⟩ := OwnS.shape w19_0_1
        obtain ⟨A19_0_2, p19_0_2, rfl, m19_0_2, n19_0_2⟩ := OwnS.shape w19_0_2
        have ta19 : r19.2.1.length ≤ 40 := by rw [er19]; simp only [windroselaw02_own_m, List.length_take]; omega
        have tb19 : r19.2.2.length ≤ 40 := by rw [er19]; simp only [windroselaw02_own_m, List.length_take]; omega
        refine TL.nil (Plan.e1 (s19) ?_)
        refine Plan.s3 3 4 5 [4, 5, 6, 7] [3, 5, 6, 7] [3, 4, 6, 7] (by kernel_rfl) (by kernel_rfl) (by kernel_rfl) (by kernel_rfl) rfl rfl rfl ?_ ?_ ?_
        · obtain ⟨r21, er21⟩ : ∃ r, r = (windroselaw02_own_m a1) := ⟨_, rfl⟩
          refine TL.call [] rfl rfl rfl (windroselaw02_own_c _ a1 _ (ha1_1.mono (sb4_1.trans (sb3_2.trans s19))) _ (ha1_2.mono (sb4_1.trans (sb3_2.trans s19)))) ?_
          intro v21 H21 L21 s21 q21
          rw [← er21] at q21
          obtain ⟨u21_0_1, u21_0_2, c21_0_1, c21_0_2, rfl, rfl, w21_0_1, w21_0_2⟩ := q21
          obtain ⟨A21_0_1, p21_0_1, rfl, m21_0_1, n21_0_1⟩ := OwnS.shape w21_0_1
          obtain ⟨A21_0_2, p21_0_2, rfl, m21_0_2, n21_0_2⟩ := OwnS.shape w21_0_2
          have ta21 : r21.2.1.length ≤ 40 := by rw [er21]; simp only [windroselaw02_own_m, List.length_take]; omega
          have tb21 : r21.2.2.length ≤ 40 := by rw [er21]; simp only [windroselaw02_own_m, List.length_take]; omega
          refine TL.nil (Plan.e1 (s21) ?_)
          refine Plan.s2 4 5 [5, 6, 7] [4, 6, 7] (by kernel_rfl) (by kernel_rfl) (by kernel_rfl) rfl rfl ?_ ?_
          · refine R.alloc Tryd.zeroValue25 rfl ?_
            intro b7
            refine TL.nil (Plan.e1 (HLe.refl _) ?_)
            refine Plan.s1 5 [6, 7] (by kernel_rfl) (by kernel_rfl) rfl ?_
            refine R.alloc Tryd.zeroValue25 rfl ?_
            intro b8
            refine TL.nil (Plan.e1 (HLe.refl _) ?_)
            refine Plan.s1 6 [7] (by kernel_rfl) (by kernel_rfl) rfl ?_
            refine R.stX (old := [.int .i64 0, .slice none 0 0, .slice none 0 0]) (l := [.int .i64 (r19.1), .slice A19_0_1 r19.2.1.length p19_0_1, .slice A19_0_2 r19.2.2.length p19_0_2]) (new := [.int .i64 (r19.1), .slice A19_0_1 r19.2.1.length p19_0_1, .slice A19_0_2 r19.2.2.length p19_0_2]) (et := 25) Tryd.sizeOf25 rfl rfl rfl rfl rfl (by show 0 + 3 ≤ 3; decide) rfl (all_one rfl) (.tl .hd) ?_
            refine TL.nil (Plan.e0 (HLe.refl _) ?_)
            refine Plan.s1 7 [] (by kernel_rfl) (by kernel_rfl) rfl ?_
            refine R.stX (old := [.int .i64 0, .slice none 0 0, .slice none 0 0]) (l := [.int .i64 (r21.1), .slice A21_0_1 r21.2.1.length p21_0_1, .slice A21_0_2 r21.2.2.length p21_0_2]) (new := [.int .i64 (r21.1), .slice A21_0_1 r21.2.1.length p21_0_1, .slice A21_0_2 r21.2.2.length p21_0_2]) (et := 25) Tryd.sizeOf25 rfl rfl rfl rfl rfl (by show 0 + 3 ≤ 3; decide) rfl (all_one rfl) .hd ?_
            refine TL.nil (Plan.e0 (HLe.refl _) ?_)
            refine Plan.done (Post.thnN ?_)
            exact ⟨(b7, r19.1, .slice A19_0_1 r19.2.1.length p19_0_1, r19.2.1, c19_0_1, .slice A19_0_2 r19.2.2.length p19_0_2, r19.2.2, c19_0_2, b8, r21.1, .slice A21_0_1 r21.2.1.length p21_0_1, r21.2.1, c21_0_1, .slice A21_0_2 r21.2.2.length p21_0_2, r21.2.2, c21_0_2), (s19.trans s21), ⟨(Has.cons (.tl (.tl (.tl (.tl .hd)))) (Has.cons (.tl (.tl (.tl (.tl .hd)))) (Has.cons (.tl .hd) (Has.cons (.tl .hd) (Has.cons (.tl .hd) (Has.cons .hd Has.nil)))))), (OwnS.mono w19_0_1 s21), (OwnS.mono w19_0_2 s21), w21_0_1, w21_0_2, (by first | omega | (simp; done) | (simp; omega) | (simp at *; omega)), (by first | omega | (simp; done) | (simp; omega) | (simp at *; omega)), (by subst er21; subst er19; rw [LR.seq_go, LR.seq_go])⟩, rfl, rfl, rfl, rfl, trivial⟩
          · refine R.alloc Tryd.zeroValue25 rfl ?_
            intro b8
            refine TL.nil (Plan.e1 (HLe.refl _) ?_)
            refine Plan.s1 4 [6, 7] (by kernel_rfl) (by kernel_rfl) rfl ?_
            refine R.alloc Tryd.zeroValue25 rfl ?_
            intro b7
            refine TL.nil (Plan.e1 (HLe.refl _) ?_)
            refine Plan.s1 6 [7] (by kernel_rfl) (by kernel_rfl) rfl ?_
            refine R.stX (old := [.int .i64 0, .slice none 0 0, .slice none 0 0]) (l := [.int .i64 (r19.1), .slice A19_0_1 r19.2.1.length p19_0_1, .slice A19_0_2 r19.2.2.length p19_0_2]) (new := [.int .i64 (r19.1), .slice A19_0_1 r19.2.1.length p19_0_1, .slice A19_0_2 r19.2.2.length p19_0_2]) (et := 25) Tryd.sizeOf25 rfl rfl rfl rfl rfl (by show 0 + 3 ≤ 3; decide) rfl (all_one rfl) .hd ?_
            refine TL.nil (Plan.e0 (HLe.refl _) ?_)
            refine Plan.s1 7 [] (by kernel_rfl) (by kernel_rfl) rfl ?_
            refine R.stX (old := [.int .i64 0, .slice none 0 0, .slice none 0 0]) (l := [.int .i64 (r21.1), .slice A21_0_1 r21.2.1.length p21_0_1, .slice A21_0_2 r21.2.2.length p21_0_2]) (new := [.int .i64 (r21.1), .slice A21_0_1 r21.2.1.length p21_0_1, .slice A21_0_2 r21.2.2.length p21_0_2]) (et := 25) Tryd.sizeOf25 rfl rfl rfl rfl rfl (by show 0 + 3 ≤ 3; decide) rfl (all_one rfl) (.tl .hd) ?_
            refine TL.nil (Plan.e0 (HLe.refl _) ?_)
            refine Plan.done (Post.thnN ?_)
            exact ⟨(b7, r19.1, .slice A19_0_1 r19.2.1.length p19_0_1, r19.2.1, c19_0_1, .slice A19_0_2 r19.2.2.length p19_0_2, r19.2.2, c19_0_2, b8, r21.1, .slice A21_0_1 r21.2.1.length p21_0_1, r21.2.1, c21_0_1, .slice A21_0_2 r21.2.2.length p21_0_2, r21.2.2, c21_0_2), (s19.trans s21), ⟨(Has.cons (.tl (.tl (.tl (.tl .hd)))) (Has.cons (.tl (.tl (.tl (.tl .hd)))) (Has.cons .hd (Has.cons (.tl .hd) (Has.cons (.tl .hd) (Has.cons .hd Has.nil)))))), (OwnS.mono w19_0_1 s21), (OwnS.mono w19_0_2 s21), w21_0_1, w21_0_2, (by first | omega | (simp; done) | (simp; omega) | (simp at *; omega)), (by first | omega | (simp; done) | (simp; omega) | (simp at *; omega)), (by subst er21; subst er19; rw [LR.seq_go, LR.seq_go])⟩, rfl, rfl, rfl, rfl, trivial⟩
        · refine R.alloc Tryd.zeroValue25 rfl ?_
          intro b7
          refine TL.nil (Plan.e1 (HLe.refl _) ?_)
          refine Plan.s2 3 5 [5, 6, 7] [3, 6, 7] (by kernel_rfl) (by kernel_rfl) (by kernel_rfl) rfl rfl ?_ ?_
          · obtain ⟨r21, er21⟩ : ∃ r, r = (windroselaw02_own_m a1) := ⟨_, rfl⟩
            refine TL.call [] rfl rfl rfl (windroselaw02_own_c _ a1 _ (ha1_1.mono (sb4_1.trans (sb3_2.trans s19))) _ (ha1_2.mono (sb4_1.trans (sb3_2.trans s19)))) ?_
            intro v21 H21 L21 s21 q21
            rw [← er21] at q21
            obtain ⟨u21_0_1, u21_0_2, c21_0_1, c21_0_2, rfl, rfl, w21_0_1, w21_0_2⟩ := q21
            obtain ⟨A21_0_1, p21_0_1, rfl, m21_0_1, n21_0_1⟩ := OwnS.shape w21_0_1
            obtain ⟨A21_0_2, p21_0_2, rfl, m21_0_2, n21_0_2⟩ := OwnS.shape w21_0_2
            have ta21 : r21.2.1.length ≤ 40 := by rw [er21]; simp only [windroselaw02_own_m, List.length_take]; omega
            have tb21 : r21.2.2.length ≤ 40 := by rw [er21]; simp only [windroselaw02_own_m, List.length_take]; omega
            refine TL.nil (Plan.e1 (s21) ?_)
            refine Plan.s1 5 [6, 7] (by kernel_rfl) (by kernel_rfl) rfl ?_
            refine R.alloc Tryd.zeroValue25 rfl ?_
            intro b8
            refine TL.nil (Plan.e1 (HLe.refl _) ?_)
            refine Plan.s1 6 [7] (by kernel_rfl) (by kernel_rfl) rfl ?_
            refine R.stX (old := [.int .i64 0, .slice none 0 0, .slice none 0 0]) (l := [.int .i64 (r19.1), .slice A19_0_1 r19.2.1.length p19_0_1, .slice A19_0_2 r19.2.2.length p19_0_2]) (new := [.int .i64 (r19.1), .slice A19_0_1 r19.2.1.length p19_0_1, .slice A19_0_2 r19.2.2.length p19_0_2]) (et := 25) Tryd.sizeOf25 rfl rfl rfl rfl rfl (by show 0 + 3 ≤ 3; decide) rfl (all_one rfl) (.tl (.tl (.tl .hd))) ?_
            refine TL.nil (Plan.e0 (HLe.refl _) ?_)
            refine Plan.s1 7 [] (by kernel_rfl) (by kernel_rfl) rfl ?_
            refine R.stX (old := [.int .i64 0, .slice none 0 0, .slice none 0 0]) (l := [.int .i64 (r21.1), .slice A21_0_1 r21.2.1.length p21_0_1, .slice A21_0_2 r21.2.2.length p21_0_2]) (new := [.int .i64 (r21.1), .slice A21_0_1 r21.2.1.length p21_0_1, .slice A21_0_2 r21.2.2.length p21_0_2]) (et := 25) Tryd.sizeOf25 rfl rfl rfl rfl rfl (by show 0 + 3 ≤ 3; decide) rfl (all_one rfl) .hd ?_
            refine TL.nil (Plan.e0 (HLe.refl _) ?_)
            refine Plan.done (Post.thnN ?_)
            exact ⟨(b7, r19.1, .slice A19_0_1 r19.2.1.length p19_0_1, r19.2.1, c19_0_1, .slice A19_0_2 r19.2.2.length p19_0_2, r19.2.2, c19_0_2, b8, r21.1, .slice A21_0_1 r21.2.1.length p21_0_1, r21.2.1, c21_0_1, .slice A21_0_2 r21.2.2.length p21_0_2, r21.2.2, c21_0_2), (s19.trans s21), ⟨(Has.cons (.tl (.tl (.tl (.tl .hd)))) (Has.cons (.tl (.tl (.tl (.tl .hd)))) (Has.cons (.tl (.tl (.tl .hd))) (Has.cons (.tl .hd) (Has.cons (.tl .hd) (Has.cons .hd Has.nil)))))), (OwnS.mono w19_0_1 s21), (OwnS.mono w19_0_2 s21), w21_0_1, w21_0_2, (by first | omega | (simp; done) | (simp; omega) | (simp at *; omega)), (by first | omega | (simp; done) | (simp; omega) | (simp at *; omega)), (by subst er21; subst er19; rw [LR.seq_go, LR.seq_go])⟩, rfl, rfl, rfl, rfl, trivial⟩
          · refine R.alloc Tryd.zeroValue25 rfl ?_
            intro b8
            refine TL.nil (Plan.e1 (HLe.refl _) ?_)
            refine Plan.s1 3 [6, 7] (by kernel_rfl) (by kernel_rfl) rfl ?_
            obtain ⟨r21, er21⟩ : ∃ r, r = (windroselaw02_own_m a1) := ⟨_, rfl⟩
            refine TL.call [] rfl rfl rfl (windroselaw02_own_c _ a1 _ (ha1_1.mono (sb4_1.trans (sb3_2.trans s19))) _ (ha1_2.mono (sb4_1.trans (sb3_2.trans s19)))) ?_
            intro v21 H21 L21 s21 q21
            rw [← er21] at q21
            obtain ⟨u21_0_1, u21_0_2, c21_0_1, c21_0_2, rfl, rfl, w21_0_1, w21_0_2⟩ := q21
            obtain ⟨A21_0_1, p21_0_1, rfl, m21_0_1, n21_0_1⟩ := OwnS.shape w21_0_1
            obtain ⟨A21_0_2, p21_0_2, rfl, m21_0_2, n21_0_2⟩ := OwnS.shape w21_0_2
            have ta21 : r21.2.1.length ≤ 40 := by rw [er21]; simp only [windroselaw02_own_m, List.length_take]; omega
            have tb21 : r21.2.2.length ≤ 40 := by rw [er21]; simp only [windroselaw02_own_m, List.length_take]; omega
            refine TL.nil (Plan.e1 (s21) ?_)
            refine Plan.s1 6 [7] (by kernel_rfl) (by kernel_rfl) rfl ?_
            refine R.stX (old := [.int .i64 0, .slice none 0 0, .slice none 0 0]) (l := [.int .i64 (r19.1), .slice A19_0_1 r19.2.1.length p19_0_1, .slice A19_0_2 r19.2.2.length p19_0_2]) (new := [.int .i64 (r19.1), .slice A19_0_1 r19.2.1.length p19_0_1, .slice A19_0_2 r19.2.2.length p19_0_2]) (et := 25) Tryd.sizeOf25 rfl rfl rfl rfl rfl (by show 0 + 3 ≤ 3; decide) rfl (all_one rfl) (.tl (.tl (.tl .hd))) ?_
            refine TL.nil (Plan.e0 (HLe.refl _) ?_)
            refine Plan.s1 7 [] (by kernel_rfl) (by kernel_rfl) rfl ?_
            refine R.stX (old := [.int .i64 0, .slice none 0 0, .slice none 0 0]) (l := [.int .i64 (r21.1), .slice A21_0_1 r21.2.1.length p21_0_1, .slice A21_0_2 r21.2.2.length p21_0_2]) (new := [.int .i64 (r21.1), .slice A21_0_1 r21.2.1.length p21_0_1, .slice A21_0_2 r21.2.2.length p21_0_2]) (et := 25) Tryd.sizeOf25 rfl rfl rfl rfl rfl (by show 0 + 3 ≤ 3; decide) rfl (all_one rfl) (.tl (.tl .hd)) ?_
            refine TL.nil (Plan.e0 (HLe.refl _) ?_)
            refine Plan.done (Post.thnN ?_)
            exact ⟨(b7, r19.1, .slice A19_0_1 r19.2.1.length p19_0_1, r19.2.1, c19_0_1, .slice A19_0_2 r19.2.2.length p19_0_2, r19.2.2, c19_0_2, b8, r21.1, .slice A21_0_1 r21.2.1.length p21_0_1, r21.2.1, c21_0_1, .slice A21_0_2 r21.2.2.length p21_0_2, r21.2.2, c21_0_2), (s19.trans s21), ⟨(Has.cons (.tl (.tl (.tl (.tl .hd)))) (Has.cons (.tl (.tl (.tl (.tl .hd)))) (Has.cons (.tl (.tl (.tl .hd))) (Has.cons .hd (Has.cons .hd (Has.cons .hd Has.nil)))))), (OwnS.mono w19_0_1 s21), (OwnS.mono w19_0_2 s21), w21_0_1, w21_0_2, (by first | omega | (simp; done) | (simp; omega) | (simp at *; omega)), (by first | omega | (simp; done) | (simp; omega) | (simp at *; omega)), (by subst er21; subst er19; rw [LR.seq_go, LR.seq_go])⟩, rfl, rfl, rfl, rfl, trivial⟩
        · refine R.alloc Tryd.zeroValue25 rfl ?_
          intro b8
          refine TL.nil (Plan.e1 (HLe.refl _) ?_)
          refine Plan.s2 3 4 [4, 6, 7] [3, 6, 7] (by kernel_rfl) (by kernel_rfl) (by kernel_rfl) rfl rfl ?_ ?_
          · obtain ⟨r21, er21⟩ : ∃ r, r = (windroselaw02_own_m a1) := ⟨_, rfl⟩
            refine TL.call [] rfl rfl rfl (windroselaw02_own_c _ a1 _ (ha1_1.mono (sb4_1.trans (sb3_2.trans s19))) _ (ha1_2.mono (sb4_1.trans (sb3_2.trans s19)))) ?_
            intro v21 H21 L21 s21 q21
            rw [← er21] at q21
            obtain ⟨u21_0_1, u21_0_2, c21_0_1, c21_0_2, rfl, rfl, w21_0_1, w21_0_2⟩ := q21
            obtain ⟨A21_0_1, p21_0_1, rfl, m21_0_1, n21_0_1⟩ := OwnS.shape w21_0_1
            obtain ⟨A21_0_2, p21_0_2, rfl, m21_0_2, n21_0_2⟩ := OwnS.shape w21_0_2
            have ta21 : r21.2.1.length ≤ 40 := by rw [er21]; simp only [windroselaw02_own_m, List.length_take]; omega
            have tb21 : r21.2.2.length ≤ 40 := by rw [er21]; simp only [windroselaw02_own_m, List.length_take]; omega
            refine TL.nil (Plan.e1 (s21) ?_)
            refine Plan.s1 4 [6, 7] (by kernel_rfl) (by kernel_rfl) rfl ?_
            refine R.alloc Tryd.zeroValue25 rfl ?_
            intro b7
            refine TL.nil (Plan.e1 (HLe.refl _) ?_)
            refine Plan.s1 6 [7] (by kernel_rfl) (by kernel_rfl) rfl ?_
            refine R.stX (old := [.int .i64 0, .slice none 0 0, .slice none 0 0]) (l := [.int .i64 (r19.1), .slice A19_0_1 r19.2.1.length p19_0_1, .slice A19_0_2 r19.2.2.length p19_0_2]) (new := [.int .i64 (r19.1), .slice A19_0_1 r19.2.1.length p19_0_1, .slice A19_0_2 r19.2.2.length p19_0_2]) (et := 25) Tryd.sizeOf25 rfl rfl rfl rfl rfl (by show 0 + 3 ≤ 3; decide) rfl (all_one rfl) .hd ?_
            refine TL.nil (Plan.e0 (HLe.refl _) ?_)
            refine Plan.s1 7 [] (by kernel_rfl) (by kernel_rfl) rfl ?_
            refine R.stX (old := [.int .i64 0, .slice none 0 0, .slice none 0 0]) (l := [.int .i64 (r21.1), .slice A21_0_1 r21.2.1.length p21_0_1, .slice A21_0_2 r21.2.2.length p21_0_2]) (new := [.int .i64 (r21.1), .slice A21_0_1 r21.2.1.length p21_0_1, .slice A21_0_2 r21.2.2.length p21_0_2]) (et := 25) Tryd.sizeOf25 rfl rfl rfl rfl rfl (by show 0 + 3 ≤ 3; decide) rfl (all_one rfl) (.tl (.tl (.tl .hd))) ?_
            refine TL.nil (Plan.e0 (HLe.refl _) ?_)
            refine Plan.done (Post.thnN ?_)
            exact ⟨(b7, r19.1, .slice A19_0_1 r19.2.1.length p19_0_1, r19.2.1, c19_0_1, .slice A19_0_2 r19.2.2.length p19_0_2, r19.2.2, c19_0_2, b8, r21.1, .slice A21_0_1 r21.2.1.length p21_0_1, r21.2.1, c21_0_1, .slice A21_0_2 r21.2.2.length p21_0_2, r21.2.2, c21_0_2), (s19.trans s21), ⟨(Has.cons (.tl (.tl (.tl (.tl .hd)))) (Has.cons (.tl (.tl (.tl (.tl .hd)))) (Has.cons .hd (Has.cons .hd (Has.cons .hd (Has.cons .hd Has.nil)))))), (OwnS.mono w19_0_1 s21), (OwnS.mono w19_0_2 s21), w21_0_1, w21_0_2, (by first | omega | (simp; done) | (simp; omega) | (simp at *; omega)), (by first | omega | (simp; done) | (simp; omega) | (simp at *; omega)), (by subst er21; subst er19; rw [LR.seq_go, LR.seq_go])⟩, rfl, rfl, rfl, rfl, trivial⟩
          · refine R.alloc Tryd.zeroValue25 rfl ?_
            intro b7
            refine TL.nil (Plan.e1 (HLe.refl _) ?_)
            refine Plan.s1 3 [6, 7] (by kernel_rfl) (by kernel_rfl) rfl ?_
            obtain ⟨r21, er21⟩ : ∃ r, r = (windroselaw02_own_m a1) := ⟨_, rfl⟩
            refine TL.call [] rfl rfl rfl (windroselaw02_own_c _ a1 _ (ha1_1.mono (sb4_1.trans (sb3_2.trans s19))) _ (ha1_2.mono (sb4_1.trans (sb3_2.trans s19)))) ?_
            intro v21 H21 L21 s21 q21
            rw [← er21] at q21
            obtain ⟨u21_0_1, u21_0_2, c21_0_1, c21_0_2, rfl, rfl, w21_0_1, w21_0_2⟩ := q21
            obtain ⟨A21_0_1, p21_0_1, rfl, m21_0_1, n21_0_1⟩ := OwnS.shape w21_0_1
            obtain ⟨A21_0_2, p21_0_2, rfl, m21_0_2, n21_0_2⟩ := OwnS.shape w21_0_2
            have ta21 : r21.2.1.length ≤ 40 := by rw [er21]; simp only [windroselaw02_own_m, List.length_take]; omega
            have tb21 : r21.2.2.length ≤ 40 := by rw [er21]; simp only [windroselaw02_own_m, List.length_take]; omega
            refine TL.nil (Plan.e1 (s21) ?_)
            refine Plan.s1 6 [7] (by kernel_rfl) (by kernel_rfl) rfl ?_
            refine R.stX (old := [.int .i64 0, .slice none 0 0, .slice none 0 0]) (l := [.int .i64 (r19.1), .slice A19_0_1 r19.2.1.length p19_0_1, .slice A19_0_2 r19.2.2.length p19_0_2]) (new := [.int .i64 (r19.1), .slice A19_0_1 r19.2.1.length p19_0_1, .slice A19_0_2 r19.2.2.length p19_0_2]) (et := 25) Tryd.sizeOf25 rfl rfl rfl rfl rfl (by show 0 + 3 ≤ 3; decide) rfl (all_one rfl) (.tl (.tl .hd)) ?_
            refine TL.nil (Plan.e0 (HLe.refl _) ?_)
            refine Plan.s1 7 [] (by kernel_rfl) (by kernel_rfl) rfl ?_
            refine R.stX (old := [.int .i64 0, .slice none 0 0, .slice none 0 0]) (l := [.int .i64 (r21.1), .slice A21_0_1 r21.2.1.length p21_0_1, .slice A21_0_2 r21.2.2.length p21_0_2]) (new := [.int .i64 (r21.1), .slice A21_0_1 r21.2.1.length p21_0_1, .slice A21_0_2 r21.2.2.length p21_0_2]) (et := 25) Tryd.sizeOf25 rfl rfl rfl rfl rfl (by show 0 + 3 ≤ 3; decide) rfl (all_one rfl) (.tl (.tl (.tl .hd))) ?_
            refine TL.nil (Plan.e0 (HLe.refl _) ?_)
            refine Plan.done (Post.thnN ?_)
            exact ⟨(b7, r19.1, .slice A19_0_1 r19.2.1.length p19_0_1, r19.2.1, c19_0_1, .slice A19_0_2 r19.2.2.length p19_0_2, r19.2.2, c19_0_2, b8, r21.1, .slice A21_0_1 r21.2.1.length p21_0_1, r21.2.1, c21_0_1, .slice A21_0_2 r21.2.2.length p21_0_2, r21.2.2, c21_0_2), (s19.trans s21), ⟨(Has.cons (.tl (.tl (.tl (.tl .hd)))) (Has.cons (.tl (.tl (.tl (.tl .hd)))) (Has.cons (.tl (.tl .hd)) (Has.cons .hd (Has.cons .hd (Has.cons .hd Has.nil)))))), (OwnS.mono w19_0_1 s21), (OwnS.mono w19_0_2 s21), w21_0_1, w21_0_2, (by first | omega | (simp; done) | (simp; omega) | (simp at *; omega)), (by first | omega | (simp; done) | (simp; omega) | (simp at *; omega)), (by subst er21; subst er19; rw [LR.seq_go, LR.seq_go])⟩, rfl, rfl, rfl, rfl, trivial⟩
      · refine R.alloc Tryd.zeroValue25 rfl ?_
        intro b7
        refine TL.nil (Plan.e1 (HLe.refl _) ?_)
        refine Plan.s2 1 5 [3, 5, 6, 7] [1, 3, 6, 7] (by kernel_rfl) (by kernel_rfl) (by kernel_rfl) rfl rfl ?_ ?_
        · obtain ⟨r19, er19⟩ : ∃ r, r = (windroselaw02_own_m a0) := ⟨_, rfl⟩
          refine TL.call [] rfl rfl rfl (windroselaw02_own_c _ a0 _ (ha0_1.mono (sb4_1.trans sb3_2)) _ (ha0_2.mono (sb4_1.trans sb3_2))) ?_
          intro v19 H19 L19 s19 q19
          rw [← er19] at q19
          obtain ⟨u19_0_1, u19_0_2, c19_0_1, c19_0_2, rfl, rfl, w19_0_1, w19_0_2⟩ := q19
          obtain ⟨A19_0_1, p19_0_1, rfl, m19_0_1, n19_0_1⟩ := OwnS.shape w19_0_1
          obtain ⟨A19_0_2, p19_0_2, rfl, m19_0_2, n19_0_2⟩ := OwnS.shape w19_0_2
          have ta19 : r19.2.1.length ≤ 40 := by rw [er19]; simp only [windroselaw02_own_m, List.length_take]; omega
          have tb19 : r19.2.2.length ≤ 40 := by rw [er19]; simp only [windroselaw02_own_m, List.length_take]; omega
          refine TL.nil (Plan.e1 (s19) ?_)
          refine Plan.s2 3 5 [5, 6, 7] [3, 6, 7] (by kernel_rfl) (by kernel_rfl) (by kernel_rfl) rfl rfl ?_ ?_
          · obtain ⟨r21, er21⟩ : ∃ r, r = (windroselaw02_own_m a1) := ⟨_, rfl⟩
            refine TL.call [] rfl rfl rfl (windroselaw02_own_c _ a1 _ (ha1_1.mono (sb4_1.trans (sb3_2.trans s19))) _ (ha1_2.mono (sb4_1.trans (sb3_2.trans s19)))) ?_
            intro v21 H21 L21 s21 q21
            rw [← er21] at q21
            obtain ⟨u21_0_1, u21_0_2, c21_0_1, c21_0_2, rfl, rfl, w21_0_1, w21_0_2⟩ := q21
            obtain ⟨A21_0_1, p21_0_1, rfl, m21_0_1, n21_0_1⟩ := OwnS.shape w21_0_1
            obtain ⟨A21_0_2, p21_0_2, rfl, m21_0_2, n21_0_2⟩ := OwnS.shape w21_0_2
            have ta21 : r21.2.1.length ≤ 40 := by rw [er21]; simp only [windroselaw02_own_m, List.length_take]; omega
            have tb21 : r21.2.2.length ≤ 40 := by rw [er21]; simp only [windroselaw02_own_m, List.length_take]; omega
            refine TL.nil (Plan.e1 (s21) ?_)
            refine Plan.s1 5 [6, 7] (by kernel_rfl) (by kernel_rfl) rfl ?_
            refine R.alloc Tryd.zeroValue25 rfl ?_
            intro b8
            refine TL.nil (Plan.e1 (HLe.refl _) ?_)
            refine Plan.s1 6 [7] (by kernel_rfl) (by kernel_rfl) rfl ?_
            refine R.stX (old := [.int .i64 0, .slice none 0 0, .slice none 0 0]) (l := [.int .i64 (r19.1), .slice A19_0_1 r19.2.1.length p19_0_1, .slice A19_0_2 r19.2.2.length p19_0_2]) (new := [.int .i64 (r19.1), .slice A19_0_1 r19.2.1.length p19_0_1, .slice A19_0_2 r19.2.2.length p19_0_2]) (et := 25) Tryd.sizeOf25 rfl rfl rfl rfl rfl (by show 0 + 3 ≤ 3; decide) rfl (all_one rfl) (.tl (.tl (.tl (.tl (.tl .hd))))) ?_
            refine TL.nil (Plan.e0 (HLe.refl _) ?_)
            refine Plan.s1 7 [] (by kernel_rfl) (by kernel_rfl) rfl ?_
            refine R.stX (old := [.int .i64 0, .slice none 0 0, .slice none 0 0]) (l := [.int .i64 (r21.1), .slice A21_0_1 r21.2.1.length p21_0_1, .slice A21_0_2 r21.2.2.length p21_0_2]) (new := [.int .i64 (r21.1), .slice A21_0_1 r21.2.1.length p21_0_1, .slice A21_0_2 r21.2.2.length p21_0_2]) (et := 25) Tryd.sizeOf25 rfl rfl rfl rfl rfl (by show 0 + 3 ≤ 3; decide) rfl (all_one rfl) .hd ?_
            refine TL.nil (Plan.e0 (HLe.refl _) ?_)
            refine Plan.done (Post.thnN ?_)
            exact ⟨(b7, r19.1, .slice A19_0_1 r19.2.1.length p19_0_1, r19.2.1, c19_0_1, .slice A19_0_2 r19.2.2.length p19_0_2, r19.2.2, c19_0_2, b8, r21.1, .slice A21_0_1 r21.2.1.length p21_0_1, r21.2.1, c21_0_1, .slice A21_0_2 r21.2.2.length p21_0_2, r21.2.2, c21_0_2), (s19.trans s21), ⟨(Has.cons (.tl (.tl (.tl .hd))) (Has.cons (.tl (.tl (.tl .hd))) (Has.cons (.tl (.tl (.tl .hd))) (Has.cons (.tl .hd) (Has.cons (.tl .hd) (Has.cons .hd Has.nil)))))), (OwnS.mono w19_0_1 s21), (OwnS.mono w19_0_2 s21), w21_0_1, w21_0_2, (by first | omega | (simp; done) | (simp; omega) | (simp at *; omega)), (by first | omega | (simp; done) | (simp; omega) | (simp at *; omega)), (by subst er21; subst er19; rw [LR.seq_go, LR.seq_go])⟩, rfl, rfl, rfl, rfl, trivial⟩
          · refine R.alloc Tryd.zeroValue25 rfl ?_
            intro b8
            refine TL.nil (Plan.e1 (HLe.refl _) ?_)
            refine Plan.s1 3 [6, 7] (by kernel_rfl) (by kernel_rfl) rfl ?_
            obtain ⟨r21, er21⟩ : ∃ r, r = (windroselaw02_own_m a1) := ⟨_, rfl⟩
            refine TL.call [] rfl rfl rfl (windroselaw02_own_c _ a1 _ (ha1_1.mono (sb4_1.trans (sb3_2.trans s19))) _ (ha1_2.mono (sb4_1.trans (sb3_2.trans s19)))) ?_
            intro v21 H21 L21 s21 q21
            rw [← er21] at q21
            obtain ⟨u21_0_1, u21_0_2, c21_0_1, c21_0_2, rfl, rfl, w21_0_1, w21_0_2⟩ := q21
            obtain ⟨A21_0_1, p21_0_1, rfl, m21_0_1, n21_0_1⟩ := OwnS.shape w21_0_1
            obtain ⟨A21_0_2, p21_0_2, rfl, m21_0_2, n21_0_2⟩ := OwnS.shape w21_0_2
            have ta21 : r21.2.1.length ≤ 40 := by rw [er21]; simp only [windroselaw02_own_m, List.length_take]; omega
            have tb21 : r21.2.2.length ≤ 40 := by rw [er21]; simp only [windroselaw02_own_m, List.length_take]; omega
            refine TL.nil (Plan.e1 (s21) ?_)
            refine Plan.s1 6 [7] (by kernel_rfl) (by kernel_rfl) rfl ?_
            refine R.stX (old := [.int .i64 0, .slice none 0 0, .slice none 0 0]) (l := [.int .i64 (r19.1), .slice A19_0_1 r19.2.1.length p19_0_1, .slice A19_0_2 r19.2.2.length p19_0_2]) (new := [.int .i64 (r19.1), .slice A19_0_1 r19.2.1.length p19_0_1, .slice A19_0_2 r19.2.2.length p19_0_2]) (et := 25) Tryd.sizeOf25 rfl rfl rfl rfl rfl (by show 0 + 3 ≤ 3; decide) rfl (all_one rfl) (.tl (.tl (.tl (.tl (.tl .hd))))) ?_
            refine TL.nil (Plan.e0 (HLe.refl _) ?_)
            refine Plan.s1 7 [] (by kernel_rfl) (by kernel_rfl) rfl ?_
            refine R.stX (old := [.int .i64 0, .slice none 0 0, .slice none 0 0]) (l := [.int .i64 (r21.1), .slice A21_0_1 r21.2.1.length p21_0_1, .slice A21_0_2 r21.2.2.length p21_0_2]) (new := [.int .i64 (r21.1), .slice A21_0_1 r21.2.1.length p21_0_1, .slice A21_0_2 r21.2.2.length p21_0_2]) (et := 25) Tryd.sizeOf25 rfl rfl rfl rfl rfl (by show 0 + 3 ≤ 3; decide) rfl (all_one rfl) (.tl (.tl .hd)) ?_
            refine TL.nil (Plan.e0 (HLe.refl _) ?_)
            refine Plan.done (Post.thnN ?_)
            exact ⟨(b7, r19.1, .slice A19_0_1 r19.2.1.length p19_0_1, r19.2.1, c19_0_1, .slice A19_0_2 r19.2.2.length p19_0_2, r19.2.2, c19_0_2, b8, r21.1, .slice A21_0_1 r21.2.1.length p21_0_1, r21.2.1, c21_0_1, .slice A21_0_2 r21.2.2.length p21_0_2, r21.2.2, c21_0_2), (s19.trans s21), ⟨(Has.cons (.tl (.tl (.tl .hd))) (Has.cons (.tl (.tl (.tl .hd))) (Has.cons (.tl (.tl (.tl .hd))) (Has.cons .hd (Has.cons .hd (Has.cons .hd Has.nil)))))), (OwnS.mono w19_0_1 s21), (OwnS.mono w19_0_2 s21), w21_0_1, w21_0_2, (by first | omega | (simp; done) | (simp; omega) | (simp at *; omega)), (by first | omega | (simp; done) | (simp; omega) | (simp at *; omega)), (by subst er21; subst er19; rw [LR.seq_go, LR.seq_go])⟩, rfl, rfl, rfl, rfl, trivial⟩
        · refine R.alloc Tryd.zeroValue25 rfl ?_
          intro b8
          refine TL.nil (Plan.e1 (HLe.refl _) ?_)
          refine Plan.s1 1 [3, 6, 7] (by kernel_rfl) (by kernel_rfl) rfl ?_
          obtain ⟨r19, er19⟩ : ∃ r, r = (windroselaw02_own_m a0) := ⟨_, rfl⟩
          refine TL.call [] rfl rfl rfl (windroselaw02_own_c _ a0 _ (ha0_1.mono (sb4_1.trans sb3_2)) _ (ha0_2.mono (sb4_1.trans sb3_2))) ?_
          intro v19 H19 L19 s19 q19
          rw [← er19] at q19
          obtain ⟨u19_0_1, u19_0_2, c19_0_1, c19_0_2, rfl, rfl, w19_0_1, w19_0_2⟩ := q19
          obtain ⟨A19_0_1, p19_0_1, rfl, m19_0_1, n19_0_1⟩ := OwnS.shape w19_0_1
          obtain ⟨A19_0_2, p19_0_2, rfl, m19_0_2, n19_0_2⟩ := OwnS.shape w19_0_2
          have ta19 : r19.2.1.length ≤ 40 := by rw [er19]; simp only [windroselaw02_own_m, List.length_take]; omega
          have tb19 : r19.2.2.length ≤ 40 := by rw [er19]; simp only [windroselaw02_own_m, List.length_take]; omega
          refine TL.nil (Plan.e1 (s19) ?_)
          refine Plan.s1 3 [6, 7] (by kernel_rfl) (by kernel_rfl) rfl ?_
          obtain ⟨r21, er21⟩ : ∃ r, r = (windroselaw02_own_m a1) := ⟨_, rfl⟩
          refine TL.call [] rfl rfl rfl (windroselaw02_own_c _ a1 _ (ha1_1.mono (sb4_1.trans (sb3_2.trans s19))) _ (ha1_2.mono (sb4_1.trans (sb3_2.trans s19)))) ?_
          intro v21 H21 L21 s21 q21
          rw [← er21] at q21
          obtain ⟨u21_0_1, u21_0_2, c21_0_1, c21_0_2, rfl, rfl, w21_0_1, w21_0_2⟩ := q21
          obtain ⟨A21_0_1, p21_0_1, rfl, m21_0_1, n21_0_1⟩ := OwnS.shape w21_0_1
          obtain ⟨A21_0_2, p21_0_2, rfl, m21_0_2, n21_0_2⟩ := OwnS.shape w21_0_2
          have ta21 : r21.2.1.length ≤ 40 := by rw [er21]; simp only [windroselaw02_own_m, List.length_take]; omega
          have tb21 : r21.2.2.length ≤ 40 := by rw [er21]; simp only [windroselaw02_own_m, List.length_take]; omega
          refine TL.nil (Plan.e1 (s21) ?_)
          refine Plan.s1 6 [7] (by kernel_rfl) (by kernel_rfl) rfl ?_
          refine R.stX (old := [.int .i64 0, .slice none 0 0, .slice none 0 0]) (l := [.int .i64 (r19.1), .slice A19_0_1 r19.2.1.length p19_0_1, .slice A19_0_2 r19.2.2.length p19_0_2]) (new := [.int .i64 (r19.1), .slice A19_0_1 r19.2.1.length p19_0_1, .slice A19_0_2 r19.2.2.length p19_0_2]) (et := 25) Tryd.sizeOf25 rfl rfl rfl rfl rfl (by show 0 + 3 ≤ 3; decide) rfl (all_one rfl) (.tl (.tl (.tl (.tl (.tl .hd))))) ?_
          refine TL.nil (Plan.e0 (HLe.refl _) ?_)
          refine Plan.s1 7 [] (by kernel_rfl) (by kernel_rfl) rfl ?_
          refine R.stX (old := [.int .i64 0, .slice none 0 0, .slice none 0 0]) (l := [.int .i64 (r21.1), .slice A21_0_1 r21.2.1.length p21_0_1, .slice A21_0_2 r21.2.2.length p21_0_2]) (new := [.int .i64 (r21.1), .slice A21_0_1 r21.2.1.length p21_0_1, .slice A21_0_2 r21.2.2.length p21_0_2]) (et := 25) Tryd.sizeOf25 rfl rfl rfl rfl rfl (by show 0 + 3 ≤ 3; decide) rfl (all_one rfl) (.tl (.tl (.tl (.tl .hd)))) ?_
          refine TL.nil (Plan.e0 (HLe.refl _) ?_)
          refine Plan.done (Post.thnN ?_)
          exact ⟨(b7, r19.1, .slice A19_0_1 r19.2.1.length p19_0_1, r19.2.1, c19_0_1, .slice A19_0_2 r19.2.2.length p19_0_2, r19.2.2, c19_0_2, b8, r21.1, .slice A21_0_1 r21.2.1.length p21_0_1, r21.2.1, c21_0_1, .slice A21_0_2 r21.2.2.length p21_0_2, r21.2.2, c21_0_2), (s19.trans s21), ⟨(Has.cons (.tl (.tl .hd)) (Has.cons (.tl (.tl .hd)) (Has.cons (.tl (.tl (.tl .hd))) (Has.cons .hd (Has.cons .hd (Has.cons .hd Has.nil)))))), (OwnS.mono w19_0_1 s21), (OwnS.mono w19_0_2 s21), w21_0_1, w21_0_2, (by first | omega | (simp; done) | (simp; omega) | (simp at *; omega)), (by first | omega | (simp; done) | (simp; omega) | (simp at *; omega)), (by subst er21; subst er19; rw [LR.seq_go, LR.seq_go])⟩, rfl, rfl, rfl, rfl, trivial⟩
      · refine R.alloc Tryd.zeroValue25 rfl ?_
        intro b8
        refine TL.nil (Plan.e1 (HLe.refl _) ?_)
        refine Plan.s2 1 4 [3, 4, 6, 7] [1, 3, 6, 7] (by kernel_rfl) (by kernel_rfl) (by kernel_rfl) rfl rfl ?_ ?_
        · obtain ⟨r19, er19⟩ : ∃ r, r = (windroselaw02_own_m a0) := ⟨_, rfl⟩
          refine TL.call [] rfl rfl rfl (windroselaw02_own_c _ a0 _ (ha0_1.mono (sb4_1.trans sb3_2)) _ (ha0_2.mono (sb4_1.trans sb3_2))) ?_
          intro v19 H19 L19 s19 q19
          rw [← er19] at q19
          obtain ⟨u19_0_1, u19_0_2, c19_0_1, c19_0_2, rfl, rfl, w19_0_1, w19_0_2⟩ := q19
          obtain ⟨A19_0_1, p19_0_1, rfl, m19_0_1, n19_0_1⟩ := OwnS.shape w19_0_1
          obtain ⟨A19_0_2, p19_0_2, rfl, m19_0_2, n19_0_2⟩ := OwnS.shape w19_0_2
          have ta19 : r19.2.1.length ≤ 40 := by rw [er19]; simp only [windroselaw02_own_m, List.length_take]; omega
          have tb19 : r19.2.2.length ≤ 40 := by rw [er19]; simp only [windroselaw02_own_m, List.length_take]; omega
          refine TL.nil (Plan.e1 (s19) ?_)
          refine Plan.s2 3 4 [4, 6, 7] [3, 6, 7] (by kernel_rfl) (by kernel_rfl) (by kernel_rfl) rfl rfl ?_ ?_
          · obtain ⟨r21, er21⟩ : ∃ r, r = (windroselaw02_own_m a1) := ⟨_, rfl⟩
            refine TL.call [] rfl rfl rfl (windroselaw02_own_c _ a1 _ (ha1_1.mono (sb4_1.trans (sb3_2.trans s19))) _ (ha1_2.mono (sb4_1.trans (sb3_2.trans s19)))) ?_
            intro v21 H21 L21 s21 q21
            rw [← er21] at q21
            obtain ⟨u21_0_1, u21_0_2, c21_0_1, c21_0_2, rfl, rfl, w21_0_1, w21_0_2⟩ := q21
            obtain ⟨A21_0_1, p21_0_1, rfl, m21_0_1, n21_0_1⟩ := OwnS.shape w21_0_1
            obtain ⟨A21_0_2, p21_0_2, rfl, m21_0_2, n21_0_2⟩ := OwnS.shape w21_0_2
            have ta21 : r21.2.1.length ≤ 40 := by rw [er21]; simp only [windroselaw02_own_m, List.length_take]; omega
            have tb21 : r21.2.2.length ≤ 40 := by rw [er21]; simp only [windroselaw02_own_m, List.length_take]; omega
            refine TL.nil (Plan.e1 (s21) ?_)
            refine Plan.s1 4 [6, 7] (by kernel_rfl) (by kernel_rfl) rfl ?_
            refine R.alloc Tryd.zeroValue25 rfl ?_
            intro b7
            refine TL.nil (Plan.e1 (HLe.refl _) ?_)
            refine Plan.s1 6 [7] (by kernel_rfl) (by kernel_rfl) rfl ?_
            refine R.stX (old := [.int .i64 0, .slice none 0 0, .slice none 0 0]) (l := [.int .i64 (r19.1), .slice A19_0_1 r19.2.1.length p19_0_1, .slice A19_0_2 r19.2.2.length p19_0_2]) (new := [.int .i64 (r19.1), .slice A19_0_1 r19.2.1.length p19_0_1, .slice A19_0_2 r19.2.2.length p19_0_2]) (et := 25) Tryd.sizeOf25 rfl rfl rfl rfl rfl (by show 0 + 3 ≤ 3; decide) rfl (all_one rfl) .hd ?_
            refine TL.nil (Plan.e0 (HLe.refl _) ?_)
            refine Plan.s1 7 [] (by kernel_rfl) (by kernel_rfl) rfl ?_
            refine R.stX (old := [.int .i64 0, .slice none 0 0, .slice none 0 0]) (l := [.int .i64 (r21.1), .slice A21_0_1 r21.2.1.length p21_0_1, .slice A21_0_2 r21.2.2.length p21_0_2]) (new := [.int .i64 (r21.1), .slice A21_0_1 r21.2.1.length p21_0_1, .slice A21_0_2 r21.2.2.length p21_0_2]) (et := 25) Tryd.sizeOf25 rfl rfl rfl rfl rfl (by show 0 + 3 ≤ 3; decide) rfl (all_one rfl) (.tl (.tl (.tl (.tl (.tl .hd))))) ?_
            refine TL.nil (Plan.e0 (HLe.refl _) ?_)
            refine Plan.done (Post.thnN ?_)
            exact ⟨(b7, r19.1, .slice A19_0_1 r19.2.1.length p19_0_1, r19.2.1, c19_0_1, .slice A19_0_2 r19.2.2.length p19_0_2, r19.2.2, c19_0_2, b8, r21.1, .slice A21_0_1 r21.2.1.length p21_0_1, r21.2.1, c21_0_1, .slice A21_0_2 r21.2.2.length p21_0_2, r21.2.2, c21_0_2), (s19.trans s21), ⟨(Has.cons (.tl (.tl (.tl .hd))) (Has.cons (.tl (.tl (.tl .hd))) (Has.cons .hd (Has.cons .hd (Has.cons .hd (Has.cons .hd Has.nil)))))), (OwnS.mono w19_0_1 s21), (OwnS.mono w19_0_2 s21), w21_0_1, w21_0_2, (by first | omega | (simp; done) | (simp; omega) | (simp at *; omega)), (by first | omega | (simp; done) | (simp; omega) | (simp at *; omega)), (by subst er21; subst er19; rw [LR.seq_go, LR.seq_go])⟩, rfl, rfl, rfl, rfl, trivial⟩
          · refine R.alloc Tryd.zeroValue25 rfl ?_
            intro b7
            refine TL.nil (Plan.e1 (HLe.refl _) ?_)
            refine Plan.s1 3 [6, 7] (by kernel_rfl) (by kernel_rfl) rfl ?_
            obtain ⟨r21, er21⟩ : ∃ r, r = (windroselaw02_own_m a1) := ⟨_, rfl⟩
            refine TL.call [] rfl rfl rfl (windroselaw02_own_c _ a1 _ (ha1_1.mono (sb4_1.trans (sb3_2.trans s19))) _ (ha1_2.mono (sb4_1.trans (sb3_2.trans s19)))) ?_
            intro v21 H21 L21 s21 q21
            rw [← er21] at q21
            obtain ⟨u21_0_1, u21_0_2, c21_0_1, c21_0_2, rfl, rfl, w21_0_1, w21_0_2⟩ := q21
            obtain ⟨A21_0_1, p21_0_1, rfl, m21_0_1, n21_0_1⟩ := OwnS.shape w21_0_1
            obtain ⟨A21_0_2, p21_0_2, rfl, m21_0_2, n21_0_2⟩ := OwnS.shape w21_0_2
            have ta21 : r21.2.1.length ≤ 40 := by rw [er21]; simp only [windroselaw02_own_m, List.length_take]; omega
            have tb21 : r21.2.2.length ≤ 40 := by rw [er21]; simp only [windroselaw02_own_m, List.length_take]; omega
            refine TL.nil (Plan.e1 (s21) ?_)
            refine Plan.s1 6 [7] (by kernel_rfl) (by kernel_rfl) rfl ?_
            refine R.stX (old := [.int .i64 0, .slice none 0 0, .slice none 0 0]) (l := [.int .i64 (r19.1), .slice A19_0_1 r19.2.1.length p19_0_1, .slice A19_0_2 r19.2.2.length p19_0_2]) (new := [.int .i64 (r19.1), .slice A19_0_1 r19.2.1.length p19_0_1, .slice A19_0_2 r19.2.2.length p19_0_2]) (et := 25) Tryd.sizeOf25 rfl rfl rfl rfl rfl (by show 0 + 3 ≤ 3; decide) rfl (all_one rfl) (.tl (.tl .hd)) ?_
            refine TL.nil (Plan.e0 (HLe.refl _) ?_)
            refine Plan.s1 7 [] (by kernel_rfl) (by kernel_rfl) rfl ?_
            refine R.stX (old := [.int .i64 0, .slice none 0 0, .slice none 0 0]) (l := [.int .i64 (r21.1), .slice A21_0_1 r21.2.1.length p21_0_1, .slice A21_0_2 r21.2.2.length p21_0_2]) (new := [.int .i64 (r21.1), .slice A21_0_1 r21.2.1.length p21_0_1, .slice A21_0_2 r21.2.2.length p21_0_2]) (et := 25) Tryd.sizeOf25 rfl rfl rfl rfl rfl (by show 0 + 3 ≤ 3; decide) rfl (all_one rfl) (.tl (.tl (.tl (.tl (.tl .hd))))) ?_
            refine TL.nil (Plan.e0 (HLe.refl _) ?_)
            refine Plan.done (Post.thnN ?_)
            exact ⟨(b7, r19.1, .slice A19_0_1 r19.2.1.length p19_0_1, r19.2.1, c19_0_1, .slice A19_0_2 r19.2.2.length p19_0_2, r19.2.2, c19_0_2, b8, r21.1, .slice A21_0_1 r21.2.1.length p21_0_1, r21.2.1, c21_0_1, .slice A21_0_2 r21.2.2.length p21_0_2, r21.2.2, c21_0_2), (s19.trans s21), ⟨(Has.cons (.tl (.tl (.tl .hd))) (Has.cons (.tl (.tl (.tl .hd))) (Has.cons (.tl (.tl .hd)) (Has.cons .hd (Has.cons .hd (Has.cons .hd Has.nil)))))), (OwnS.mono w19_0_1 s21), (OwnS.mono w19_0_2 s21), w21_0_1, w21_0_2, (by first | omega | (simp; done) | (simp; omega) | (simp at *; omega)), (by first | omega | (simp; done) | (simp; omega) | (simp at *; omega)), (by subst er21; subst er19; rw [LR.seq_go, LR.seq_go])⟩, rfl, rfl, rfl, rfl, trivial⟩
        · refine R.alloc Tryd.zeroValue25 rfl ?_
          intro b7
          refine TL.nil (Plan.e1 (HLe.refl _) ?_)
          refine Plan.s1 1 [3, 6, 7] (by kernel_rfl) (by kernel_rfl) rfl ?_
          obtain ⟨r19, er19⟩ : ∃ r, r = (windroselaw02_own_m a0) := ⟨_, rfl⟩
          refine TL.call [] rfl rfl rfl (windroselaw02_own_c _ a0 _ (ha0_1.mono (sb4_1.trans sb3_2)) _ (ha0_2.mono (sb4_1.trans sb3_2))) ?_
          intro v19 H19 L19 s19 q19
          rw [← er19] at q19
          obtain ⟨u19_0_1, u19_0_2, c19_0_1, c19_0_2, rfl, rfl, w19_0_1, w19_0_2⟩ := q19
          obtain ⟨A19_0_1, p19_0_1, rfl, m19_0_1, n19_0_1⟩ := OwnS.shape w19_0_1
          obtain ⟨A19_0_2, p19_0_2, rfl, m19_0_2, n19_0_2⟩ := OwnS.shape w19_0_2
          have ta19 : r19.2.1.length ≤ 40 := by rw [er19]; simp only [windroselaw02_own_m, List.length_take]; omega
          have tb19 : r19.2.2.length ≤ 40 := by rw [er19]; simp only [windroselaw02_own_m, List.length_take]; omega
          refine TL.nil (Plan.e1 (s19) ?_)
          refine Plan.s1 3 [6, 7] (by kernel_rfl) (by kernel_rfl) rfl ?_
          obtain ⟨r21, er21⟩ : ∃ r, r = (windroselaw02_own_m a1) := ⟨_, rfl⟩
          refine TL.call [] rfl rfl rfl (windroselaw02_own_c _ a1 _ (ha1_1.mono (sb4_1.trans (sb3_2.trans s19))) _ (ha1_2.mono (sb4_1.trans (sb3_2.trans s19)))) ?_
          intro v21 H21 L21 s21 q21
          rw [← er21] at q21
          obtain ⟨u21_0_1, u21_0_2, c21_0_1, c21_0_2, rfl, rfl, w21_0_1, w21_0_2⟩ := q21
          obtain ⟨A21_0_1, p21_0_1, rfl, m21_0_1, n21_0_1⟩ := OwnS.shape w21_0_1
          obtain ⟨A21_0_2, p21_0_2, rfl, m21_0_2, n21_0_2⟩ := OwnS.shape w21_0_2
          have ta21 : r21.2.1.length ≤ 40 := by rw [er21]; simp only [windroselaw02_own_m, List.length_take]; omega
          have tb21 : r21.2.2.length ≤ 40 := by rw [er21]; simp only [windroselaw02_own_m, List.length_take]; omega
          refine TL.nil (Plan.e1 (s21) ?_)
          refine Plan.s1 6 [7] (by kernel_rfl) (by kernel_rfl) rfl ?_
          refine R.stX (old := [.int .i64 0, .slice none 0 0, .slice none 0 0]) (l := [.int .i64 (r19.1), .slice A19_0_1 r19.2.1.length p19_0_1, .slice A19_0_2 r19.2.2.length p19_0_2]) (new := [.int .i64 (r19.1), .slice A19_0_1 r19.2.1.length p19_0_1, .slice A19_0_2 r19.2.2.length p19_0_2]) (et := 25) Tryd.sizeOf25 rfl rfl rfl rfl rfl (by show 0 + 3 ≤ 3; decide) rfl (all_one rfl) (.tl (.tl (.tl (.tl .hd)))) ?_
          refine TL.nil (Plan.e0 (HLe.refl _) ?_)
          refine Plan.s1 7 [] (by kernel_rfl) (by kernel_rfl) rfl ?_
          refine R.stX (old := [.int .i64 0, .slice none 0 0, .slice none 0 0]) (l := [.int .i64 (r21.1), .slice A21_0_1 r21.2.1.length p21_0_1, .slice A21_0_2 r21.2.2.length p21_0_2]) (new := [.int .i64 (r21.1), .slice A21_0_1 r21.2.1.length p21_0_1, .slice A21_0_2 r21.2.2.length p21_0_2]) (et := 25) Tryd.sizeOf25 rfl rfl rfl rfl rfl (by show 0 + 3 ≤ 3; decide) rfl (all_one rfl) (.tl (.tl (.tl (.tl (.tl .hd))))) ?_
          refine TL.nil (Plan.e0 (HLe.refl _) ?_)
          refine Plan.done (Post.thnN ?_)
          exact ⟨(b7, r19.1, .slice A19_0_1 r19.2.1.length p19_0_1, r19.2.1, c19_0_1, .slice A19_0_2 r19.2.2.length p19_0_2, r19.2.2, c19_0_2, b8, r21.1, .slice A21_0_1 r21.2.1.length p21_0_1, r21.2.1, c21_0_1, .slice A21_0_2 r21.2.2.length p21_0_2, r21.2.2, c21_0_2), (s19.trans s21), ⟨(Has.cons (.tl (.tl .hd)) (Has.cons (.tl (.tl .hd)) (Has.cons (.tl (.tl .hd)) (Has.cons .hd (Has.cons .hd (Has.cons .hd Has.nil)))))), (OwnS.mono w19_0_1 s21), (OwnS.mono w19_0_2 s21), w21_0_1, w21_0_2, (by first | omega | (simp; done) | (simp; omega) | (simp at *; omega)), (by first | omega | (simp; done) | (simp; omega) | (simp at *; omega)), (by subst er21; subst er19; rw [LR.seq_go, LR.seq_go])⟩, rfl, rfl, rfl, rfl, trivial⟩
    · intro ⟨b7c1, n7c1_0, v7c1_1, x7c1_1, c7c1_1, v7c1_2, x7c1_2, c7c1_2, b8c1, n8c1_0, v8c1_1, x8c1_1, c8c1_1, v8c1_2, x8c1_2, c8c1_2⟩ σ_c1 H_c1 L_c1 ds_c1 s_c1 hI_c1
      obtain ⟨hLc1, w7c1_1, w7c1_2, w8c1_1, w8c1_2, hBc1_0, hBc1_1, hTc1⟩ := hI_c1
      obtain ⟨A7c1_1, p7c1_1, rfl, m7c1_1, n7c1_1_⟩ := OwnS.shape w7c1_1
      obtain ⟨A7c1_2, p7c1_2, rfl, m7c1_2, n7c1_2_⟩ := OwnS.shape w7c1_2
      obtain ⟨A8c1_1, p8c1_1, rfl, m8c1_1, n8c1_1_⟩ := OwnS.shape w8c1_1
      obtain ⟨A8c1_2, p8c1_2, rfl, m8c1_2, n8c1_2_⟩ := OwnS.shape w8c1_2
      refine T.has hLc1 ?_
      refine T.seq ?_
      refine T.seq ?_
      refine T.region ?_
      refine R.ldX (cs := [.int .i64 n7c1_0, .slice A7c1_1 x7c1_1.length p7c1_1, .slice A7c1_2 x7c1_2.length p7c1_2]) (l := [.int .i64 n7c1_0, .slice A7c1_1 x7c1_1.length p7c1_1, .slice A7c1_2 x7c1_2.length p7c1_2]) Tryd.isAgg25 Tryd.sizeOf25 rfl rfl (.tl (.tl .hd)) rfl rfl ?_
      refine TL.shut .hd ?_
      intro HF7c1_1_3 sF7c1_1_3 qF7c1_1_3
      have fF7c1_1_3 := OwnS.read w7c1_1 sF7c1_1_3 qF7c1_1_3
      refine TL.shut .hd ?_
      intro HF7c1_2_4 sF7c1_2_4 qF7c1_2_4
      have fF7c1_2_4 := OwnS.read (OwnS.mono w7c1_2 sF7c1_1_3) sF7c1_2_4 qF7c1_2_4
      refine R.callv rfl rfl rfl (alloc_Check_c _ ((sb4_1.trans (sb3_2.trans (s_c1.trans (sF7c1_1_3.trans sF7c1_2_4)))) _ _ hG0) ((n7c1_0, x7c1_1, x7c1_2)) _ (fF7c1_1_3.mono sF7c1_2_4) _ fF7c1_2_4 (by first | omega | (simp; done) | (simp; omega) | (simp at *; omega)) (by first | omega | (simp; done) | (simp; omega) | (simp at *; omega))) ?_
      refine R.asE rfl (by conv => lhs; whnf) ?_
      refine TL.shut .hd ?_
      intro Hb7c1_5 sb7c1_5 qb7c1_5
      have hb7c1_5 : Hb7c1_5 b7c1 = some (.cells #[.int .i64 n7c1_0, .slice A7c1_1 x7c1_1.length p7c1_1, .slice A7c1_2 x7c1_2.length p7c1_2] 25) := shut1 qb7c1_5
      refine TL.shut .hd ?_
      intro HF8c1_1_6 sF8c1_1_6 qF8c1_1_6
      have fF8c1_1_6 := OwnS.read (OwnS.mono w8c1_1 (sF7c1_1_3.trans (sF7c1_2_4.trans sb7c1_5))) sF8c1_1_6 qF8c1_1_6
      refine TL.shut .hd ?_
      intro HF8c1_2_7 sF8c1_2_7 qF8c1_2_7
      have fF8c1_2_7 := OwnS.read (OwnS.mono w8c1_2 (sF7c1_1_3.trans (sF7c1_2_4.trans (sb7c1_5.trans sF8c1_1_6)))) sF8c1_2_7 qF8c1_2_7
      refine TL.shut .hd ?_
      intro Hb8c1_8 sb8c1_8 qb8c1_8
      have hb8c1_8 : Hb8c1_8 b8c1 = some (.cells #[.int .i64 n8c1_0, .slice A8c1_1 x8c1_1.length p8c1_1, .slice A8c1_2 x8c1_2.length p8c1_2] 25) := shut1 qb8c1_8
      refine TL.nil (Post.thnN ?_)
      refine T.seq ?_
      refine T.cutK (ι := Bool) (fun b52c2 H' L' ds' => Has L' [] ∧ (if ((decide (((alloc_Check_m ((n7c1_0, x7c1_1, x7c1_2))) : Int) = 0)) != (windroseref02_Right_m ((n7c1_0, x7c1_1, x7c1_2)))) = true then true else (if ((alloc_Check_m ((n7c1_0, x7c1_1, x7c1_2))) : Int) ≠ 0 then (if ((alloc_Check_m ((n7c1_0, x7c1_1, x7c1_2))) : Int) ≠ 120 then true else (LR.seq (windroseref02_Same_m ((n7c1_0, x7c1_1, x7c1_2)) ((n8c1_0, x8c1_1, x8c1_2))) (fun r43 => if ((alloc_Same_m ((n7c1_0, x7c1_1, x7c1_2)) ((n8c1_0, x8c1_1, x8c1_2))) != r43) = true then true else (LR.seq (windroselaw02_own_m a0) (fun r49 => (!(alloc_Same_m ((n7c1_0, x7c1_1, x7c1_2)) r49))))))) else (LR.seq (windroseref02_Same_m ((n7c1_0, x7c1_1, x7c1_2)) ((n8c1_0, x8c1_1, x8c1_2))) (fun r43 => if ((alloc_Same_m ((n7c1_0, x7c1_1, x7c1_2)) ((n8c1_0, x8c1_1, x8c1_2))) != r43) = true then true else (LR.seq (windroselaw02_own_m a0) (fun r49 => (!(alloc_Same_m ((n7c1_0, x7c1_1, x7c1_2)) r49))))))) : Bool) = b52c2) (fun b52c2 => [(2, .slice Aa2 a2.length ca2), (3, .pointer (some ⟨b3, 0, none⟩)), (7, .pointer (some ⟨b7c1, 0, none⟩)), (52, .bool (b52c2))]) ?_ ?_
      · refine T.draw Tryd_mixed (by kernel_rfl) ?_
        refine Plan.v 0 [1, 2, 3, 4, 5, 6, 7, 8, 9, 10, 11, 12, 13, 14, 15, 16, 17, 18, 19, 20, 21, 22, 23, 24, 25, 26, 27, 28] (by kernel_rfl) (by kernel_rfl) (by kernel_rfl) (by kernel_rfl) rfl (fun _ _ h_ => R.mvE rfl (by conv => lhs; whnf) (TL.nil h_)) ?_
        refine Plan.v 1 [2, 3, 4, 5, 6, 7, 8, 9, 10, 11, 12, 13, 14, 15, 16, 17, 18, 19, 20, 21, 22, 23, 24, 25, 26, 27, 28] (by kernel_rfl) (by kernel_rfl) (by kernel_rfl) (by kernel_rfl) rfl (fun _ _ h_ => R.eql rfl rfl rfl (TL.nil h_)) ?_
        refine Plan.v 2 [3, 4, 5, 6, 7, 8, 9, 10, 11, 12, 13, 14, 15, 16, 17, 18, 19, 20, 21, 22, 23, 24, 25, 26, 27, 28] (by kernel_rfl) (by kernel_rfl) (by kernel_rfl) (by kernel_rfl) rfl (fun _ _ h_ => R.ldXH (cs := [.int .i64 n7c1_0, .slice A7c1_1 x7c1_1.length p7c1_1, .slice A7c1_2 x7c1_2.length p7c1_2]) (l := [.int .i64 n7c1_0, .slice A7c1_1 x7c1_1.length p7c1_1, .slice A7c1_2 x7c1_2.length p7c1_2]) Tryd.isAgg25 Tryd.sizeOf25 rfl rfl ((sF8c1_1_6.trans (sF8c1_2_7.trans sb8c1_8)) _ _ hb7c1_5) rfl rfl (TL.nil h_)) ?_
        refine Plan.v 3 [4, 5, 6, 7, 8, 9, 10, 11, 12, 13, 14, 15, 16, 17, 18, 19, 20, 21, 22, 23, 24, 25, 26, 27, 28] (by kernel_rfl) (by kernel_rfl) (by kernel_rfl) (by kernel_rfl) rfl (fun _ _ h_ => R.callv rfl rfl rfl (windroseref02_Right_c _ ((n7c1_0, x7c1_1, x7c1_2)) _ (fF7c1_1_3.mono (sF7c1_2_4.trans (sb7c1_5.trans (sF8c1_1_6.trans (sF8c1_2_7.trans sb8c1_8))))) _ (fF7c1_2_4.mono (sb7c1_5.trans (sF8c1_1_6.trans (sF8c1_2_7.trans sb8c1_8))))) (TL.nil h_)) ?_
        refine Plan.v 4 [5, 6, 7, 8, 9, 10, 11, 12, 13, 14, 15, 16, 17, 18, 19, 20, 21, 22, 23, 24, 25, 26, 27, 28] (by kernel_rfl) (by kernel_rfl) (by kernel_rfl) (by kernel_rfl) rfl (fun _ _ h_ => R.neqB Tryd.underlying4 rfl rfl rfl (TL.nil h_)) ?_
        refine Plan.v 5 [6, 7, 8, 9, 10, 11, 12, 13, 14, 15, 16, 17, 18, 19, 20, 21, 22, 23, 24, 25, 26, 27, 28] (by kernel_rfl) (by kernel_rfl) (by kernel_rfl) (by kernel_rfl) rfl (fun _ _ h_ => R.mvE rfl (by conv => lhs; whnf) (TL.nil h_)) ?_
        refine Plan.gsplit 29 rfl (fun g29 => ?_) (fun g29 => ?_)
        · refine Plan.v 6 [7, 8, 9, 10, 11, 12, 13, 14, 15, 16, 17, 18, 19, 20, 21, 22, 23, 24, 25, 26, 27, 28] (by kernel_rfl) (by kernel_rfl) (by kernel_rfl) (by kernel_rfl) rfl (fun _ _ h_ => TL.off rfl rfl rfl (TL.nil h_)) ?_
          refine Plan.v 7 [8, 9, 10, 11, 12, 13, 14, 15, 16, 17, 18, 19, 20, 21, 22, 23, 24, 25, 26, 27, 28] (by kernel_rfl) (by kernel_rfl) (by kernel_rfl) (by kernel_rfl) rfl (fun _ _ h_ => TL.off rfl rfl rfl (TL.nil h_)) ?_
          refine Plan.v 8 [9, 10, 11, 12, 13, 14, 15, 16, 17, 18, 19, 20, 21, 22, 23, 24, 25, 26, 27, 28] (by kernel_rfl) (by kernel_rfl) (by kernel_rfl) (by kernel_rfl) rfl (fun _ _ h_ => TL.off rfl rfl rfl (TL.nil h_)) ?_
          refine Plan.v 9 [10, 11, 12, 13, 14, 15, 16, 17, 18, 19, 20, 21, 22, 23, 24, 25, 26, 27, 28] (by kernel_rfl) (by kernel_rfl) (by kernel_rfl) (by kernel_rfl) rfl (fun _ _ h_ => TL.offU rfl rfl (TL.nil h_)) ?_
          refine Plan.v 10 [11, 12, 13, 14, 15, 16, 17, 18, 19, 20, 21, 22, 23, 24, 25, 26, 27, 28] (by kernel_rfl) (by kernel_rfl) (by kernel_rfl) (by kernel_rfl) rfl (fun _ _ h_ => TL.offU rfl rfl (TL.nil h_)) ?_
          refine Plan.v 11 [12, 13, 14, 15, 16, 17, 18, 19, 20, 21, 22, 23, 24, 25, 26, 27, 28] (by kernel_rfl) (by kernel_rfl) (by kernel_rfl) (by kernel_rfl) rfl (fun _ _ h_ => TL.off rfl rfl rfl (TL.nil h_)) ?_
          refine Plan.v 12 [13, 14, 15, 16, 17, 18, 19, 20, 21, 22, 23, 24, 25, 26, 27, 28] (by kernel_rfl) (by kernel_rfl) (by kernel_rfl) (by kernel_rfl) rfl (fun _ _ h_ => R.pkTE rfl rfl (by conv => lhs; whnf) (TL.nil h_)) ?_
          refine Plan.v 13 [14, 15, 16, 17, 18, 19, 20, 21, 22, 23, 24, 25, 26, 27, 28] (by kernel_rfl) (by kernel_rfl) (by kernel_rfl) (by kernel_rfl) rfl (fun _ _ h_ => R.mvE rfl (by conv => lhs; whnf) (TL.nil h_)) ?_
          refine Plan.v 14 [15, 16, 17, 18, 19, 20, 21, 22, 23, 24, 25, 26, 27, 28] (by kernel_rfl) (by kernel_rfl) (by kernel_rfl) (by kernel_rfl) rfl (fun _ _ h_ => TL.off rfl rfl rfl (TL.nil h_)) ?_
          refine Plan.v 15 [16, 17, 18, 19, 20, 21, 22, 23, 24, 25, 26, 27, 28] (by kernel_rfl) (by kernel_rfl) (by kernel_rfl) (by kernel_rfl) rfl (fun _ _ h_ => TL.off rfl rfl rfl (TL.nil h_)) ?_
          refine Plan.v 16 [17, 18, 19, 20, 21, 22, 23, 24, 25, 26, 27, 28] (by kernel_rfl) (by kernel_rfl) (by kernel_rfl) (by kernel_rfl) rfl (fun _ _ h_ => TL.off rfl rfl rfl (TL.nil h_)) ?_
          refine Plan.v 17 [18, 19, 20, 21, 22, 23, 24, 25, 26, 27, 28] (by kernel_rfl) (by kernel_rfl) (by kernel_rfl) (by kernel_rfl) rfl (fun _ _ h_ => TL.off rfl rfl rfl (TL.nil h_)) ?_
          refine Plan.v 18 [19, 20, 21, 22, 23, 24, 25, 26, 27, 28] (by kernel_rfl) (by kernel_rfl) (by kernel_rfl) (by kernel_rfl) rfl (fun _ _ h_ => TL.off rfl rfl rfl (TL.nil h_)) ?_
          refine Plan.v 19 [20, 21, 22, 23, 24, 25, 26, 27, 28] (by kernel_rfl) (by kernel_rfl) (by kernel_rfl) (by kernel_rfl) rfl (fun _ _ h_ => TL.off rfl rfl rfl (TL.nil h_)) ?_
          refine Plan.v 20 [21, 22, 23, 24, 25, 26, 27, 28] (by kernel_rfl) (by kernel_rfl) (by kernel_rfl) (by kernel_rfl) rfl (fun _ _ h_ => TL.off rfl rfl rfl (TL.nil h_)) ?_
          refine Plan.v 21 [22, 23, 24, 25, 26, 27, 28] (by kernel_rfl) (by kernel_rfl) (by kernel_rfl) (by kernel_rfl) rfl (fun _ _ h_ => R.pkTE rfl rfl (by conv => lhs; whnf) (TL.nil h_)) ?_
          refine Plan.v 22 [23, 24, 25, 26, 27, 28] (by kernel_rfl) (by kernel_rfl) (by kernel_rfl) (by kernel_rfl) rfl (fun _ _ h_ => R.mvE rfl (by conv => lhs; whnf) (TL.nil h_)) ?_
          refine Plan.v 23 [24, 25, 26, 27, 28] (by kernel_rfl) (by kernel_rfl) (by kernel_rfl) (by kernel_rfl) rfl (fun _ _ h_ => TL.off rfl rfl rfl (TL.nil h_)) ?_
          refine Plan.v 24 [25, 26, 27, 28] (by kernel_rfl) (by kernel_rfl) (by kernel_rfl) (by kernel_rfl) rfl (fun _ _ h_ => TL.off rfl rfl rfl (TL.nil h_)) ?_
          refine Plan.v 25 [26, 27, 28] (by kernel_rfl) (by kernel_rfl) (by kernel_rfl) (by kernel_rfl) rfl (fun _ _ h_ => TL.off rfl rfl rfl (TL.nil h_)) ?_
          refine Plan.v 26 [27, 28] (by kernel_rfl) (by kernel_rfl) (by kernel_rfl) (by kernel_rfl) rfl (fun _ _ h_ => TL.off rfl rfl rfl (TL.nil h_)) ?_
          refine Plan.v 27 [28] (by kernel_rfl) (by kernel_rfl) (by kernel_rfl) (by kernel_rfl) rfl (fun _ _ h_ => TL.off rfl rfl rfl (TL.nil h_)) ?_
          refine Plan.v 28 [] (by kernel_rfl) (by kernel_rfl) (by kernel_rfl) (by kernel_rfl) rfl (fun _ _ h_ => R.pkTE rfl rfl (by conv => lhs; whnf) (TL.nil h_)) ?_
          refine Plan.done (Post.thnN ?_)
          exact ⟨true, HLe.refl _, ⟨Has.nil, (by rw [if_t g29])⟩, rfl, rfl, rfl, rfl, trivial⟩
        · refine Plan.v 6 [7, 8, 9, 10, 11, 12, 13, 14, 15, 16, 17, 18, 19, 20, 21, 22, 23, 24, 25, 26, 27, 28] (by kernel_rfl) (by kernel_rfl) (by kernel_rfl) (by kernel_rfl) rfl (fun _ _ h_ => R.mvE rfl (by conv => lhs; whnf) (TL.nil h_)) ?_
          refine Plan.v 7 [8, 9, 10, 11, 12, 13, 14, 15, 16, 17, 18, 19, 20, 21, 22, 23, 24, 25, 26, 27, 28] (by kernel_rfl) (by kernel_rfl) (by kernel_rfl) (by kernel_rfl) rfl (fun _ _ h_ => R.neq rfl rfl rfl (TL.nil h_)) ?_
          refine Plan.v 8 [9, 10, 11, 12, 13, 14, 15, 16, 17, 18, 19, 20, 21, 22, 23, 24, 25, 26, 27, 28] (by kernel_rfl) (by kernel_rfl) (by kernel_rfl) (by kernel_rfl) rfl (fun _ _ h_ => R.mvE rfl (by conv => lhs; whnf) (TL.nil h_)) ?_
          refine Plan.gsplitD 32 rfl (fun g32 => ?_) (fun g32 => ?_)
          · refine Plan.v 9 [10, 11, 12, 13, 14, 15, 16, 17, 18, 19, 20, 21, 22, 23, 24, 25, 26, 27, 28] (by kernel_rfl) (by kernel_rfl) (by kernel_rfl) (by kernel_rfl) rfl (fun _ _ h_ => R.mvE rfl (by conv => lhs; whnf) (TL.nil h_)) ?_
            refine Plan.v 10 [11, 12, 13, 14, 15, 16, 17, 18, 19, 20, 21, 22, 23, 24, 25, 26, 27, 28] (by kernel_rfl) (by kernel_rfl) (by kernel_rfl) (by kernel_rfl) rfl (fun _ _ h_ => R.neq rfl rfl rfl (TL.nil h_)) ?_
            refine Plan.v 11 [12, 13, 14, 15, 16, 17, 18, 19, 20, 21, 22, 23, 24, 25, 26, 27, 28] (by kernel_rfl) (by kernel_rfl) (by kernel_rfl) (by kernel_rfl) rfl (fun _ _ h_ => R.pkTE rfl rfl (by conv => lhs; whnf) (TL.nil h_)) ?_
            refine Plan.v 12 [13, 14, 15, 16, 17, 18, 19, 20, 21, 22, 23, 24, 25, 26, 27, 28] (by kernel_rfl) (by kernel_rfl) (by kernel_rfl) (by kernel_rfl) rfl (fun _ _ h_ => R.pkFE rfl rfl (by conv => lhs; whnf) (TL.nil h_)) ?_
            refine Plan.v 13 [14, 15, 16, 17, 18, 19, 20, 21, 22, 23, 24, 25, 26, 27, 28] (by kernel_rfl) (by kernel_rfl) (by kernel_rfl) (by kernel_rfl) rfl (fun _ _ h_ => R.mvE rfl (by conv => lhs; whnf) (TL.nil h_)) ?_
            refine Plan.gsplitD 37 rfl (fun g37 => ?_) (fun g37 => ?_)
            · refine Plan.v 14 [15, 16, 17, 18, 19, 20, 21, 22, 23, 24, 25, 26, 27, 28] (by kernel_rfl) (by kernel_rfl) (by kernel_rfl) (by kernel_rfl) rfl (fun _ _ h_ => TL.off rfl rfl rfl (TL.nil h_)) ?_
              refine Plan.v 15 [16, 17, 18, 19, 20, 21, 22, 23, 24, 25, 26, 27, 28] (by kernel_rfl) (by kernel_rfl) (by kernel_rfl) (by kernel_rfl) rfl (fun _ _ h_ => TL.off rfl rfl rfl (TL.nil h_)) ?_
              refine Plan.v 16 [17, 18, 19, 20, 21, 22, 23, 24, 25, 26, 27, 28] (by kernel_rfl) (by kernel_rfl) (by kernel_rfl) (by kernel_rfl) rfl (fun _ _ h_ => TL.off rfl rfl rfl (TL.nil h_)) ?_
              refine Plan.v 17 [18, 19, 20, 21, 22, 23, 24, 25, 26, 27, 28] (by kernel_rfl) (by kernel_rfl) (by kernel_rfl) (by kernel_rfl) rfl (fun _ _ h_ => TL.off rfl rfl rfl (TL.nil h_)) ?_
              refine Plan.v 18 [19, 20, 21, 22, 23, 24, 25, 26, 27, 28] (by kernel_rfl) (by kernel_rfl) (by kernel_rfl) (by kernel_rfl) rfl (fun _ _ h_ => TL.off rfl rfl rfl (TL.nil h_)) ?_
              refine Plan.v 19 [20, 21, 22, 23, 24, 25, 26, 27, 28] (by kernel_rfl) (by kernel_rfl) (by kernel_rfl) (by kernel_rfl) rfl (fun _ _ h_ => TL.off rfl rfl rfl (TL.nil h_)) ?_
              refine Plan.v 20 [21, 22, 23, 24, 25, 26, 27, 28] (by kernel_rfl) (by kernel_rfl) (by kernel_rfl) (by kernel_rfl) rfl (fun _ _ h_ => TL.off rfl rfl rfl (TL.nil h_)) ?_
              refine Plan.v 21 [22, 23, 24, 25, 26, 27, 28] (by kernel_rfl) (by kernel_rfl) (by kernel_rfl) (by kernel_rfl) rfl (fun _ _ h_ => R.pkTE rfl rfl (by conv => lhs; whnf) (TL.nil h_)) ?_
              refine Plan.v 22 [23, 24, 25, 26, 27, 28] (by kernel_rfl) (by kernel_rfl) (by kernel_rfl) (by kernel_rfl) rfl (fun _ _ h_ => R.mvE rfl (by conv => lhs; whnf) (TL.nil h_)) ?_
              refine Plan.v 23 [24, 25, 26, 27, 28] (by kernel_rfl) (by kernel_rfl) (by kernel_rfl) (by kernel_rfl) rfl (fun _ _ h_ => TL.off rfl rfl rfl (TL.nil h_)) ?_
              refine Plan.v 24 [25, 26, 27, 28] (by kernel_rfl) (by kernel_rfl) (by kernel_rfl) (by kernel_rfl) rfl (fun _ _ h_ => TL.off rfl rfl rfl (TL.nil h_)) ?_
              refine Plan.v 25 [26, 27, 28] (by kernel_rfl) (by kernel_rfl) (by kernel_rfl) (by kernel_rfl) rfl (fun _ _ h_ => TL.off rfl rfl rfl (TL.nil h_)) ?_
              refine Plan.v 26 [27, 28] (by kernel_rfl) (by kernel_rfl) (by kernel_rfl) (by kernel_rfl) rfl (fun _ _ h_ => TL.off rfl rfl rfl (TL.nil h_)) ?_
              refine Plan.v 27 [28] (by kernel_rfl) (by kernel_rfl) (by kernel_rfl) (by kernel_rfl) rfl (fun _ _ h_ => TL.off rfl rfl rfl (TL.nil h_)) ?_
              refine Plan.v 28 [] (by kernel_rfl) (by kernel_rfl) (by kernel_rfl) (by kernel_rfl) rfl (fun _ _ h_ => R.pkTE rfl rfl (by conv => lhs; whnf) (TL.nil h_)) ?_
              refine Plan.done (Post.thnN ?_)
              exact ⟨true, HLe.refl _, ⟨Has.nil, (by rw [if_f g29, if_pos g32, if_pos g37])⟩, rfl, rfl, rfl, rfl, trivial⟩
            · refine Plan.v 14 [15, 16, 17, 18, 19, 20, 21, 22, 23, 24, 25, 26, 27, 28] (by kernel_rfl) (by kernel_rfl) (by kernel_rfl) (by kernel_rfl) rfl (fun _ _ h_ => R.ldXH (cs := [.int .i64 n7c1_0, .slice A7c1_1 x7c1_1.length p7c1_1, .slice A7c1_2 x7c1_2.length p7c1_2]) (l := [.int .i64 n7c1_0, .slice A7c1_1 x7c1_1.length p7c1_1, .slice A7c1_2 x7c1_2.length p7c1_2]) Tryd.isAgg25 Tryd.sizeOf25 rfl rfl ((sF8c1_1_6.trans (sF8c1_2_7.trans sb8c1_8)) _ _ hb7c1_5) rfl rfl (TL.nil h_)) ?_
              refine Plan.v 15 [16, 17, 18, 19, 20, 21, 22, 23, 24, 25, 26, 27, 28] (by kernel_rfl) (by kernel_rfl) (by kernel_rfl) (by kernel_rfl) rfl (fun _ _ h_ => R.ldXH (cs := [.int .i64 n8c1_0, .slice A8c1_1 x8c1_1.length p8c1_1, .slice A8c1_2 x8c1_2.length p8c1_2]) (l := [.int .i64 n8c1_0, .slice A8c1_1 x8c1_1.length p8c1_1, .slice A8c1_2 x8c1_2.length p8c1_2]) Tryd.isAgg25 Tryd.sizeOf25 rfl rfl hb8c1_8 rfl rfl (TL.nil h_)) ?_
              refine Plan.v 16 [17, 18, 19, 20, 21, 22, 23, 24, 25, 26, 27, 28] (by kernel_rfl) (by kernel_rfl) (by kernel_rfl) (by kernel_rfl) rfl (fun _ _ h_ => R.callv rfl rfl rfl (alloc_Same_c _ ((n7c1_0, x7c1_1, x7c1_2)) _ (fF7c1_1_3.mono (sF7c1_2_4.trans (sb7c1_5.trans (sF8c1_1_6.trans (sF8c1_2_7.trans sb8c1_8))))) _ (fF7c1_2_4.mono (sb7c1_5.trans (sF8c1_1_6.trans (sF8c1_2_7.trans sb8c1_8)))) ((n8c1_0, x8c1_1, x8c1_2)) _ (fF8c1_1_6.mono (sF8c1_2_7.trans sb8c1_8)) _ (fF8c1_2_7.mono sb8c1_8)) (TL.nil h_)) ?_
              refine Plan.v 17 [18, 19, 20, 21, 22, 23, 24, 25, 26, 27, 28] (by kernel_rfl) (by kernel_rfl) (by kernel_rfl) (by kernel_rfl) rfl (fun _ _ h_ => R.ldXH (cs := [.int .i64 n7c1_0, .slice A7c1_1 x7c1_1.length p7c1_1, .slice A7c1_2 x7c1_2.length p7c1_2]) (l := [.int .i64 n7c1_0, .slice A7c1_1 x7c1_1.length p7c1_1, .slice A7c1_2 x7c1_2.length p7c1_2]) Tryd.isAgg25 Tryd.sizeOf25 rfl rfl ((sF8c1_1_6.trans (sF8c1_2_7.trans sb8c1_8)) _ _ hb7c1_5) rfl rfl (TL.nil h_)) ?_
              refine Plan.v 18 [19, 20, 21, 22, 23, 24, 25, 26, 27, 28] (by kernel_rfl) (by kernel_rfl) (by kernel_rfl) (by kernel_rfl) rfl (fun _ _ h_ => R.ldXH (cs := [.int .i64 n8c1_0, .slice A8c1_1 x8c1_1.length p8c1_1, .slice A8c1_2 x8c1_2.length p8c1_2]) (l := [.int .i64 n8c1_0, .slice A8c1_1 x8c1_1.length p8c1_1, .slice A8c1_2 x8c1_2.length p8c1_2]) Tryd.isAgg25 Tryd.sizeOf25 rfl rfl hb8c1_8 rfl rfl (TL.nil h_)) ?_
              obtain ⟨r43, er43⟩ : ∃ r, r = (windroseref02_Same_m ((n7c1_0, x7c1_1, x7c1_2)) ((n8c1_0, x8c1_1, x8c1_2))) := ⟨_, rfl⟩
              refine Plan.v 19 [20, 21, 22, 23, 24, 25, 26, 27, 28] (by kernel_rfl) (by kernel_rfl) (by kernel_rfl) (by kernel_rfl) rfl (fun _ _ h_ => R.callv (v := .bool r43) rfl rfl rfl (by rw [er43]; exact windroseref02_Same_c _ ((n7c1_0, x7c1_1, x7c1_2)) _ (fF7c1_1_3.mono (sF7c1_2_4.trans (sb7c1_5.trans (sF8c1_1_6.trans (sF8c1_2_7.trans sb8c1_8))))) _ (fF7c1_2_4.mono (sb7c1_5.trans (sF8c1_1_6.trans (sF8c1_2_7.trans sb8c1_8)))) ((n8c1_0, x8c1_1, x8c1_2)) _ (fF8c1_1_6.mono (sF8c1_2_7.trans sb8c1_8)) _ (fF8c1_2_7.mono sb8c1_8)) (TL.nil h_)) ?_
              refine Plan.v 20 [21, 22, 23, 24, 25, 26, 27, 28] (by kernel_rfl) (by kernel_rfl) (by kernel_rfl) (by kernel_rfl) rfl (fun _ _ h_ => R.neqB Tryd.underlying4 rfl rfl rfl (TL.nil h_)) ?_
              refine Plan.v 21 [22, 23, 24, 25, 26, 27, 28] (by kernel_rfl) (by kernel_rfl) (by kernel_rfl) (by kernel_rfl) rfl (fun _ _ h_ => R.pkFE rfl rfl (by conv => lhs; whnf) (TL.nil h_)) ?_
              refine Plan.v 22 [23, 24, 25, 26, 27, 28] (by kernel_rfl) (by kernel_rfl) (by kernel_rfl) (by kernel_rfl) rfl (fun _ _ h_ => R.mvE rfl (by conv => lhs; whnf) (TL.nil h_)) ?_
              refine Plan.gsplit 46 rfl (fun g46 => ?_) (fun g46 => ?_)
              · refine Plan.v 23 [24, 25, 26, 27, 28] (by kernel_rfl) (by kernel_rfl) (by kernel_rfl) (by kernel_rfl) rfl (fun _ _ h_ => TL.off rfl rfl rfl (TL.nil h_)) ?_
                refine Plan.v 24 [25, 26, 27, 28] (by kernel_rfl) (by kernel_rfl) (by kernel_rfl) (by kernel_rfl) rfl (fun _ _ h_ => TL.off rfl rfl rfl (TL.nil h_)) ?_
                refine Plan.v 25 [26, 27, 28] (by kernel_rfl) (by kernel_rfl) (by kernel_rfl) (by kernel_rfl) rfl (fun _ _ h_ => TL.off rfl rfl rfl (TL.nil h_)) ?_
                refine Plan.v 26 [27, 28] (by kernel_rfl) (by kernel_rfl) (by kernel_rfl) (by kernel_rfl) rfl (fun _ _ h_ => TL.off rfl rfl rfl (TL.nil h_)) ?_
                refine Plan.v 27 [28] (by kernel_rfl) (by kernel_rfl) (by kernel_rfl) (by kernel_rfl) rfl (fun _ _ h_ => TL.off rfl rfl rfl (TL.nil h_)) ?_
                refine Plan.v 28 [] (by kernel_rfl) (by kernel_rfl) (by kernel_rfl) (by kernel_rfl) rfl (fun _ _ h_ => R.pkTE rfl rfl (by conv => lhs; whnf) (TL.nil h_)) ?_
                refine Plan.done (Post.thnN ?_)
                exact ⟨true, HLe.refl _, ⟨Has.nil, (by subst er43; rw [if_f g29, if_pos g32, if_neg g37, LR.seq_go, if_t g46])⟩, rfl, rfl, rfl, rfl, trivial⟩
              · refine Plan.v 23 [24, 25, 26, 27, 28] (by kernel_rfl) (by kernel_rfl) (by kernel_rfl) (by kernel_rfl) rfl (fun _ _ h_ => R.ldXH (cs := [.int .i64 n7c1_0, .slice A7c1_1 x7c1_1.length p7c1_1, .slice A7c1_2 x7c1_2.length p7c1_2]) (l := [.int .i64 n7c1_0, .slice A7c1_1 x7c1_1.length p7c1_1, .slice A7c1_2 x7c1_2.length p7c1_2]) Tryd.isAgg25 Tryd.sizeOf25 rfl rfl ((sF8c1_1_6.trans (sF8c1_2_7.trans sb8c1_8)) _ _ hb7c1_5) rfl rfl (TL.nil h_)) ?_
                refine Plan.v 24 [25, 26, 27, 28] (by kernel_rfl) (by kernel_rfl) (by kernel_rfl) (by kernel_rfl) rfl (fun _ _ h_ => R.ldXH (cs := [.int .i64 (a0.1), .slice Aa0_1 a0.2.1.length ca0_1, .slice Aa0_2 a0.2.2.length ca0_2]) (l := [.int .i64 (a0.1), .slice Aa0_1 a0.2.1.length ca0_1, .slice Aa0_2 a0.2.2.length ca0_2]) Tryd.isAgg25 Tryd.sizeOf25 rfl rfl ((s_c1.trans (sF7c1_1_3.trans (sF7c1_2_4.trans (sb7c1_5.trans (sF8c1_1_6.trans (sF8c1_2_7.trans sb8c1_8)))))) _ _ hb3_2) rfl rfl (TL.nil h_)) ?_
                refine Plan.s1 25 [26, 27, 28] (by kernel_rfl) (by kernel_rfl) rfl ?_
                obtain ⟨r49, er49⟩ : ∃ r, r = (windroselaw02_own_m a0) := ⟨_, rfl⟩
                refine TL.call [] rfl rfl rfl (windroselaw02_own_c _ a0 _ (ha0_1.mono (sb4_1.trans (sb3_2.trans (s_c1.trans (sF7c1_1_3.trans (sF7c1_2_4.trans (sb7c1_5.trans (sF8c1_1_6.trans (sF8c1_2_7.trans sb8c1_8))))))))) _ (ha0_2.mono (sb4_1.trans (sb3_2.trans (s_c1.trans (sF7c1_1_3.trans (sF7c1_2_4.trans (sb7c1_5.trans (sF8c1_1_6.trans (sF8c1_2_7.trans sb8c1_8)))))))))) ?_
                intro v49 H49 L49 s49 q49
                rw [← er49] at q49
                obtain ⟨u49_0_1, u49_0_2, c49_0_1, c49_0_2, rfl, rfl, w49_0_1, w49_0_2⟩ := q49
                obtain ⟨A49_0_1, p49_0_1, rfl, m49_0_1, n49_0_1⟩ := OwnS.shape w49_0_1
                obtain ⟨A49_0_2, p49_0_2, rfl, m49_0_2, n49_0_2⟩ := OwnS.shape w49_0_2
                have ta49 : r49.2.1.length ≤ 40 := by rw [er49]; simp only [windroselaw02_own_m, List.length_take]; omega
                have tb49 : r49.2.2.length ≤ 40 := by rw [er49]; simp only [windroselaw02_own_m, List.length_take]; omega
                refine TL.nil (Plan.e1 (s49) ?_)
                refine Plan.s1 26 [27, 28] (by kernel_rfl) (by kernel_rfl) rfl ?_
                refine TL.shut .hd ?_
                intro HF49_0_1_11 sF49_0_1_11 qF49_0_1_11
                have fF49_0_1_11 := OwnS.read w49_0_1 sF49_0_1_11 qF49_0_1_11
                refine TL.shut .hd ?_
                intro HF49_0_2_12 sF49_0_2_12 qF49_0_2_12
                have fF49_0_2_12 := OwnS.read (OwnS.mono w49_0_2 sF49_0_1_11) sF49_0_2_12 qF49_0_2_12
                refine R.callv rfl rfl rfl (alloc_Same_c _ ((n7c1_0, x7c1_1, x7c1_2)) _ (fF7c1_1_3.mono (sF7c1_2_4.trans (sb7c1_5.trans (sF8c1_1_6.trans (sF8c1_2_7.trans (sb8c1_8.trans (s49.trans (sF49_0_1_11.trans sF49_0_2_12)))))))) _ (fF7c1_2_4.mono (sb7c1_5.trans (sF8c1_1_6.trans (sF8c1_2_7.trans (sb8c1_8.trans (s49.trans (sF49_0_1_11.trans sF49_0_2_12))))))) r49 _ (fF49_0_1_11.mono sF49_0_2_12) _ fF49_0_2_12) ?_
                refine TL.nil (Plan.e1 ((sF49_0_1_11.trans sF49_0_2_12)) ?_)
                refine Plan.v 27 [28] (by kernel_rfl) (by kernel_rfl) (by kernel_rfl) (by kernel_rfl) rfl (fun _ _ h_ => R.not rfl rfl (TL.nil h_)) ?_
                refine Plan.v 28 [] (by kernel_rfl) (by kernel_rfl) (by kernel_rfl) (by kernel_rfl) rfl (fun _ _ h_ => R.pkFE rfl rfl (by conv => lhs; whnf) (TL.nil h_)) ?_
                refine Plan.done (Post.thnN ?_)
                exact ⟨(!(alloc_Same_m ((n7c1_0, x7c1_1, x7c1_2)) r49)), (s49.trans (sF49_0_1_11.trans sF49_0_2_12)), ⟨Has.nil, (by subst er49; subst er43; rw [if_f g29, if_pos g32, if_neg g37, LR.seq_go, if_f g46, LR.seq_go])⟩, rfl, rfl, rfl, rfl, trivial⟩
          · refine Plan.v 9 [10, 11, 12, 13, 14, 15, 16, 17, 18, 19, 20, 21, 22, 23, 24, 25, 26, 27, 28] (by kernel_rfl) (by kernel_rfl) (by kernel_rfl) (by kernel_rfl) rfl (fun _ _ h_ => TL.off rfl rfl rfl (TL.nil h_)) ?_
            refine Plan.v 10 [11, 12, 13, 14, 15, 16, 17, 18, 19, 20, 21, 22, 23, 24, 25, 26, 27, 28] (by kernel_rfl) (by kernel_rfl) (by kernel_rfl) (by kernel_rfl) rfl (fun _ _ h_ => TL.off rfl rfl rfl (TL.nil h_)) ?_
            refine Plan.v 11 [12, 13, 14, 15, 16, 17, 18, 19, 20, 21, 22, 23, 24, 25, 26, 27, 28] (by kernel_rfl) (by kernel_rfl) (by kernel_rfl) (by kernel_rfl) rfl (fun _ _ h_ => R.pkFE rfl rfl (by conv => lhs; whnf) (TL.nil h_)) ?_
            refine Plan.v 12 [13, 14, 15, 16, 17, 18, 19, 20, 21, 22, 23, 24, 25, 26, 27, 28] (by kernel_rfl) (by kernel_rfl) (by kernel_rfl) (by kernel_rfl) rfl (fun _ _ h_ => R.pkFE rfl rfl (by conv => lhs; whnf) (TL.nil h_)) ?_
            refine Plan.v 13 [14, 15, 16, 17, 18, 19, 20, 21, 22, 23, 24, 25, 26, 27, 28] (by kernel_rfl) (by kernel_rfl) (by kernel_rfl) (by kernel_rfl) rfl (fun _ _ h_ => R.mvE rfl (by conv => lhs; whnf) (TL.nil h_)) ?_
            refine Plan.v 14 [15, 16, 17, 18, 19, 20, 21, 22, 23, 24, 25, 26, 27, 28] (by kernel_rfl) (by kernel_rfl) (by kernel_rfl) (by kernel_rfl) rfl (fun _ _ h_ => R.ldXH (cs := [.int .i64 n7c1_0, .slice A7c1_1 x7c1_1.length p7c1_1, .slice A7c1_2 x7c1_2.length p7c1_2]) (l := [.int .i64 n7c1_0, .slice A7c1_1 x7c1_1.length p7c1_1, .slice A7c1_2 x7c1_2.length p7c1_2]) Tryd.isAgg25 Tryd.sizeOf25 rfl rfl ((sF8c1_1_6.trans (sF8c1_2_7.trans sb8c1_8)) _ _ hb7c1_5) rfl rfl (TL.nil h_)) ?_
            refine Plan.v 15 [16, 17, 18, 19, 20, 21, 22, 23, 24, 25, 26, 27, 28] (by kernel_rfl) (by kernel_rfl) (by kernel_rfl) (by kernel_rfl) rfl (fun _ _ h_ => R.ldXH (cs := [.int .i64 n8c1_0, .slice A8c1_1 x8c1_1.length p8c1_1, .slice A8c1_2 x8c1_2.length p8c1_2]) (l := [.int .i64 n8c1_0, .slice A8c1_1 x8c1_1.length p8c1_1, .slice A8c1_2 x8c1_2.length p8c1_2]) Tryd.isAgg25 Tryd.sizeOf25 rfl rfl hb8c1_8 rfl rfl (TL.nil h_)) ?_
            refine Plan.v 16 [17, 18, 19, 20, 21, 22, 23, 24, 25, 26, 27, 28] (by kernel_rfl) (by kernel_rfl) (by kernel_rfl) (by kernel_rfl) rfl (fun _ _ h_ => R.callv rfl rfl rfl (alloc_Same_c _ ((n7c1_0, x7c1_1, x7c1_2)) _ (fF7c1_1_3.mono (sF7c1_2_4.trans (sb7c1_5.trans (sF8c1_1_6.trans (sF8c1_2_7.trans sb8c1_8))))) _ (fF7c1_2_4.mono (sb7c1_5.trans (sF8c1_1_6.trans (sF8c1_2_7.trans sb8c1_8)))) ((n8c1_0, x8c1_1, x8c1_2)) _ (fF8c1_1_6.mono (sF8c1_2_7.trans sb8c1_8)) _ (fF8c1_2_7.mono sb8c1_8)) (TL.nil h_)) ?_
            refine Plan.v 17 [18, 19, 20, 21, 22, 23, 24, 25, 26, 27, 28] (by kernel_rfl) (by kernel_rfl) (by kernel_rfl) (by kernel_rfl) rfl (fun _ _ h_ => R.ldXH (cs := [.int .i64 n7c1_0, .slice A7c1_1 x7c1_1.length p7c1_1, .slice A7c1_2 x7c1_2.length p7c1_2]) (l := [.int .i64 n7c1_0, .slice A7c1_1 x7c1_1.length p7c1_1, .slice A7c1_2 x7c1_2.length p7c1_2]) Tryd.isAgg25 Tryd.sizeOf25 rfl rfl ((sF8c1_1_6.trans (sF8c1_2_7.trans sb8c1_8)) _ _ hb7c1_5) rfl rfl (TL.nil h_)) ?_
            refine Plan.v 18 [19, 20, 21, 22, 23, 24, 25, 26, 27, 28] (by kernel_rfl) (by kernel_rfl) (by kernel_rfl) (by kernel_rfl) rfl (fun _ _ h_ => R.ldXH (cs := [.int .i64 n8c1_0, .slice A8c1_1 x8c1_1.length p8c1_1, .slice A8c1_2 x8c1_2.length p8c1_2]) (l := [.int .i64 n8c1_0, .slice A8c1_1 x8c1_1.length p8c1_1, .slice A8c1_2 x8c1_2.length p8c1_2]) Tryd.isAgg25 Tryd.sizeOf25 rfl rfl hb8c1_8 rfl rfl (TL.nil h_)) ?_
            obtain ⟨r43, er43⟩ : ∃ r, r = (windroseref02_Same_m ((n7c1_0, x7c1_1, x7c1_2)) ((n8c1_0, x8c1_1, x8c1_2))) := ⟨_, rfl⟩
            refine Plan.v 19 [20, 21, 22, 23, 24, 25, 26, 27, 28] (by kernel_rfl) (by kernel_rfl) (by kernel_rfl) (by kernel_rfl) rfl (fun _ _ h_ => R.callv (v := .bool r43) rfl rfl rfl (by rw [er43]; exact windroseref02_Same_c _ ((n7c1_0, x7c1_1, x7c1_2)) _ (fF7c1_1_3.mono (sF7c1_2_4.trans (sb7c1_5.trans (sF8c1_1_6.trans (sF8c1_2_7.trans sb8c1_8))))) _ (fF7c1_2_4.mono (sb7c1_5.trans (sF8c1_1_6.trans (sF8c1_2_7.trans sb8c1_8)))) ((n8c1_0, x8c1_1, x8c1_2)) _ (fF8c1_1_6.mono (sF8c1_2_7.trans sb8c1_8)) _ (fF8c1_2_7.mono sb8c1_8)) (TL.nil h_)) ?_
            refine Plan.v 20 [21, 22, 23, 24, 25, 26, 27, 28] (by kernel_rfl) (by kernel_rfl) (by kernel_rfl) (by kernel_rfl) rfl (fun _ _ h_ => R.neqB Tryd.underlying4 rfl rfl rfl (TL.nil h_)) ?_
            refine Plan.v 21 [22, 23, 24, 25, 26, 27, 28] (by kernel_rfl) (by kernel_rfl) (by kernel_rfl) (by kernel_rfl) rfl (fun _ _ h_ => R.pkFE rfl rfl (by conv => lhs; whnf) (TL.nil h_)) ?_
            refine Plan.v 22 [23, 24, 25, 26, 27, 28] (by kernel_rfl) (by kernel_rfl) (by kernel_rfl) (by kernel_rfl) rfl (fun _ _ h_ => R.mvE rfl (by conv => lhs; whnf) (TL.nil h_)) ?_
            refine Plan.gsplit 46 rfl (fun g46 => ?_) (fun g46 => ?_)
            · refine Plan.v 23 [24, 25, 26, 27, 28] (by kernel_rfl) (by kernel_rfl) (by kernel_rfl) (by kernel_rfl) rfl (fun _ _ h_ => TL.off rfl rfl rfl (TL.nil h_)) ?_
              refine Plan.v 24 [25, 26, 27, 28] (by kernel_rfl) (by kernel_rfl) (by kernel_rfl) (by kernel_rfl) rfl (fun _ _ h_ => TL.off rfl rfl rfl (TL.nil h_)) ?_
              refine Plan.v 25 [26, 27, 28] (by kernel_rfl) (by kernel_rfl) (by kernel_rfl) (by kernel_rfl) rfl (fun _ _ h_ => TL.off rfl rfl rfl (TL.nil h_)) ?_
              refine Plan.v 26 [27, 28] (by kernel_rfl) (by kernel_rfl) (by kernel_rfl) (by kernel_rfl) rfl (fun _ _ h_ => TL.off rfl rfl rfl (TL.nil h_)) ?_
              refine Plan.v 27 [28] (by kernel_rfl) (by kernel_rfl) (by kernel_rfl) (by kernel_rfl) rfl (fun _ _ h_ => TL.off rfl rfl rfl (TL.nil h_)) ?_
              refine Plan.v 28 [] (by kernel_rfl) (by kernel_rfl) (by kernel_rfl) (by kernel_rfl) rfl (fun _ _ h_ => R.pkTE rfl rfl (by conv => lhs; whnf) (TL.nil h_)) ?_
              refine Plan.done (Post.thnN ?_)
              exact ⟨true, HLe.refl _, ⟨Has.nil, (by subst er43; rw [if_f g29, if_neg g32, LR.seq_go, if_t g46])⟩, rfl, rfl, rfl, rfl, trivial⟩
            · refine Plan.v 23 [24, 25, 26, 27, 28] (by kernel_rfl) (by kernel_rfl) (by kernel_rfl) (by kernel_rfl) rfl (fun _ _ h_ => R.ldXH (cs := [.int .i64 n7c1_0, .slice A7c1_1 x7c1_1.length p7c1_1, .slice A7c1_2 x7c1_2.length p7c1_2]) (l := [.int .i64 n7c1_0, .slice A7c1_1 x7c1_1.length p7c1_1, .slice A7c1_2 x7c1_2.length p7c1_2]) Tryd.isAgg25 Tryd.sizeOf25 rfl rfl ((sF8c1_1_6.trans (sF8c1_2_7.trans sb8c1_8)) _ _ hb7c1_5) rfl rfl (TL.nil h_)) ?_
              refine Plan.v 24 [25, 26, 27, 28] (by kernel_rfl) (by kernel_rfl) (by kernel_rfl) (by kernel_rfl) rfl (fun _ _ h_ => R.ldXH (cs := [.int .i64 (a0.1), .slice Aa0_1 a0.2.1.length ca0_1, .slice Aa0_2 a0.2.2.length ca0_2]) (l := [.int .i64 (a0.1), .slice Aa0_1 a0.2.1.length ca0_1, .slice Aa0_2 a0.2.2.length ca0_2]) Tryd.isAgg25 Tryd.sizeOf25 rfl rfl ((s_c1.trans (sF7c1_1_3.trans (sF7c1_2_4.trans (sb7c1_5.trans (sF8c1_1_6.trans (sF8c1_2_7.trans sb8c1_8)))))) _ _ hb3_2) rfl rfl (TL.nil h_)) ?_
              refine Plan.s1 25 [26, 27, 28] (by kernel_rfl) (by kernel_rfl) rfl ?_
              obtain ⟨r49, er49⟩ : ∃ r, r = (windroselaw02_own_m a0) := ⟨_, rfl⟩
              refine TL.call [] rfl rfl rfl (windroselaw02_own_c _ a0 _ (ha0_1.mono (sb4_1.trans (sb3_2.trans (s_c1.trans (sF7c1_1_3.trans (sF7c1_2_4.trans (sb7c1_5.trans (sF8c1_1_6.trans (sF8c1_2_7.trans sb8c1_8))))))))) _ (ha0_2.mono (sb4_1.trans (sb3_2.trans (s_c1.trans (sF7c1_1_3.trans (sF7c1_2_4.trans (sb7c1_5.trans (sF8c1_1_6.trans (sF8c1_2_7.trans sb8c1_8)))))))))) ?_
              intro v49 H49 L49 s49 q49
              rw [← er49] at q49
              obtain ⟨u49_0_1, u49_0_2, c49_0_1, c49_0_2, rfl, rfl, w49_0_1, w49_0_2⟩ := q49
              obtain ⟨A49_0_1, p49_0_1, rfl, m49_0_1, n49_0_1⟩ := OwnS.shape w49_0_1
              obtain ⟨A49_0_2, p49_0_2, rfl, m49_0_2, n49_0_2⟩ := OwnS.shape w49_0_2
              have ta49 : r49.2.1.length ≤ 40 := by rw [er49]; simp only [windroselaw02_own_m, List.length_take]; omega
              have tb49 : r49.2.2.length ≤ 40 := by rw [er49]; simp only [windroselaw02_own_m, List.length_take]; omega
              refine TL.nil (Plan.e1 (s49) ?_)
              refine Plan.s1 26 [27, 28] (by kernel_rfl) (by kernel_rfl) rfl ?_
              refine TL.shut .hd ?_
              intro HF49_0_1_15 sF49_0_1_15 qF49_0_1_15
              have fF49_0_1_15 := OwnS.read w49_0_1 sF49_0_1_15 qF49_0_1_15
              refine TL.shut .hd ?_
              intro HF49_0_2_16 sF49_0_2_16 qF49_0_2_16
              have fF49_0_2_16 := OwnS.read (OwnS.mono w49_0_2 sF49_0_1_15) sF49_0_2_16 qF49_0_2_16
              refine R.callv rfl rfl rfl (alloc_Same_c _ ((n7c1_0, x7c1_1, x7c1_2)) _ (fF7c1_1_3.mono (sF7c1_2_4.trans (sb7c1_5.trans (sF8c1_1_6.trans (sF8c1_2_7.trans (sb8c1_8.trans (s49.trans (sF49_0_1_15.trans sF49_0_2_16)))))))) _ (fF7c1_2_4.mono (sb7c1_5.trans (sF8c1_1_6.trans (sF8c1_2_7.trans (sb8c1_8.trans (s49.trans (sF49_0_1_15.trans sF49_0_2_16))))))) r49 _ (fF49_0_1_15.mono sF49_0_2_16) _ fF49_0_2_16) ?_
              refine TL.nil (Plan.e1 ((sF49_0_1_15.trans sF49_0_2_16)) ?_)
              refine Plan.v 27 [28] (by kernel_rfl) (by kernel_rfl) (by kernel_rfl) (by kernel_rfl) rfl (fun _ _ h_ => R.not rfl rfl (TL.nil h_)) ?_
              refine Plan.v 28 [] (by kernel_rfl) (by kernel_rfl) (by kernel_rfl) (by kernel_rfl) rfl (fun _ _ h_ => R.pkFE rfl rfl (by conv => lhs; whnf) (TL.nil h_)) ?_
              refine Plan.done (Post.thnN ?_)
              exact ⟨(!(alloc_Same_m ((n7c1_0, x7c1_1, x7c1_2)) r49)), (s49.trans (sF49_0_1_15.trans sF49_0_2_16)), ⟨Has.nil, (by subst er49; subst er43; rw [if_f g29, if_neg g32, LR.seq_go, if_f g46, LR.seq_go])⟩, rfl, rfl, rfl, rfl, trivial⟩
      · intro b52c2 σ_c2 H_c2 L_c2 ds_c2 s_c2 hI_c2
        obtain ⟨hLc2, hTc2⟩ := hI_c2
        refine T.has hLc2 ?_
        refine T.cond rfl (fun c52 => ?_) (fun c52 => ?_)
        · refine T.set 52 (.bool true) (congrArg Value.bool c52) ?_
          have hZ52 := hTc2.trans c52
          try simp only [or_f, or_t, and_f, and_t, decide_eq_true_eq, decide_eq_false_iff_not, Bool.not_eq_true'] at hZ52
          refine T.seq ?_
          refine T.region ?_
          refine R.asE rfl (by conv => lhs; whnf) ?_
          refine TL.nil (Post.thnN ?_)
          refine T.has Has.nil ?_
          refine T.ret (Post.thnR ?_)
          have hM : windroselaw02_AllocMay_m a0 a1 a2 = false := by rw [windroselaw02_AllocMay_m, if_f c17, hTc1, LR.seq_go, hTc2, LR.seq_go, if_t c52]
          exact fin1L (v := .bool false) [] rfl rfl (List.Sublist.refl _) ⟨rfl, by first | rw [hM] | rfl⟩
        · refine T.set 52 (.bool false) (congrArg Value.bool c52) ?_
          have hZ52 := hTc2.trans c52
          try simp only [or_f, or_t, and_f, and_t, decide_eq_true_eq, decide_eq_false_iff_not, Bool.not_eq_true'] at hZ52
          refine T.skip (Post.thnN ?_)
          refine T.seq ?_
          refine T.seq ?_
          refine T.region ?_
          refine R.mvE rfl (by conv => lhs; whnf) ?_
          refine R.len Tryd.underlying23 rfl rfl ?_
          refine R.mvE rfl (by conv => lhs; whnf) ?_
          refine TL.nil (Post.thnN ?_)
          refine T.cutK (ι := Unit) (fun _ H' L' ds' => Has L' [] ∧ (LR.on (windroselaw02_AllocMay_l4 a2 0 ()) (fun r => r) (fun ol4 => .go ol4) : LR (Bool) (Unit)) = .go ()) (fun _ => [(3, .pointer (some ⟨b3, 0, none⟩)), (7, .pointer (some ⟨b7c1, 0, none⟩))]) ?_ ?_
          · refine T.block ?_
            refine T.loop (ι := Nat) (fun kl4 H' L' ds' => kl4 ≤ a2.length ∧ Has L' [] ∧ windroselaw02_AllocMay_l4 (a2.drop kl4) kl4 () = windroselaw02_AllocMay_l4 a2 0 ()) (fun kl4 => [(55, .int .i64 (kl4 : Int)), (3, .pointer (some ⟨b3, 0, none⟩)), (7, .pointer (some ⟨b7c1, 0, none⟩)), (53, .slice Aa2 a2.length ca2), (54, .int .i64 (a2.length : Int))]) (fun kl4 => a2.length - kl4) 0 ?_ ?_ ?_
            · exact ⟨(by omega), Has.nil, (by rfl)⟩
            · exact ⟨rfl, rfl, rfl, rfl, rfl, trivial⟩
            · intro kl4 σ_l4 H_l4 L_l4 ds_l4 s_l4 hI_l4
              obtain ⟨hkl4, hI_l4⟩ := hI_l4
              obtain ⟨hLl4, hQl4⟩ := hI_l4
              refine T.has hLl4 ?_
              refine T.seq ?_
              refine T.region ?_
              refine R.lss rfl rfl rfl ?_
              refine TL.nil (Post.thnN ?_)
              refine T.seq ?_
              refine T.condD rfl (fun c56 => ?_) (fun c56 => ?_)
              · have hltl4 : kl4 < a2.length := by omega
                obtain ⟨yl4, hyl4⟩ := getk (xs := a2) (k := kl4) (by omega)
                refine T.skip (Post.thnN ?_)
                refine T.seq ?_
                refine T.block ?_
                refine T.seq ?_
                refine T.region ?_
                refine R.mvE rfl (by conv => lhs; whnf) ?_
                obtain ⟨b58, o58, i58, k58⟩ := RdS.elem (ha2.mono (sb4_1.trans (sb3_2.trans (s_c1.trans (sF7c1_1_3.trans (sF7c1_2_4.trans (sb7c1_5.trans (sF8c1_1_6.trans (sF8c1_2_7.trans (sb8c1_8.trans (s_c2.trans s_l4))))))))))) hyl4
                obtain ⟨l58, g58, k58⟩ := k58
                obtain rfl : l58 = [.int .i64 yl4] := g58
                refine R.ixp Tryd.underlying23 Tryd.sizeOf3 rfl rfl rfl (by omega) i58 ?_
                refine R.ldC Tryd.isAgg3 rfl rfl (k58 0 _ rfl) ?_
                refine R.asE rfl (by conv => lhs; whnf) ?_
                refine R.asE rfl (by conv => lhs; whnf) ?_
                refine TL.nil (Post.thnN ?_)
                refine T.seq ?_
                refine T.seq ?_
                refine T.region ?_
                refine R.mvE rfl (by conv => lhs; whnf) ?_
                refine R.eql rfl rfl rfl ?_
                refine TL.nil (Post.thnN ?_)
                refine T.condD rfl (fun c61 => ?_) (fun c61 => ?_)
                · refine T.set 61 (.bool true) (congrArg Value.bool (decide_eq_true c61)) ?_
                  refine T.exit (Post.thnE (Post.blkE rfl (Post.thnE (Post.thnE (Post.blkX ?_)))))
                  have hEl4 : windroselaw02_AllocMay_l4 a2 0 () = .go () := (by rw [← hQl4, drop_cons hyl4, windroselaw02_AllocMay_l4]; rw [if_pos c61])
                  refine id (Post.thnN ?_)
                  exact ⟨(), s_l4, ⟨Has.nil, (by rw [hEl4, LR.on_go])⟩, rfl, rfl, trivial⟩
                · refine T.set 61 (.bool false) (congrArg Value.bool (decide_eq_false c61)) ?_
                  refine T.skip (Post.thnN ?_)
                  refine T.seq ?_
                  refine T.region ?_
                  refine R.mvE rfl (by conv => lhs; whnf) ?_
                  obtain ⟨r64, er64⟩ : ∃ r, r = (alloc_New_m yl4) := ⟨_, rfl⟩
                  refine TL.call [] rfl rfl rfl (alloc_New_c _ ((sb4_1.trans (sb3_2.trans (s_c1.trans (sF7c1_1_3.trans (sF7c1_2_4.trans (sb7c1_5.trans (sF8c1_1_6.trans (sF8c1_2_7.trans (sb8c1_8.trans (s_c2.trans s_l4)))))))))) _ _ hG0) (yl4)) ?_
                  intro v64 H64 L64 s64 q64
                  rw [← er64] at q64
                  obtain ⟨u64_0_1, u64_0_2, c64_0_1, c64_0_2, rfl, rfl, w64_0_1, w64_0_2⟩ := q64
                  obtain ⟨A64_0_1, p64_0_1, rfl, m64_0_1, n64_0_1⟩ := OwnS.shape w64_0_1
                  obtain ⟨A64_0_2, p64_0_2, rfl, m64_0_2, n64_0_2⟩ := OwnS.shape w64_0_2
                  have tn64 : r64.1.2.1.length ≤ 2 ∧ r64.1.2.2.length ≤ 0 := by rw [er64]; exact new_len _
                  refine R.mvE rfl (by conv => lhs; whnf) ?_
                  refine R.ext rfl rfl rfl ?_
                  refine R.ext rfl rfl rfl ?_
                  refine R.alloc Tryd.zeroValue25 rfl ?_
                  intro b12
                  refine R.stX (old := [.int .i64 0, .slice none 0 0, .slice none 0 0]) (l := [.int .i64 (r64.1.1), .slice A64_0_1 r64.1.2.1.length p64_0_1, .slice A64_0_2 r64.1.2.2.length p64_0_2]) (new := [.int .i64 (r64.1.1), .slice A64_0_1 r64.1.2.1.length p64_0_1, .slice A64_0_2 r64.1.2.2.length p64_0_2]) (et := 25) Tryd.sizeOf25 rfl rfl rfl rfl rfl (by show 0 + 3 ≤ 3; decide) rfl (all_one rfl) .hd ?_
                  refine R.asE rfl (by conv => lhs; whnf) ?_
                  refine TL.shut (.tl .hd) ?_
                  intro HF64_0_1_17 sF64_0_1_17 qF64_0_1_17
                  have fF64_0_1_17 := OwnS.read w64_0_1 sF64_0_1_17 qF64_0_1_17
                  refine TL.shut (.tl .hd) ?_
                  intro HF64_0_2_18 sF64_0_2_18 qF64_0_2_18
                  have fF64_0_2_18 := OwnS.read (OwnS.mono w64_0_2 sF64_0_1_17) sF64_0_2_18 qF64_0_2_18
                  refine TL.shut .hd ?_
                  intro Hb12_19 sb12_19 qb12_19
                  have hb12_19 : Hb12_19 b12 = some (.cells #[.int .i64 (r64.1.1), .slice A64_0_1 r64.1.2.1.length p64_0_1, .slice A64_0_2 r64.1.2.2.length p64_0_2] 25) := shut1 qb12_19
                  refine TL.nil (Post.thnN ?_)
                  refine T.seq ?_
                  refine T.region ?_
                  refine R.bld (cs := [.int .i64 0, .slice none 0 0, .slice none 0 0]) rfl (fun _ => by kernel_rfl) ?_
                  refine R.alloc Tryd.zeroValue25 rfl ?_
                  intro b14
                  refine R.stX (old := [.int .i64 0, .slice none 0 0, .slice none 0 0]) (l := [.int .i64 0, .slice none 0 0, .slice none 0 0]) (new := [.int .i64 0, .slice none 0 0, .slice none 0 0]) (et := 25) Tryd.sizeOf25 rfl rfl rfl rfl rfl (by show 0 + 3 ≤ 3; decide) rfl (all_one rfl) .hd ?_
                  refine R.asE rfl (by conv => lhs; whnf) ?_
                  refine TL.nil (Post.thnN ?_)
                  refine T.seq ?_
                  refine T.seq ?_
                  refine T.cutK (ι := Bool) (fun b73c5 H' L' ds' => Has L' [[(b14, .cells #[.int .i64 0, .slice none 0 0, .slice none 0 0] 25)]] ∧ (if (1 : Int) ≤ yl4 then ((decide (yl4 ≤ 1048576))) else false : Bool) = b73c5) (fun b73c5 => [(3, .pointer (some ⟨b3, 0, none⟩)), (7, .pointer (some ⟨b7c1, 0, none⟩)), (11, .int .i64 yl4), (12, .pointer (some ⟨b12, 0, none⟩)), (13, .int .i64 (r64.2)), (14, .pointer (some ⟨b14, 0, none⟩)), (15, .int .i64 2), (53, .slice Aa2 a2.length ca2), (54, .int .i64 (a2.length : Int)), (55, .int .i64 (kl4 : Int)), (73, .bool (b73c5))]) ?_ ?_
                  · refine T.region ?_
                    refine R.mvE rfl (by conv => lhs; whnf) ?_
                    refine R.geq rfl rfl rfl ?_
                    refine R.mvE rfl (by conv => lhs; whnf) ?_
                    refine TL.gsplitD 70 rfl (fun g70 => ?_) (fun g70 => ?_)
                    · refine R.mvE rfl (by conv => lhs; whnf) ?_
                      refine R.leq rfl rfl rfl ?_
                      refine R.pkTE rfl rfl (by conv => lhs; whnf) ?_
                      refine TL.nil (Post.thnN ?_)
                      exact ⟨(decide (yl4 ≤ 1048576)), HLe.refl _, ⟨(Has.cons .hd Has.nil), (by rw [if_pos g70])⟩, rfl, rfl, rfl, rfl, rfl, rfl, rfl, rfl, rfl, rfl, rfl, trivial⟩
                    · refine TL.off rfl rfl rfl ?_
                      refine TL.off rfl rfl rfl ?_
                      refine R.pkFE rfl rfl (by conv => lhs; whnf) ?_
                      refine TL.nil (Post.thnN ?_)
                      exact ⟨false, HLe.refl _, ⟨(Has.cons .hd Has.nil), (by rw [if_neg g70])⟩, rfl, rfl, rfl, rfl, rfl, rfl, rfl, rfl, rfl, rfl, rfl, trivial⟩
                  · intro b73c5 σ_c5 H_c5 L_c5 ds_c5 s_c5 hI_c5
                    obtain ⟨hLc5, hTc5⟩ := hI_c5
                    refine T.has hLc5 ?_
                    refine T.cutK (ι := Int × Int × Value × (List (Int × Bool)) × Chunk × Value × (List Int) × Chunk) (fun ⟨n15c6, nb14c6_0, vb14c6_1, xb14c6_1, cb14c6_1, vb14c6_2, xb14c6_2, cb14c6_2⟩ H' L' ds' => Has L' [[(b14, .cells #[.int .i64 nb14c6_0, vb14c6_1, vb14c6_2] 25)], cb14c6_1, cb14c6_2] ∧ OwnS slotE 101 H' vb14c6_1 xb14c6_1 cb14c6_1 ∧ OwnS (intE .i64) 3 H' vb14c6_2 xb14c6_2 cb14c6_2 ∧ (if b73c5 = true then (LR.seq (windroseref02_New_m yl4) (fun r75 => (0, r75.1, r75.2.1, r75.2.2))) else ((2, 0, [], [])) : Int × Int × (List (Int × Bool)) × (List Int)) = (n15c6, nb14c6_0, xb14c6_1, xb14c6_2)) (fun ⟨n15c6, nb14c6_0, vb14c6_1, xb14c6_1, cb14c6_1, vb14c6_2, xb14c6_2, cb14c6_2⟩ => [(3, .pointer (some ⟨b3, 0, none⟩)), (7, .pointer (some ⟨b7c1, 0, none⟩)), (12, .pointer (some ⟨b12, 0, none⟩)), (13, .int .i64 (r64.2)), (14, .pointer (some ⟨b14, 0, none⟩)), (15, .int .i64 n15c6), (53, .slice Aa2 a2.length ca2), (54, .int .i64 (a2.length : Int)), (55, .int .i64 (kl4 : Int))]) ?_ ?_
                    · refine T.cond rfl (fun c73 => ?_) (fun c73 => ?_)
                      · refine T.set 73 (.bool true) (congrArg Value.bool c73) ?_
                        have hZ73 := hTc5.trans c73
                        try simp only [or_f, or_t, and_f, and_t, decide_eq_true_eq, decide_eq_false_iff_not, Bool.not_eq_true'] at hZ73
                        refine T.region ?_
                        refine R.mvE rfl (by conv => lhs; whnf) ?_
                        obtain ⟨r75, er75⟩ : ∃ r, r = (windroseref02_New_m yl4) := ⟨_, rfl⟩
                        refine TL.call [] rfl rfl rfl (windroseref02_New_c _ (yl4)) ?_
                        intro v75 H75 L75 s75 q75
                        rw [← er75] at q75
                        obtain ⟨u75_0_1, u75_0_2, c75_0_1, c75_0_2, rfl, rfl, w75_0_1, w75_0_2⟩ := q75
                        obtain ⟨A75_0_1, p75_0_1, rfl, m75_0_1, n75_0_1⟩ := OwnS.shape w75_0_1
                        obtain ⟨A75_0_2, p75_0_2, rfl, m75_0_2, n75_0_2⟩ := OwnS.shape w75_0_2
                        refine R.stX (old := [.int .i64 0, .slice none 0 0, .slice none 0 0]) (l := [.int .i64 (r75.1), .slice A75_0_1 r75.2.1.length p75_0_1, .slice A75_0_2 r75.2.2.length p75_0_2]) (new := [.int .i64 (r75.1), .slice A75_0_1 r75.2.1.length p75_0_1, .slice A75_0_2 r75.2.2.length p75_0_2]) (et := 25) Tryd.sizeOf25 rfl rfl rfl rfl rfl (by show 0 + 3 ≤ 3; decide) rfl (all_one rfl) (.tl (.tl .hd)) ?_
                        refine R.asE rfl (by conv => lhs; whnf) ?_
                        refine TL.nil (Post.thnN ?_)
                        exact ⟨(0, r75.1, .slice A75_0_1 r75.2.1.length p75_0_1, r75.2.1, c75_0_1, .slice A75_0_2 r75.2.2.length p75_0_2, r75.2.2, c75_0_2), s75, ⟨(Has.cons (.tl (.tl .hd)) (Has.cons .hd (Has.cons .hd Has.nil))), w75_0_1, w75_0_2, (by subst er75; rw [if_t c73, LR.seq_go])⟩, rfl, rfl, rfl, rfl, rfl, rfl, rfl, rfl, rfl, trivial⟩
                      · refine T.set 73 (.bool false) (congrArg Value.bool c73) ?_
                        have hZ73 := hTc5.trans c73
                        try simp only [or_f, or_t, and_f, and_t, decide_eq_true_eq, decide_eq_false_iff_not, Bool.not_eq_true'] at hZ73
                        refine T.skip (Post.thnN ?_)
                        exact ⟨(2, 0, .slice none 0 0, [], [], .slice none 0 0, [], []), HLe.refl _, ⟨(Has.cons .hd (Has.none (Has.none Has.nil))), OwnS.nil, OwnS.nil, (by rw [if_f c73])⟩, rfl, rfl, rfl, rfl, rfl, rfl, rfl, rfl, rfl, trivial⟩
                    · intro ⟨n15c6, nb14c6_0, vb14c6_1, xb14c6_1, cb14c6_1, vb14c6_2, xb14c6_2, cb14c6_2⟩ σ_c6 H_c6 L_c6 ds_c6 s_c6 hI_c6
                      obtain ⟨hLc6, wb14c6_1, wb14c6_2, hTc6⟩ := hI_c6
                      obtain ⟨Ab14c6_1, pb14c6_1, rfl, mb14c6_1, nb14c6_1_⟩ := OwnS.shape wb14c6_1
                      obtain ⟨Ab14c6_2, pb14c6_2, rfl, mb14c6_2, nb14c6_2_⟩ := OwnS.shape wb14c6_2
                      refine T.has hLc6 ?_
                      refine T.seq ?_
                      refine T.cutK (ι := Bool) (fun b84c7 H' L' ds' => Has L' [] ∧ (if r64.2 ≠ n15c6 then true else ((!(windroseref02_Same_m r64.1 ((nb14c6_0, xb14c6_1, xb14c6_2))))) : Bool) = b84c7) (fun b84c7 => [(3, .pointer (some ⟨b3, 0, none⟩)), (7, .pointer (some ⟨b7c1, 0, none⟩)), (53, .slice Aa2 a2.length ca2), (54, .int .i64 (a2.length : Int)), (55, .int .i64 (kl4 : Int)), (84, .bool (b84c7))]) ?_ ?_
                      · refine T.region ?_
                        refine R.mvE rfl (by conv => lhs; whnf) ?_
                        refine R.mvE rfl (by conv => lhs; whnf) ?_
                        refine R.neq rfl rfl rfl ?_
                        refine R.mvE rfl (by conv => lhs; whnf) ?_
                        refine TL.gsplitD 79 rfl (fun g79 => ?_) (fun g79 => ?_)
                        · refine TL.off rfl rfl rfl ?_
                          refine TL.off rfl rfl rfl ?_
                          refine TL.off rfl rfl rfl ?_
                          refine TL.off rfl rfl rfl ?_
                          refine R.pkTE rfl rfl (by conv => lhs; whnf) ?_
                          refine TL.nil (Post.thnN ?_)
                          exact ⟨true, HLe.refl _, ⟨Has.nil, (by rw [if_pos g79])⟩, rfl, rfl, rfl, rfl, rfl, rfl, trivial⟩
                        · refine R.ldXH (cs := [.int .i64 (r64.1.1), .slice A64_0_1 r64.1.2.1.length p64_0_1, .slice A64_0_2 r64.1.2.2.length p64_0_2]) (l := [.int .i64 (r64.1.1), .slice A64_0_1 r64.1.2.1.length p64_0_1, .slice A64_0_2 r64.1.2.2.length p64_0_2]) Tryd.isAgg25 Tryd.sizeOf25 rfl rfl ((s_c5.trans s_c6) _ _ hb12_19) rfl rfl ?_
                          refine R.ldX (cs := [.int .i64 nb14c6_0, .slice Ab14c6_1 xb14c6_1.length pb14c6_1, .slice Ab14c6_2 xb14c6_2.length pb14c6_2]) (l := [.int .i64 nb14c6_0, .slice Ab14c6_1 xb14c6_1.length pb14c6_1, .slice Ab14c6_2 xb14c6_2.length pb14c6_2]) Tryd.isAgg25 Tryd.sizeOf25 rfl rfl .hd rfl rfl ?_
                          refine TL.shut (.tl .hd) ?_
                          intro HFb14c6_1_20 sFb14c6_1_20 qFb14c6_1_20
                          have fFb14c6_1_20 := OwnS.read wb14c6_1 sFb14c6_1_20 qFb14c6_1_20
                          refine TL.shut (.tl .hd) ?_
                          intro HFb14c6_2_21 sFb14c6_2_21 qFb14c6_2_21
                          have fFb14c6_2_21 := OwnS.read (OwnS.mono wb14c6_2 sFb14c6_1_20) sFb14c6_2_21 qFb14c6_2_21
                          refine R.callv rfl rfl rfl (windroseref02_Same_c _ r64.1 _ (fF64_0_1_17.mono (sF64_0_2_18.trans (sb12_19.trans (s_c5.trans (s_c6.trans (sFb14c6_1_20.trans sFb14c6_2_21)))))) _ (fF64_0_2_18.mono (sb12_19.trans (s_c5.trans (s_c6.trans (sFb14c6_1_20.trans sFb14c6_2_21))))) ((nb14c6_0, xb14c6_1, xb14c6_2)) _ (fFb14c6_1_20.mono sFb14c6_2_21) _ fFb14c6_2_21) ?_
                          refine R.not rfl rfl ?_
                          refine R.pkFE rfl rfl (by conv => lhs; whnf) ?_
                          refine TL.nil (Post.thnN ?_)
                          exact ⟨(!(windroseref02_Same_m r64.1 ((nb14c6_0, xb14c6_1, xb14c6_2)))), (sFb14c6_1_20.trans sFb14c6_2_21), ⟨Has.nil, (by rw [if_neg g79])⟩, rfl, rfl, rfl, rfl, rfl, rfl, trivial⟩
                      · intro b84c7 σ_c7 H_c7 L_c7 ds_c7 s_c7 hI_c7
                        obtain ⟨hLc7, hTc7⟩ := hI_c7
                        refine T.has hLc7 ?_
                        refine T.cond rfl (fun c84 => ?_) (fun c84 => ?_)
                        · refine T.set 84 (.bool true) (congrArg Value.bool c84) ?_
                          have hZ84 := hTc7.trans c84
                          try simp only [or_f, or_t, and_f, and_t, decide_eq_true_eq, decide_eq_false_iff_not, Bool.not_eq_true'] at hZ84
                          refine T.seq ?_
                          refine T.region ?_
                          refine R.asE rfl (by conv => lhs; whnf) ?_
                          refine TL.nil (Post.thnN ?_)
                          refine T.has Has.nil ?_
                          refine T.ret (Post.blkR (Post.thnR (Post.thnR (Post.blkR (Post.thnR ?_)))))
                          have hXl4 : windroselaw02_AllocMay_l4 a2 0 () = .ret (.ret false) := by subst er64; rw [← hQl4, drop_cons hyl4, windroselaw02_AllocMay_l4]; rw [if_neg c61, LR.seq_go, hTc5, LR.seq_go, hTc6, LR.seq_go, hTc7, LR.seq_go, if_t c84]
                          have hM : windroselaw02_AllocMay_m a0 a1 a2 = false := by rw [windroselaw02_AllocMay_m, if_f c17, hTc1, LR.seq_go, hTc2, LR.seq_go, if_f c52, hXl4, LR.on_ret, LR.on_ret]
                          exact fin1L (v := .bool false) [] rfl rfl (List.Sublist.refl _) ⟨rfl, by first | rw [hM] | rfl⟩
                        · refine T.set 84 (.bool false) (congrArg Value.bool c84) ?_
                          have hZ84 := hTc7.trans c84
                          try simp only [or_f, or_t, and_f, and_t, decide_eq_true_eq, decide_eq_false_iff_not, Bool.not_eq_true'] at hZ84
                          refine T.skip (Post.blkN ?_)
                          refine id (Post.thnN ?_)
                          refine T.region ?_
                          refine R.addI rfl rfl rfl (by omega) ?_
                          refine R.mvE rfl (by conv => lhs; whnf) ?_
                          refine TL.nil (Post.thnN ?_)
                          exact ⟨kl4 + 1, (s_l4.trans (s64.trans (sF64_0_1_17.trans (sF64_0_2_18.trans (sb12_19.trans (s_c5.trans (s_c6.trans s_c7))))))), ⟨(by omega), Has.nil, (by subst er64; rw [← hQl4, drop_cons hyl4, windroselaw02_AllocMay_l4]; rw [if_neg c61, LR.seq_go, hTc5, LR.seq_go, hTc6, LR.seq_go, hTc7, LR.seq_go, if_f c84])⟩, by show a2.length - (kl4 + 1) < a2.length - kl4; omega, rfl, rfl, rfl, rfl, rfl, trivial⟩
              · refine T.exit (Post.thnE (Post.thnE (Post.blkX ?_)))
                have hEl4 : windroselaw02_AllocMay_l4 a2 0 () = .go () := (hQl4.symm.trans (by rw [show kl4 = a2.length by omega, List.drop_length, windroselaw02_AllocMay_l4]))
                refine id (Post.thnN ?_)
                exact ⟨(), s_l4, ⟨Has.nil, (by rw [hEl4, LR.on_go])⟩, rfl, rfl, trivial⟩
          · intro _ σ_c3 H_c3 L_c3 ds_c3 s_c3 hI_c3
            obtain ⟨hLc3, hTc3⟩ := hI_c3
            refine T.has hLc3 ?_
            refine T.seq ?_
            refine T.draw Tryd_mixed (by kernel_rfl) ?_
            refine Plan.v 0 [1, 2, 3, 4] (by kernel_rfl) (by kernel_rfl) (by kernel_rfl) (by kernel_rfl) rfl (fun _ _ h_ => R.ldXH (cs := [.int .i64 n7c1_0, .slice A7c1_1 x7c1_1.length p7c1_1, .slice A7c1_2 x7c1_2.length p7c1_2]) (l := [.int .i64 n7c1_0, .slice A7c1_1 x7c1_1.length p7c1_1, .slice A7c1_2 x7c1_2.length p7c1_2]) Tryd.isAgg25 Tryd.sizeOf25 rfl rfl ((sF8c1_1_6.trans (sF8c1_2_7.trans (sb8c1_8.trans (s_c2.trans s_c3)))) _ _ hb7c1_5) rfl rfl (TL.nil h_)) ?_
            refine Plan.v 1 [2, 3, 4] (by kernel_rfl) (by kernel_rfl) (by kernel_rfl) (by kernel_rfl) rfl (fun _ _ h_ => R.ldXH (cs := [.int .i64 (a0.1), .slice Aa0_1 a0.2.1.length ca0_1, .slice Aa0_2 a0.2.2.length ca0_2]) (l := [.int .i64 (a0.1), .slice Aa0_1 a0.2.1.length ca0_1, .slice Aa0_2 a0.2.2.length ca0_2]) Tryd.isAgg25 Tryd.sizeOf25 rfl rfl ((s_c1.trans (sF7c1_1_3.trans (sF7c1_2_4.trans (sb7c1_5.trans (sF8c1_1_6.trans (sF8c1_2_7.trans (sb8c1_8.trans (s_c2.trans s_c3)))))))) _ _ hb3_2) rfl rfl (TL.nil h_)) ?_
            refine Plan.s1 2 [3, 4] (by kernel_rfl) (by kernel_rfl) rfl ?_
            obtain ⟨r88, er88⟩ : ∃ r, r = (windroselaw02_own_m a0) := ⟨_, rfl⟩
            refine TL.call [] rfl rfl rfl (windroselaw02_own_c _ a0 _ (ha0_1.mono (sb4_1.trans (sb3_2.trans (s_c1.trans (sF7c1_1_3.trans (sF7c1_2_4.trans (sb7c1_5.trans (sF8c1_1_6.trans (sF8c1_2_7.trans (sb8c1_8.trans (s_c2.trans s_c3))))))))))) _ (ha0_2.mono (sb4_1.trans (sb3_2.trans (s_c1.trans (sF7c1_1_3.trans (sF7c1_2_4.trans (sb7c1_5.trans (sF8c1_1_6.trans (sF8c1_2_7.trans (sb8c1_8.trans (s_c2.trans s_c3)))))))))))) ?_
            intro v88 H88 L88 s88 q88
            rw [← er88] at q88
            obtain ⟨u88_0_1, u88_0_2, c88_0_1, c88_0_2, rfl, rfl, w88_0_1, w88_0_2⟩ := q88
            obtain ⟨A88_0_1, p88_0_1, rfl, m88_0_1, n88_0_1⟩ := OwnS.shape w88_0_1
            obtain ⟨A88_0_2, p88_0_2, rfl, m88_0_2, n88_0_2⟩ := OwnS.shape w88_0_2
            have ta88 : r88.2.1.length ≤ 40 := by rw [er88]; simp only [windroselaw02_own_m, List.length_take]; omega
            have tb88 : r88.2.2.length ≤ 40 := by rw [er88]; simp only [windroselaw02_own_m, List.length_take]; omega
            refine TL.nil (Plan.e1 (s88) ?_)
            refine Plan.s1 3 [4] (by kernel_rfl) (by kernel_rfl) rfl ?_
            refine TL.shut .hd ?_
            intro HF88_0_1_24 sF88_0_1_24 qF88_0_1_24
            have fF88_0_1_24 := OwnS.read w88_0_1 sF88_0_1_24 qF88_0_1_24
            refine TL.shut .hd ?_
            intro HF88_0_2_25 sF88_0_2_25 qF88_0_2_25
            have fF88_0_2_25 := OwnS.read (OwnS.mono w88_0_2 sF88_0_1_24) sF88_0_2_25 qF88_0_2_25
            refine R.callv rfl rfl rfl (windroseref02_Same_c _ ((n7c1_0, x7c1_1, x7c1_2)) _ (fF7c1_1_3.mono (sF7c1_2_4.trans (sb7c1_5.trans (sF8c1_1_6.trans (sF8c1_2_7.trans (sb8c1_8.trans (s_c2.trans (s_c3.trans (s88.trans (sF88_0_1_24.trans sF88_0_2_25)))))))))) _ (fF7c1_2_4.mono (sb7c1_5.trans (sF8c1_1_6.trans (sF8c1_2_7.trans (sb8c1_8.trans (s_c2.trans (s_c3.trans (s88.trans (sF88_0_1_24.trans sF88_0_2_25))))))))) r88 _ (fF88_0_1_24.mono sF88_0_2_25) _ fF88_0_2_25) ?_
            refine TL.nil (Plan.e1 ((sF88_0_1_24.trans sF88_0_2_25)) ?_)
            refine Plan.v 4 [] (by kernel_rfl) (by kernel_rfl) (by kernel_rfl) (by kernel_rfl) rfl (fun _ _ h_ => R.asE rfl (by conv => lhs; whnf) (TL.nil h_)) ?_
            refine Plan.done (Post.thnN ?_)
            refine T.has Has.nil ?_
            refine T.ret ?_
            have hM : windroselaw02_AllocMay_m a0 a1 a2 = (windroseref02_Same_m ((n7c1_0, x7c1_1, x7c1_2)) r88) := by subst er88; rw [windroselaw02_AllocMay_m, if_f c17, hTc1, LR.seq_go, hTc2, LR.seq_go, if_f c52, hTc3, LR.on_go, LR.seq_go]
            exact fin1L (v := .bool ((windroseref02_Same_m ((n7c1_0, x7c1_1, x7c1_2)) r88))) [] rfl rfl (List.Sublist.refl _) ⟨rfl, by first | rw [hM] | rfl⟩

end Go.SX

set_option linter.unusedVariables false
set_option linter.unusedSimpArgs false
namespace Go.SX
open Go Go.Proofs

def windroselaw02_AllocTakes_l2  : List (List Int) → Nat → (Int × (List (Int × Bool)) × (List Int)) → LR (LR (Bool) (Unit)) (Unit)
  | [], kl2, sl2 => .go ()
  | yl2 :: ysl2, kl2, sl2 => if (kl2 : Int) = 8 then (.go ()) else (LR.seq (windroselaw02_own_m ((sl2.1, sl2.2.1, sl2.2.2))) (fun r31 => LR.seq (alloc_Take_m ((sl2.1, sl2.2.1, sl2.2.2))) (fun r36 => LR.seq (if (windroseref02_Right_m ((sl2.1, sl2.2.1, sl2.2.2))) = true then (LR.seq (windroselaw02_own_m ((sl2.1, sl2.2.1, sl2.2.2))) (fun r44 => LR.seq (windroseref02_Take_m r44) (fun r45 => (r45.2.1, r45.2.2, r45.1.1, r45.1.2.1, r45.1.2.2)))) else ((0, 120, 0, [], [])) : Int × Int × Int × (List (Int × Bool)) × (List Int)) (fun sc3 => LR.seq (if r36.2.2 ≠ sc3.2.1 then true else (if r36.2.1 ≠ sc3.1 then true else ((!(windroseref02_Same_m r36.1 ((sc3.2.2.1, sc3.2.2.2.1, sc3.2.2.2.2)))))) : Bool) (fun sc4 => if sc4 = true then (.ret (.ret false)) else (LR.seq (if r36.2.2 = 0 then (LR.seq (windroselaw02_own_m ((sc3.2.2.1, sc3.2.2.2.1, sc3.2.2.2.2))) (fun r68 => LR.seq (windroselaw02_own_m ((sc3.2.2.1, sc3.2.2.2.1, sc3.2.2.2.2))) (fun r70 => (r70.1, r70.2.1, r70.2.2, r68.1, r68.2.1, r68.2.2)))) else ((r31.1, r31.2.1, r31.2.2, sl2.1, sl2.2.1, sl2.2.2)) : Int × (List (Int × Bool)) × (List Int) × Int × (List (Int × Bool)) × (List Int)) (fun sc5 => LR.seq (alloc_Give_m ((sc5.2.2.2.1, sc5.2.2.2.2.1, sc5.2.2.2.2.2)) (yl2.take ((min yl2.length 8)))) (fun r80 => LR.seq (if (windroseref02_Right_m ((sl2.1, sl2.2.1, sl2.2.2))) = true then (LR.seq (windroselaw02_own_m ((sc5.2.2.2.1, sc5.2.2.2.2.1, sc5.2.2.2.2.2))) (fun r87 => LR.seq (windroseref02_Give_m r87 (yl2.take ((min yl2.length 8)))) (fun r89 => (r89.2, r89.1.1, r89.1.2.1, r89.1.2.2)))) else ((120, 0, [], [])) : Int × Int × (List (Int × Bool)) × (List Int)) (fun sc6 => LR.seq (if r80.2 ≠ sc6.1 then true else ((!(windroseref02_Same_m r80.1 ((sc6.2.1, sc6.2.2.1, sc6.2.2.2))))) : Bool) (fun sc7 => if sc7 = true then (.ret (.ret false)) else (LR.seq (windroseref02_Same_m ((sc5.2.2.2.1, sc5.2.2.2.2.1, sc5.2.2.2.2.2)) ((sc5.1, sc5.2.1, sc5.2.2.1))) (fun r105 => if (!r105) = true then (.ret (.ret false)) else (if r80.2 = 0 then (LR.seq (windroselaw02_own_m ((sc6.2.1, sc6.2.2.1, sc6.2.2.2))) (fun r110 => windroselaw02_AllocTakes_l2 ysl2 (kl2 + 1) ((r110.1, r110.2.1, r110.2.2)))) else (windroselaw02_AllocTakes_l2 ysl2 (kl2 + 1) ((sc5.2.2.2.1, sc5.2.2.2.2.1, sc5.2.2.2.2.2))))))))))))))))
def windroselaw02_AllocTakes_m (a0 : Int × (List (Int × Bool)) × (List Int)) (a1 : List (List Int)) : Bool :=
  if (!windroselaw02_wakes_m) = true then false else (LR.seq (windroselaw02_own_m a0) (fun r20 => LR.on (LR.on (windroselaw02_AllocTakes_l2 a1 0 ((r20.1, r20.2.1, r20.2.2))) (fun r => r) (fun ol2 => .go ol2) : LR (Bool) (Unit)) (fun r => r) (fun sc1 => true)))
end Go.SX

set_option linter.unusedVariables false
set_option linter.unusedSimpArgs false
namespace Go.SX
open Go
theorem alive_m_iff {a : Al} (hs : a.2.1.length ≤ 2000000) (x : Int) : alloc_Alive_m a x = true ↔ Rt a ∧ ∃ i, AtI a i x := by
  unfold alloc_Alive_m
  by_cases h : Rt a
  · rw [if_pos ((check_iff hs).1.2 h), alive_iff h]; exact ⟨fun k => ⟨h, k⟩, fun k => k.2⟩
  · rw [if_neg (fun k => h ((check_iff hs).1.1 k))]; exact ⟨fun k => (by cases k), fun k => absurd k.1 h⟩
abbrev tS : Sl2 := (0, true)
theorem rt_a : Rt (1, [tS, tS], []) where
  m1 := by decide
  m2 := by decide
  n1 := by decide
  n2 := by decide
  al := by decide
  g := fun i s h => by
    match i, h with
    | 0, h => simp at h; subst h; exact ⟨by decide, by decide, fun _ => rfl⟩
    | 1, h => simp at h; subst h; exact ⟨by decide, by decide, fun _ => rfl⟩
    | n + 2, h => simp at h
  f := by simp [sortI, useL, useB]
theorem rt_c : Rt (1, [tS, tS, (0, false)], [3]) where
  m1 := by decide
  m2 := by decide
  n1 := by decide
  n2 := by decide
  al := by decide
  g := fun i s h => by
    match i, h with
    | 0, h => simp at h; subst h; exact ⟨by decide, by decide, fun _ => rfl⟩
    | 1, h => simp at h; subst h; exact ⟨by decide, by decide, fun _ => rfl⟩
    | 2, h => simp at h; subst h; exact ⟨by decide, by decide, fun k => absurd k (by decide)⟩
    | n + 3, h => simp at h
  f := by simp [sortI, useL, useB]
theorem wakes_true : windroselaw02_wakes_m = true := by
  have e1 : alloc_New_m 1 = ((1, [tS, tS], []), 0) := by unfold alloc_New_m; simp [LR.seq]
  have t1 : takeP (1, [tS, tS], []) = ((1, [tS, tS, tS], []), 3, 0) := by decide
  have rb : Rt (1, [tS, tS, tS], []) := by have := take_keeps rt_a (by rw [t1]); rw [t1] at this; exact this
  have t2 : takeP (1, [tS, tS, tS], []) = (noAl, 0, 6) := by decide
  have ab : alloc_alive_m (1, [tS, tS, tS], []) 3 = true := (alive_iff rb 3).2 ⟨2, 0, rfl, by decide⟩
  have g1 : alloc_Give_m (1, [tS, tS, tS], []) [3] = ((1, [tS, tS, (0, false)], [3]), 0) := by
    rw [give_rt rb]
    unfold giveP
    rw [if_pos (fun x hx => by rw [List.mem_singleton.1 hx]; exact ab), if_pos ⟨fun x hx => by rw [List.mem_singleton.1 hx]; decide, by simp⟩]
    refine Prod.ext ?_ rfl
    show giveR _ _ = _
    decide
  have t3 : takeP (1, [tS, tS, (0, false)], [3]) = ((1, [tS, tS, (1, true)], []), 4294967299, 0) := by decide
  have rd : Rt (1, [tS, tS, (1, true)], []) := by have := take_keeps rt_c (by rw [t3]); rw [t3] at this; exact this
  have a1 : alloc_Alive_m (1, [tS, tS, (1, true)], []) 4294967299 = true := (alive_m_iff (by decide) _).2 ⟨rd, 2, 1, rfl, by decide⟩
  have a2 : alloc_Alive_m (1, [tS, tS, (1, true)], []) 3 = false := by
    cases e : alloc_Alive_m (1, [tS, tS, (1, true)], []) 3 with
    | false => rfl
    | true =>
      obtain ⟨_, i, g, h1, h2⟩ := (alive_m_iff (by decide) _).1 e
      have hr := rd.rng h1
      simp only at hr
      have h3 : i = 2 ∧ g = 0 := by unfold entI at h2; omega
      obtain ⟨rfl, rfl⟩ := h3
      simp at h1
  have l1 : (alloc_All_m (1, [tS, tS, (1, true)], [])).length = 3 := by
    unfold alloc_All_m
    rw [(check_iff (by decide)).1.2 rd, if_neg (by decide)]
    simp only [LR.seq]
    rw [all_r1_len]
    unfold alloc_living_m alloc_living_1_m
    rw [List.append_nil, living_l1]; decide
  unfold windroselaw02_wakes_m
  simp only [LR.seq]
  rw [e1]
  simp only
  rw [take_rt rt_a, t1]
  simp only
  rw [take_rt rb, t2, g1]
  simp only
  rw [take_rt rt_c, t3]
  simp only
  rw [a1, a2, l1]
  simp
theorem eta3 {α β γ : Type} (p : α × β × γ) : (p.1, p.2.1, p.2.2) = p := rfl
theorem may_l4 : ∀ (l : List Int) (k : Nat), windroselaw02_AllocMay_l4 l k () = .go ()
  | [], k => rfl
  | y :: ys, k => by
    rw [windroselaw02_AllocMay_l4]
    split
    · rfl
    · have hn : alloc_New_m y = if 1 ≤ y ∧ y ≤ 1048576 then (windroseref02_New_m y, 0) else (noAl, 2) := by
        unfold alloc_New_m windroseref02_New_m
        rw [LR.seq_go]
        by_cases h1 : y < 1
        · rw [if_pos h1, if_pos rfl, if_neg (by omega)]; rfl
        · rw [if_neg h1]
          by_cases h2 : 1048576 < y
          · rw [decide_eq_true h2, if_pos rfl, if_neg (by omega)]; rfl
          · rw [decide_eq_false h2, if_neg Bool.false_ne_true, if_pos (by omega)]
      simp only [same_ref, may_l4 ys (k + 1)]
      by_cases hh : 1 ≤ y ∧ y ≤ 1048576
      · rw [hn, if_pos hh, LR.seq_go, if_pos hh.1, decide_eq_true hh.2, LR.seq_go, if_pos rfl, LR.seq_go, LR.seq_go]
        simp [LR.seq]
      · rw [hn, if_neg hh, LR.seq_go]
        by_cases h1 : 1 ≤ y
        · rw [if_pos h1, decide_eq_false (show ¬ y ≤ 1048576 by omega), LR.seq_go, if_neg Bool.false_ne_true, LR.seq_go]
          simp [LR.seq, noAl]
        · rw [if_neg h1, LR.seq_go, if_neg Bool.false_ne_true, LR.seq_go]
          simp [LR.seq, noAl]
theorem alloc_same_eq (a b : Al) : alloc_Same_m a b = decide (a = b) := by
  obtain ⟨a1, a2, a3⟩ := a
  obtain ⟨b1, b2, b3⟩ := b
  unfold alloc_Same_m
  simp only [Prod.mk.injEq]
  by_cases h1 : a1 = b1
  · rw [if_pos h1]
    by_cases h2 : a2 = b2
    · rw [if_pos h2]; simp [h1, h2]
    · rw [if_neg h2]; simp [h2]
  · rw [if_neg h1]; simp [h1]
theorem allocMay_true (a0 a1 : Al) (a2 : List Int) : windroselaw02_AllocMay_m a0 a1 a2 = true := by
  obtain ⟨k1, k2⟩ := own_len a0
  unfold windroselaw02_AllocMay_m
  rw [wakes_true, Bool.not_true, if_neg Bool.false_ne_true, LR.seq_go, LR.seq_go, LR.seq_go]
  simp only [eta3, same_ref, alloc_same_eq, may_l4, LR.on]
  generalize windroselaw02_own_m a0 = a at *
  generalize windroselaw02_own_m a1 = b at *
  have hc := check_iff (a := a) (by omega)
  have hr := right_ref (a := a) (by omega) (by omega)
  have e3 : (a.1, a.2.1, a.2.2) = a := rfl
  have h4 : (if ((decide (alloc_Check_m a = 0)) != windroseref02_Right_m a) = true then true else if alloc_Check_m a ≠ 0 then if alloc_Check_m a ≠ 120 then true else LR.seq (decide (a = b)) (fun r43 => if (decide (a = b) != r43) = true then true else LR.seq a (fun r49 => !decide (a = r49))) else LR.seq (decide (a = b)) (fun r43 => if (decide (a = b) != r43) = true then true else LR.seq a (fun r49 => !decide (a = r49)))) = false := by
    by_cases h : Rt a
    · simp [hc.1.2 h, hr.2 h, LR.seq]
    · have h1 : alloc_Check_m a = 120 := by
        rcases hc.2 with h2 | h2
        · exact absurd (hc.1.1 h2) h
        · exact h2
      have h2 : windroseref02_Right_m a = false := by
        cases e : windroseref02_Right_m a with
        | false => rfl
        | true => exact absurd (hr.1 e) h
      simp [h1, h2, LR.seq]
  rw [LR.seq_go]
  refine (if_neg (by rw [show _ = false from h4]; exact Bool.false_ne_true)).trans ?_
  rw [LR.seq_go]
  simp
end Go.SX

set_option linter.unusedVariables false
set_option linter.unusedSimpArgs false
namespace Go.SX
open Go Go.ChangeShapes Go.WideShapes Go.ChangeAt Go.RowKit

/-- All that stands in a world's memory can be read. -/
def heapOf (W : World) : Heap := fun b => W.heap[b]?
theorem sat_heapOf (W : World) : Sat (heapOf W) [] W := ⟨fun _ _ h => h, fun p h => (by cases h), List.nodup_nil, fun p h => (by cases h)⟩

/-- A contract of a function that hands back v, at a world. -/
theorem calls_of_Fv {P : Program} {f : FuncId} {fn : Func} {c : Code} {vs : List Value} {v : Value} {W : World} (hf : P.funcs[f]? = some fn) (hb : fn.body = some c) (hname : (fn.name == "runtime.NumGoroutine") = false)
    (h : Fv P (fnv f) vs (heapOf W) v) : Calls P f vs.toArray W fun e W' => e = .returned v ∧ Below W.heap.size W W' := by
  obtain ⟨nx, w1, h1, h2⟩ := h W (sat_heapOf W)
  have he := Go.Proofs.enters_of (P := P) hf hname hb vs.toArray W
  have hrun : Sem.run P (do let d ← Deferred.ofValue (fnv f) vs.toArray; invoke d.target d.args) W = .ok (.enter f vs.toArray) W := by
    simp [Deferred.ofValue, invoke, he]
  rw [hrun] at h1
  injection h1 with h1 h3
  subst h1; subst h3
  refine callsIn_wide.1 (CallsIn.mono h2 ?_)
  rintro e w' ⟨u, H', L', rfl, hst, rfl, rfl⟩
  exact ⟨rfl, hst.chg.os, hst.chg.tape, hst.chg.output, hst.chg.size, fun b hb => hst.chg.same b hb (by simp [keys])⟩

section
variable {H : Type} {enc : TypeId × Value → H} {P : Program}

theorem trodAll_below (hl : laidOutB P = true) {W W' : World} (hb : Below W.heap.size W W') {sp : Nat → Bool} : ∀ {ts : List TypeId} {vs : List Value} {ds : List (DataW H)} {p : List MemPlace},
    (∀ t ∈ ts, P.readableRec t = true ∧ t < P.types.size) → DataW.TrodAll enc P W 0 (fun _ => true) true ts vs ds p → (∀ q ∈ p, q.block < W.heap.size ∧ sp q.block = true) → DataW.TrodAll enc P W' 0 sp true ts vs ds p
  | [], _, _, _, _, h, _ => by
    obtain ⟨rfl, rfl, rfl⟩ := trodAll_nil h
    exact trodAll_mk0
  | t :: ts, _, _, _, ht, h, hp => by
    obtain ⟨v, vs, d, ds, a, b, rfl, rfl, rfl, h1, h2⟩ := trodAll_cons h
    have h3 := WideElems.Trod_stays (sp' := sp) hl (ht t (List.mem_cons_self ..)).1 (ht t (List.mem_cons_self ..)).2 h1 (fun x hx => hb.same (hp x (List.mem_append_left _ hx)).1) (fun x hx => (hp x (List.mem_append_left _ hx)).2)
    exact ⟨a, b, h3, trodAll_below hl hb (fun t' h' => ht t' (List.mem_cons_of_mem _ h')) h2 (fun x hx => hp x (List.mem_append_right _ hx)), rfl⟩

/-- What is asked behind a call that turned nothing of what there was, and says true. -/
theorem post_true {f : Func} {s : ChangeSpec} {fresh handsOn again : Bool} {W W' : World} {args : Array Value} {ds gs : List (DataW H)} {before : List MemPlace} {tb : TypeId} (hl : laidOutB P = true)
    (hW : DataW.Whole enc P f.params.toList s.vars false W args.toList ds gs before) (hvars : s.vars = []) (hpar : ∀ t ∈ f.params.toList, P.readableRec t = true ∧ t < P.types.size)
    (hs : s.fn H (ds ++ gs) = { results := [.lit (.bool true)], args := ds }) (hrt : f.resultTypes = #[tb]) (htb : P.underlying tb = some .bool) (hb : Below W.heap.size W W') :
    s.post enc P f false fresh handsOn again W args (.bool true) W' := by
  have hlt := hW.lt
  have hW0 := hW
  obtain ⟨p, q, hA, hV, rfl, hfz, hnd⟩ := hW
  rw [hvars] at hV
  obtain ⟨rfl, rfl⟩ := trodVars_none hV
  rw [List.append_nil] at hfz hlt
  have hres : ∀ (b : Nat) (sp : Nat → Bool) (hd : Bool), DataW.TrodAll enc P W' b sp hd f.resultTypes.toList ((Value.bool true).resultList f.resultTypes.size) [.lit (.bool true)] [] := by
    intro b sp hd
    rw [hrt]
    exact trodAll_mk1 (shut_bool htb true)
  have hargs : ∀ sp : Nat → Bool, (∀ x ∈ p, sp x.block = true) → DataW.TrodAll enc P W' 0 sp true f.params.toList args.toList ds p := fun sp hsp =>
    trodAll_below hl hb hpar hA (fun x hx => ⟨hlt x hx, hsp x hx⟩)
  have hvr : ∀ sp : Nat → Bool, DataW.TrodVars enc P W' sp s.vars ([] : List (DataW H)) [] := fun sp => by rw [hvars]; rfl
  refine ⟨ds, [], p ++ [], [], p, [], hW0, ?_, ?_, ?_, World.keptBut_mono (fun x hx => ⟨hx, ?_⟩) (hb.frame (· ∈ p ++ [])), fun _ => ?_⟩
  · rw [hs]; exact hres _ _ _
  · rw [hs]; exact hargs _ (fun x hx => by simpa using hlt x hx)
  · rw [hs]; exact hvr _
  · exact Or.inr (by simpa using hx)
  · refine ⟨ok_one hrt rfl (okWide_bool_mk htb true), _, _, ([] ++ p) ++ [], ⟨[] ++ p, [], trodAll_append (hargs _ (fun _ _ => rfl)) (hres _ _ _), hvr _, rfl, ?_, fun h => by cases h⟩, ?_⟩
    · intro b off hp
      have hp' : MemPlace.cell b off ∈ p := by simpa using hp
      have := hb.frozen (p := ⟨b, off, none⟩) (hlt _ hp')
      rw [this]
      exact hfz b off hp'
    · intro x hx _
      simpa using hx

theorem cellAt_heapOf {W : World} {b o : Nat} {v : Value} (h : W.cell? ⟨b, o, none⟩ = some v) : cellAt (heapOf W) b o = some v := by
  unfold World.cell? at h
  unfold cellAt heapOf
  simp only at h
  revert h
  cases hb : W.heap[b]? with
  | none => intro h; simp at h
  | some ob => cases ob <;> intro h <;> simp_all

end
end Go.SX

set_option linter.unusedVariables false
set_option linter.unusedSimpArgs false
namespace Go.SX
open Go Go.ChangeShapes Go.WideShapes Go.ChangeAt Go.RowKit Go.Deep
/-- What can be read at the type stands as E says. -/
def Opn (P : Program) (t : TypeId) {α : Type} (E : ER α) (Q : α → Prop) : Prop :=
  ∀ (H : Type) (enc : TypeId × Value → H) (W : World) (sp : Nat → Bool) (hd : Bool) (n : Nat) (cs : List Value) (x : DataW H × List MemPlace), DataW.trod enc P W 0 sp hd n t cs = some x → ∃ a, E.R (heapOf W) cs a ∧ Q a
theorem Opn.int {P : Program} {t : TypeId} {k : IntKind} (ht : P.underlying t = some (.int k)) : Opn P t (intE k) (fun x => (Lit.int k x).wf = true) := fun H enc W sp hd n cs x h => by
  obtain ⟨n, rfl, _, hw⟩ := DataW.trod_int ht h
  exact ⟨n, rfl, hw⟩
theorem Opn.bool {P : Program} {t : TypeId} (ht : P.underlying t = some .bool) : Opn P t boolE (fun _ => True) := fun H enc W sp hd n cs x h => by
  obtain ⟨b, rfl, _⟩ := DataW.trod_bool ht h
  exact ⟨b, rfl, trivial⟩
theorem Opn.weak {P : Program} {t : TypeId} {α : Type} {E : ER α} {Q Q' : α → Prop} (h : Opn P t E Q) (hq : ∀ a, Q a → Q' a) : Opn P t E Q' := fun H enc W sp hd n cs x hx => by
  obtain ⟨a, h1, h2⟩ := h H enc W sp hd n cs x hx
  exact ⟨a, h1, hq a h2⟩
/-- An array of two ints. -/
theorem Opn.two {P : Program} {t i : TypeId} (ht : P.underlying t = some (.array 2 i)) (ct : P.cellsOf t = 2) (hi : P.underlying i = some (.int .i64)) (ci : P.cellsOf i = 1) : Opn P t pairE (fun _ => True) := fun H enc W sp hd n cs x h => by
  obtain ⟨xs, m, _, _, hl, hxl, hf⟩ := DataW.trod_array ht h
  rw [ct] at hl
  match cs, hl, xs, hxl with
  | [v0, v1], _, [y0, y1], _ =>
    have g0 := hf 0 (by omega)
    have g1 := hf 1 (by omega)
    rw [ci] at g0 g1
    simp at g0 g1
    obtain ⟨a, ha, _⟩ := DataW.trod_int hi g0
    obtain ⟨b, hb, _⟩ := DataW.trod_int hi g1
    simp at ha hb
    subst ha; subst hb
    exact ⟨(a, b), rfl, trivial⟩
/-- A slice. -/
theorem Opn.slice {P : Program} {t e : TypeId} {α : Type} {E : ER α} {Q : α → Prop} (ht : P.underlying t = some (.slice e)) (hc : P.cellsOf e = E.size) (he : Opn P e E Q) (hs : 0 < E.size) : Opn P t (slE E) (fun xs => ∀ x ∈ xs, Q x) := fun H enc W sp hd n cs x h => by
  rcases open_slice ht h with ⟨rfl, _⟩ | ⟨a, len, cap, m, n', D, Pl, rfl, _, hl, hm, hmm, _, hx⟩
  · exact ⟨[], ⟨_, rfl, RdS.nil⟩, fun x hx => by simp at hx⟩
  · have key : ∀ i, i < len → ∃ x, (∃ b o, a = ⟨b, o, none⟩ ∧ ElemAt E (heapOf W) b (o + i * E.size) x) ∧ Q x := fun i hi => by
      obtain ⟨cs', h1, h2⟩ := hx i (by rw [hmm]; split <;> omega)
      obtain ⟨x, h3, h4⟩ := he H enc W sp hd n' cs' _ h2
      refine ⟨x, ?_, h4⟩
      rw [hc] at h1
      obtain ⟨_, hlen, hcell⟩ := World.cells?_some h1
      obtain ⟨ab, ao, asp⟩ := a
      cases asp with
      | none =>
        refine ⟨ab, ao, rfl, cs', h3, fun j u hj => ?_⟩
        have hjl : j < E.size := by rw [← hlen]; exact (List.getElem?_eq_some_iff.1 hj).1
        have h5 := hcell j hjl
        rw [hj, add_add, Addr.add_lit] at h5
        have := cellAt_heapOf h5
        rw [show ao + i * E.size + j = ao + (i * E.size + j) by omega]
        exact this
      | some s =>
        exfalso
        obtain ⟨cs0, k1, _⟩ := hx 0 (by rw [hmm]; split <;> omega)
        rw [hc, Nat.zero_mul, Addr.add_zero'] at k1
        obtain ⟨_, klen, kcell⟩ := World.cells?_some k1
        have h5 := kcell 0 hs
        rw [Addr.add_zero'] at h5
        obtain ⟨u, hu⟩ : ∃ u, cs0[0]? = some u := ⟨cs0[0], List.getElem?_eq_getElem (by omega)⟩
        rw [hu] at h5
        unfold World.cell? at h5
        revert h5
        cases hb : W.heap[ab]? with
        | none => intro h; simp [hb] at h
        | some ob => cases ob <;> intro h <;> simp [hb] at h
    obtain ⟨f, hf⟩ : ∃ f : Nat → Option α, ∀ i, i < len → ∃ x, f i = some x ∧ (∃ b o, a = ⟨b, o, none⟩ ∧ ElemAt E (heapOf W) b (o + i * E.size) x) ∧ Q x := by
      classical
      refine ⟨fun i => if hi : i < len then some (Classical.choose (key i hi)) else none, fun i hi => ?_⟩
      exact ⟨_, dif_pos hi, Classical.choose_spec (key i hi)⟩
    have hxs : ∀ n, n ≤ len → ∃ xs : List α, xs.length = n ∧ ∀ i, i < n → xs[i]? = f i := fun n => by
      induction n with
      | zero => exact fun _ => ⟨[], rfl, fun i hi => absurd hi (Nat.not_lt_zero _)⟩
      | succ n ih =>
        intro hn
        obtain ⟨xs, h1, h2⟩ := ih (by omega)
        obtain ⟨x, h3, _⟩ := hf n (by omega)
        refine ⟨xs ++ [x], by simp [h1], fun i hi => ?_⟩
        by_cases h : i < n
        · rw [List.getElem?_append_left (by omega)]; exact h2 i h
        · obtain rfl : i = n := by omega
          rw [List.getElem?_append_right (by omega), h1, Nat.sub_self, h3]; rfl
    obtain ⟨xs, h1, h2⟩ := hxs len (Nat.le_refl _)
    subst h1
    refine ⟨xs, ⟨_, rfl, some a, cap, rfl, hl, hm, fun i x hx => ?_⟩, fun x hx => ?_⟩
    · have hi : i < xs.length := (List.getElem?_eq_some_iff.1 hx).1
      obtain ⟨y, h3, ⟨b, o, h4, h5⟩, _⟩ := hf i hi
      rw [h2 i hi, h3] at hx
      injection hx with hx
      subst hx
      exact ⟨b, o, by rw [h4], h5⟩
    · obtain ⟨i, hi, rfl⟩ := List.mem_iff_getElem.1 hx
      obtain ⟨y, h3, _, h4⟩ := hf i hi
      have := h2 i hi
      rw [h3, List.getElem?_eq_getElem hi] at this
      injection this with this
      rw [this]; exact h4
section
variable {P : Program} {H : Type} {enc : TypeId × Value → H} {W : World} {r : Reach} {b0 : Nat} {t : TypeId} {v : Value} {d : DataW H} {p : List MemPlace} {α : Type} {E : ER α} {Q : α → Prop}
/-- A slice that is handed in. -/
theorem open_sl {e : TypeId} (ht : P.underlying t = some (.slice e)) (ho : Opn P t (slE E) (fun xs => ∀ x ∈ xs, Q x)) (hval : Value.okWide P W r b0 t v) (h : DataW.Trod enc P W 0 (fun _ => true) true t v d p) :
    ∃ xs : List α, RdS E (heapOf W) v xs ∧ ∀ x ∈ xs, Q x := by
  obtain ⟨a0, len, cap, rfl⟩ := okWide_slice ht hval
  obtain ⟨n, hn⟩ := h
  obtain ⟨xs, ⟨u, h1, h2⟩, h3⟩ := ho H enc W _ _ n _ _ hn
  have : Value.slice a0 len cap = u := by simpa [Value.cells] using h1
  rw [this]
  exact ⟨xs, h2, h3⟩
/-- A struct, or an array, that is handed in. -/
theorem open_agg (hu : (∃ fs, P.underlying t = some (.struct fs)) ∨ ∃ n e, P.underlying t = some (.array n e)) (ho : Opn P t E Q) (hval : Value.okWide P W r b0 t v) (h : DataW.Trod enc P W 0 (fun _ => true) true t v d p) :
    ∃ cs a, v = .agg cs ∧ E.R (heapOf W) cs.toList a ∧ Q a := by
  have hv : ∃ cs, v = .agg cs := by
    unfold Value.okWide at hval
    rcases hu with ⟨fs, hu⟩ | ⟨n, e, hu⟩
    · rw [hu] at hval; obtain ⟨cs, h1, _⟩ := hval; exact ⟨cs, h1⟩
    · rw [hu] at hval; obtain ⟨cs, h1, _⟩ := hval; exact ⟨cs, h1⟩
  obtain ⟨cs, rfl⟩ := hv
  obtain ⟨n, hn⟩ := h
  obtain ⟨a, h1, h2⟩ := ho H enc W _ _ n _ _ hn
  exact ⟨cs, a, rfl, h1, h2⟩
end
end Go.SX

set_option linter.unusedVariables false
namespace Go.SX
open Go Go.ChangeShapes Go.WideShapes Go.ChangeAt Go.RowKit Go.Proofs
def allocE : ER (Int × (List (Int × Bool)) × (List Int)) where
  size := 3
  R := fun H cs x => ∃ v1 v2, cs = [.int .i64 x.1, v1, v2] ∧ RdS slotE H v1 x.2.1 ∧ RdS (intE .i64) H v2 x.2.2
  len := fun h => by obtain ⟨v1, v2, rfl, _⟩ := h; rfl
  mono := fun hl h => by obtain ⟨v1, v2, rfl, h0, h1⟩ := h; exact ⟨v1, v2, rfl, h0.mono hl, h1.mono hl⟩
  one := fun h v hv => by
    obtain ⟨v1, v2, rfl, h0, h1⟩ := h
    simp only [List.mem_cons, List.not_mem_nil, or_false] at hv
    rcases hv with rfl | rfl | rfl <;> first | rfl | exact RdS.one (by assumption)

theorem lenN2 {α : Type} {l : List α} (h : l.length = 2) : ∃ v0 v1, l = [v0, v1] := by
  match l, h with
  | [v0, v1], _ => exact ⟨v0, v1, rfl⟩
theorem lenN3 {α : Type} {l : List α} (h : l.length = 3) : ∃ v0 v1 v2, l = [v0, v1, v2] := by
  match l, h with
  | [v0, v1, v2], _ => exact ⟨v0, v1, v2, rfl⟩
theorem opn101 : Opn Tryd.prog 101 slotE (fun x => (((Lit.int .i64 x.1).wf = true) ∧ (True))) := fun H enc W sp hd n cs x h => by
  obtain ⟨xs, m, _, _, hl, hxl, hf⟩ := DataW.trod_struct Tryd.underlying101 h
  rw [show Tryd.prog.cellsOf 101 = 2 by kernel_rfl] at hl
  replace hxl : xs.length = 2 := hxl
  obtain ⟨v0, v1, rfl⟩ := lenN2 hl
  obtain ⟨y0, y1, rfl⟩ := lenN2 hxl
  have g0 : DataW.trod enc Tryd.prog W 0 sp hd m 3 (([v0, v1].drop 0).take (Tryd.prog.cellsOf 3)) = some y0 := hf 0 _ rfl
  rw [show Tryd.prog.cellsOf 3 = 1 by kernel_rfl] at g0
  simp only [List.drop, List.take] at g0
  have g1 : DataW.trod enc Tryd.prog W 0 sp hd m 4 (([v0, v1].drop 1).take (Tryd.prog.cellsOf 4)) = some y1 := hf 1 _ rfl
  rw [show Tryd.prog.cellsOf 4 = 1 by kernel_rfl] at g1
  simp only [List.drop, List.take] at g1
  obtain ⟨x0, h0, _, w0⟩ := DataW.trod_int Tryd.underlying3 g0
  injection h0 with h0; subst h0
  obtain ⟨x1, h1, _⟩ := DataW.trod_bool Tryd.underlying4 g1
  injection h1 with h1; subst h1
  exact ⟨(x0, x1), rfl, ⟨w0, trivial⟩⟩
theorem opn25 : Opn Tryd.prog 25 allocE (fun x => (((Lit.int .i64 x.1).wf = true) ∧ (∀ z ∈ x.2.1, (((Lit.int .i64 z.1).wf = true) ∧ (True))) ∧ (∀ z ∈ x.2.2, (Lit.int .i64 z).wf = true))) := fun H enc W sp hd n cs x h => by
  obtain ⟨xs, m, _, _, hl, hxl, hf⟩ := DataW.trod_struct Tryd.underlying25 h
  rw [show Tryd.prog.cellsOf 25 = 3 by kernel_rfl] at hl
  replace hxl : xs.length = 3 := hxl
  obtain ⟨v0, v1, v2, rfl⟩ := lenN3 hl
  obtain ⟨y0, y1, y2, rfl⟩ := lenN3 hxl
  have g0 : DataW.trod enc Tryd.prog W 0 sp hd m 3 (([v0, v1, v2].drop 0).take (Tryd.prog.cellsOf 3)) = some y0 := hf 0 _ rfl
  rw [show Tryd.prog.cellsOf 3 = 1 by kernel_rfl] at g0
  simp only [List.drop, List.take] at g0
  have g1 : DataW.trod enc Tryd.prog W 0 sp hd m 22 (([v0, v1, v2].drop 1).take (Tryd.prog.cellsOf 22)) = some y1 := hf 1 _ rfl
  rw [show Tryd.prog.cellsOf 22 = 1 by kernel_rfl] at g1
  simp only [List.drop, List.take] at g1
  have g2 : DataW.trod enc Tryd.prog W 0 sp hd m 23 (([v0, v1, v2].drop 2).take (Tryd.prog.cellsOf 23)) = some y2 := hf 2 _ rfl
  rw [show Tryd.prog.cellsOf 23 = 1 by kernel_rfl] at g2
  simp only [List.drop, List.take] at g2
  obtain ⟨x0, h0, _, w0⟩ := DataW.trod_int Tryd.underlying3 g0
  injection h0 with h0; subst h0
  obtain ⟨x1, ⟨u1, h1, r1⟩, w1⟩ := (Opn.slice Tryd.underlying22 (by kernel_rfl) opn101 (by decide)) H enc W sp hd _ _ _ g1
  injection h1 with h1; subst h1
  obtain ⟨x2, ⟨u2, h2, r2⟩, w2⟩ := (Opn.slice Tryd.underlying23 (by kernel_rfl) (Opn.int Tryd.underlying3) (by decide)) H enc W sp hd _ _ _ g2
  injection h2 with h2; subst h2
  exact ⟨(x0, x1, x2), ⟨_, _, rfl, r1, r2⟩, ⟨w0, w1, w2⟩⟩

end Go.SX
namespace Go.Proofs.YtmhoclmjgjopfaaDoor
open Go.ChangeShapes Go.WideShapes Go.ChangeAt Go.RowKit Go.SX

theorem allocMay_own : ownKnob Tryd.prog.godebug = none := by kernel_rfl
theorem allocMay_laid : laidOutB Tryd.prog = true := by kernel_rfl
theorem allocMay_met (os : Os) (args : Array Value) : laidMetH Tryd.prog Rows.allocMayRow.laid ((World.doorLaid Tryd.prog 400 os).forCall (fun _ _ => 0) ⟨#[], args, []⟩).memory :=
  laidMetH_of_parts3 (fuel := 12) (laidMet_of_run' 12 (by kernel_rfl) (by kernel_rfl)) (by kernel_rfl) (by kernel_rfl)
theorem allocMay_datum {W : World} {H : Type} {enc : TypeId × Value → H} {sp : Nat → Bool} {hd : Bool} {n : Nat} {cs : List Value} {p : List MemPlace} (h : DataW.trod enc Tryd.prog W 0 sp hd n 101 cs = some (.agg [.lit (.int .i64 0), .lit (.bool true)], p)) : cs = [.int .i64 0, .bool true] := by
  obtain ⟨xs, m, _, hx1, hl, hxl, hf⟩ := DataW.trod_struct Tryd.underlying101 h
  rw [show Tryd.prog.cellsOf 101 = 2 by kernel_rfl] at hl
  replace hxl : xs.length = 2 := hxl
  obtain ⟨v0, v1, rfl⟩ := lenN2 hl
  obtain ⟨y0, y1, rfl⟩ := lenN2 hxl
  have g0 : DataW.trod enc Tryd.prog W 0 sp hd m 3 (([v0, v1].drop 0).take (Tryd.prog.cellsOf 3)) = some y0 := hf 0 _ rfl
  have g1 : DataW.trod enc Tryd.prog W 0 sp hd m 4 (([v0, v1].drop 1).take (Tryd.prog.cellsOf 4)) = some y1 := hf 1 _ rfl
  rw [show Tryd.prog.cellsOf 3 = 1 by kernel_rfl] at g0
  rw [show Tryd.prog.cellsOf 4 = 1 by kernel_rfl] at g1
  simp only [List.drop, List.take] at g0 g1
  obtain ⟨a, h0, h1, _⟩ := DataW.trod_int Tryd.underlying3 g0
  obtain ⟨b, h2, h3⟩ := DataW.trod_bool Tryd.underlying4 g1
  injection h0 with h0
  injection h2 with h2
  subst h0
  subst h2
  simp only [Prod.mk.injEq] at hx1
  have h4 := hx1.1
  simp only [List.map_cons, List.map_nil, h1, h3, DataW.agg.injEq, List.cons.injEq, DataW.lit.injEq, Lit.int.injEq, Lit.bool.injEq, true_and, and_true] at h4
  obtain ⟨h5, h6⟩ := h4
  subst h5; subst h6; rfl
theorem allocMay_glob {W : World} (h : laidMetH Tryd.prog Rows.allocMayRow.laid W) : ∃ t, heapOf W 0 = some (.cells #[.int .i64 0, .bool true] t) := by
  rw [MakeChecks.laidMetH_plain _ _ _ (by kernel_rfl)] at h
  obtain ⟨ps, ⟨g0, t0, cs0, f0, p0, q0, hg0, ht0, hv0, hd0, _, hps⟩, _, hrow⟩ := h
  obtain rfl := Option.some.inj ((show Tryd.prog.globalNamed "windrose/alloc.always" = some 0 by kernel_rfl).symm.trans hg0)
  obtain rfl := Option.some.inj ((show (Tryd.prog.globals[0]?).map (·.type) = some 101 by kernel_rfl).symm.trans ht0)
  have hl := allocMay_datum hd0
  have hcs : cs0 = #[.int .i64 0, .bool true] := Array.toList_inj.1 hl
  subst hcs
  have hm : MemPlace.cell 0 0 ∈ ps := by rw [hps]; simp [MemPlace.row]
  obtain ⟨⟨c, t, hh⟩, _⟩ := hrow 0 0 hm
  have hv := hv0
  simp only [World.var?, hg0, Option.bind_some, hh] at hv
  injection hv with hv
  subst hv
  exact ⟨t, hh⟩

set_option maxRecDepth 100000 in
theorem allocMay_lifted (os : Os) (started : os.Started) (H : Type) (enc : TypeId × Value → H) :
    ReturnsInHanded {} Tryd.checked os 4 .any (fun w args => (Rows.allocMaySpec.pre enc Tryd.prog Tryd.f4 [] false w args ∧ laidMetH Tryd.prog Rows.allocMayRow.laid w) ∧ sizedMet enc Tryd.prog Tryd.f4 (OpenSpec.ofChange Rows.allocMaySpec) false w args)
      (Rows.allocMaySpec.post enc Tryd.prog Tryd.f4 false true false false) := by
  refine returnsInHanded_of_change_and (C := Tryd.checked) (X := fun w _ => laidMetH Tryd.prog Rows.allocMayRow.laid w) (fun _ _ _ hh h => h.of_heap hh) allocMay_own started (by kernel_rfl) Tryd.func4
    (ChangeSpec.witness_shaped (enc := enc) (C := Tryd.checked) (os := os) (X := fun w _ => laidMetH Tryd.prog Rows.allocMayRow.laid w) false (World.doorLaid Tryd.prog 400 os) #[.agg #[.int .i64 0, .slice none 0 0, .slice none 0 0], .agg #[.int .i64 0, .slice none 0 0, .slice none 0 0], .slice none 0 0] 8 rfl (World.shaped_of_RefB (by kernel_rfl) (by kernel_rfl)) (by kernel_rfl) (by kernel_rfl) (by kernel_rfl) (allocMay_met os _)) ?_
  intro W base args ds gs before hval0 hW _ _ hL _
  have hval : ∀ (j : Nat) t v, Tryd.f4.params[j]? = some t → args[j]? = some v → Value.okWide Tryd.prog W .any base t v := hval0
  have hW' := hW
  obtain ⟨p, q, hA0, hV, rfl, hfz, hnd⟩ := hW
  have hA : DataW.TrodAll enc Tryd.prog W 0 (fun _ => true) true Tryd.f4.params.toList args.toList ds p := hA0
  rw [Tryd.params4] at hA hval
  clear hA0 hval0
  obtain ⟨v0, vs0, d0, ds0, p0, q0, e0, rfl, rfl, h0, r0⟩ := trodAll_cons hA
  obtain ⟨v1, vs1, d1, ds1, p1, q1, e1, rfl, rfl, h1, r1⟩ := trodAll_cons r0
  subst e1
  obtain ⟨v2, vs2, d2, ds2, p2, q2, e2, rfl, rfl, h2, r2⟩ := trodAll_cons r1
  subst e2
  obtain ⟨e3, rfl, rfl⟩ := trodAll_nil r2
  subst e3
  obtain rfl : args = #[v0, v1, v2] := by cases args; simp_all
  obtain ⟨rfl, rfl⟩ := trodVars_none hV
  obtain ⟨cs0, x0, rfl, hx0, hw0⟩ := open_agg (.inl ⟨_, Tryd.underlying25⟩) opn25 (hval 0 25 v0 rfl rfl) h0
  obtain ⟨u0_1, u0_2, e0_, r0_1, r0_2⟩ := hx0
  obtain rfl : cs0 = #[.int .i64 x0.1, u0_1, u0_2] := Array.toList_inj.1 e0_
  obtain ⟨cs1, x1, rfl, hx1, hw1⟩ := open_agg (.inl ⟨_, Tryd.underlying25⟩) opn25 (hval 1 25 v1 rfl rfl) h1
  obtain ⟨u1_1, u1_2, e1_, r1_1, r1_2⟩ := hx1
  obtain rfl : cs1 = #[.int .i64 x1.1, u1_1, u1_2] := Array.toList_inj.1 e1_
  obtain ⟨xs2, hr2, hw2⟩ := open_sl Tryd.underlying23 (Opn.slice Tryd.underlying23 (by kernel_rfl) (Opn.int Tryd.underlying3) (by decide)) (hval 2 23 v2 rfl rfl) h2
  have hpar : ∀ t ∈ Tryd.f4.params.toList, Tryd.prog.readableRec t = true ∧ t < Tryd.prog.types.size := by
    intro t ht
    rw [Tryd.params4] at ht
    simp only [List.mem_cons, List.not_mem_nil, or_false] at ht
    rcases ht with rfl | rfl | rfl
    · exact ⟨by kernel_rfl, of_decide_eq_true (by kernel_rfl)⟩
    · exact ⟨by kernel_rfl, of_decide_eq_true (by kernel_rfl)⟩
    · exact ⟨by kernel_rfl, of_decide_eq_true (by kernel_rfl)⟩
  obtain ⟨tG, hG⟩ := allocMay_glob hL
  refine (calls_of_Fv Tryd.func4 rfl (by kernel_rfl) (Fv.to (windroselaw02_AllocMay_c _ hG x0 _ r0_1 _ r0_2 x1 _ r1_1 _ r1_2 _ xs2 hr2) (congrArg Value.bool (allocMay_true _ _ _)))).mono fun e W' ⟨he, hb⟩ => ?_
  subst he
  exact ⟨_, rfl, post_true allocMay_laid hW' rfl hpar rfl rfl Tryd.underlying4 hb⟩

theorem allocMay_holds : Rows.AllocMaySaid :=
  OpenClaim.holds_of_wide 4 Tryd.f4 rfl rfl rfl rfl rfl rfl rfl ⟨rfl, rfl, rfl, rfl, rfl⟩ rfl rfl rfl rfl rfl (by kernel_rfl) Tryd.func4 (by kernel_rfl)
    (of_decide_eq_true (by kernel_rfl)) (by unfold Func.isWrapper; first | (rw [if_pos (by decide +kernel)]; kernel_rfl) | (rw [if_neg (by decide +kernel)]; exact ⟨rfl, rfl⟩))
    (fun os started H enc _ => allocMay_lifted os started H enc)

theorem allocMay_card : Rows.AllocMayCardSaid :=
  Claim7.holds_tied_plain_at .later [] [.data] true (true, "c812bd16461893b59ff1c9b11575473a3dd7f925cadaefe779c83152ab813434") false
    allocMay_holds (fun _ h => by cases h) (by kernel_rfl) (fun _ h => by cases h) allocMay_row_tie rfl ⟨rfl, rfl⟩ (by kernel_rfl) rfl
    (fun f fn hf hfn => by
      obtain rfl : f = 4 := Option.some.inj ((show Tryd.prog.funcNamed "windrose/windroselaw02.AllocMay" = some 4 by kernel_rfl).symm.trans hf) |>.symm
      obtain rfl : fn = Tryd.f4 := (Option.some.inj (Tryd.func4.symm.trans hfn)).symm
      exact ⟨by kernel_rfl, fun j t ht => by
        rw [Tryd.params4] at ht
        have hm : t ∈ [25, 25, 23] := by simpa using Array.mem_of_getElem? ht
        have hall : ([25, 25, 23].all fun u => !Tryd.prog.wantsStandIn u) = true := by kernel_rfl
        exact (show Tryd.prog.wantsStandIn t = false by simpa using List.all_eq_true.1 hall t hm)⟩)
    (by kernel_rfl)
end Go.Proofs.YtmhoclmjgjopfaaDoor
