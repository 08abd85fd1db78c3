/- 'PlanOf' answers true, whatever it is handed, and what it is handed reads behind it as it did: the row, and its tied card. -/
import Derived.RangeFuncNested
import Derived.RangeFuncBound
import Derived.RangeFuncCalls
import Derived.RangeFuncLeaves
import Derived.Shelf.Abstract
import Derived.Laws.AppendOwn
import Derived.Laws.OwnMore
import Derived.KernelRfl
import Derived.IntWalk
import Derived.Laws.Append
import Derived.WideLaws
import Derived.Laws.Slices
import Derived.Laws.MakeOwn
import Derived.OrdersIn
import Derived.Laws.Cover3
import Derived.Test.YtmhoclmjgjopfaaGreatDoorProg
import Derived.Laws.StructEq
import Derived.Shelf.Sort.Plain
import Derived.Sort.OwnSortedInts
import Derived.Shelf.Slices.In.SortNone
import Derived.Shelf.Slices.CompactI
import Derived.ProofKit
import Derived.ChangeSlices
import Derived.Carry
import Derived.Deep.Slices
import Derived.OpenShut
import Derived.Test.YtmhoclmjgjopfaaGreatDoorCards
import Derived.Test.YtmhoclmjgjopfaaGreatDoorTie
import Derived.LaidMore
import Derived.Stop.Joined
import Derived.MakeChecks
import Derived.Test.YtmhoclmjgjopfaaGreatDoorKO3
set_option linter.unusedVariables false
set_option linter.unusedSimpArgs false
namespace Go.SX
open Go Go.Proofs
def Y111 : Heap → List Value → (Int × (List (Int × Int))) → Prop := fun H vs y => ∃ v1_0, vs = [.int .i64 y.1, v1_0] ∧ RdS heldE H v1_0 y.2

def plan_deaths_1_l3 (y33 : Int × (List (Int × Int))) : List (Int × Int) → ((List (Int × (List (Int × Int)))) × (List (Int × Bool))) → (List (Int × (List (Int × Int)))) × (List (Int × Bool))
  | [], sl3 => (sl3.1, sl3.2)
  | yl3 :: ysl3, sl3 => plan_deaths_1_l3 y33 ysl3 (((meet_m sl3.2 sl3.1 yl3.1 ((y33.2 ++ [yl3]))).2, (meet_m sl3.2 sl3.1 yl3.1 ((y33.2 ++ [yl3]))).1))
def plan_deaths_1_l2 (q1 : Int → List (Int × Int)) : Nat → (Int × (List (Int × (List (Int × Int)))) × (List (Int × Bool))) → List (Int × (List (Int × Int)))
  | 0, _ => []
  | ml2 + 1, sl2 => if sl2.1 < (sl2.2.1.length : Int) then ((((sl2.2.1.getD sl2.1.toNat (((0, []) : Int × (List (Int × Int))) : Int × (List (Int × Int)))).1, (sl2.2.1.getD sl2.1.toNat (((0, []) : Int × (List (Int × Int))) : Int × (List (Int × Int)))).2)) :: (LR.seq (plan_deaths_1_l3 (sl2.2.1.getD sl2.1.toNat (((0, []) : Int × (List (Int × Int))) : Int × (List (Int × Int)))) (q1 (sl2.2.1.getD sl2.1.toNat (((0, []) : Int × (List (Int × Int))) : Int × (List (Int × Int)))).1) ((sl2.2.1, sl2.2.2))) (fun ol3 => plan_deaths_1_l2 q1 ml2 (((sl2.1 + 1), ol3.1, ol3.2))))) else []
def plan_deaths_1_l1  : List Int → ((List (Int × (List (Int × Int)))) × (List (Int × Bool))) → (List (Int × (List (Int × Int)))) × (List (Int × Bool))
  | [], sl1 => (sl1.1, sl1.2)
  | yl1 :: ysl1, sl1 => plan_deaths_1_l1 ysl1 (((meet_m sl1.2 sl1.1 yl1 ([] : List (Int × Int))).2, (meet_m sl1.2 sl1.1 yl1 ([] : List (Int × Int))).1))
def plan_deaths_1_m (q0 : List Int) (q1 : Int → List (Int × Int)) : List (Int × (List (Int × Int))) :=
  LR.seq (plan_deaths_1_l1 q0 (([], ([] : List (Int × Bool))))) (fun ol1 => (plan_deaths_1_l2 q1 ((1000 - 0 : Int).toNat + 1) ((0, ol1.1, ol1.2))) ++ [])
set_option maxHeartbeats 3200000 in
theorem plan_deaths_1_c (H : Heap) (b1000 : Nat) (vq0 : Value) (q0 : List Int) (hq0 : RdS (intE .i64) H vq0 q0) (hb0 : H b1000 = some (.cells #[vq0] 30)) (b1001 : Nat) (mq1 : Nat) (q1 : Int → List (Int × Int)) (hq1 : MrR heldE .i64 H mq1 q1) (hb1 : H b1001 = some (.cells #[.map (some mq1)] 75)) (hqq : q0.length ≤ 100) (hby : ByOk q1) : Iter Tryz.prog (.func (.func 76) #[] ([.pointer (some ⟨b1000, 0, none⟩), .pointer (some ⟨b1001, 0, none⟩)] : List Value).toArray) Y111 H (plan_deaths_1_m q0 q1) := by
  intro l J Jx H1 Lc s1 hJ hJx hY h0
  obtain ⟨Aq0, cq0, rfl, hcq0, hdq0, hq0⟩ := hq0.shape
  refine Fc.of_body (N := 68) Tryz.func76 rfl (by kernel_rfl) rfl rfl ?_
  intro w0
  refine T.seq ?_
  refine T.region ?_
  refine R.mkmV .i64 (fun z : Bool => Value.bool z) rfl ?_
  intro b13 w13
  refine R.alloc Tryz.zeroValue71 rfl ?_
  intro b4
  refine R.stX (old := [.map none]) (l := [.map (some b13)]) (new := [.map (some b13)]) (et := 71) Tryz.sizeOf71 rfl rfl rfl (cells1 rfl) rfl (by show 0 + 1 ≤ 1; decide) rfl (all_one rfl) .hd ?_
  refine TL.shut .hd ?_
  intro Hb4_1 sb4_1 qb4_1
  have hb4_1 : Hb4_1 b4 = some (.cells #[.map (some b13)] 71) := shut1 qb4_1
  refine TL.nil (Post.thnN ?_)
  refine T.seq ?_
  refine T.region ?_
  refine R.alloc Tryz.zeroValue112 rfl ?_
  intro b5
  refine TL.nil (Post.thnN ?_)
  refine T.seq ?_
  refine T.region ?_
  refine R.mkf (cs := [_, _]) rfl rfl ?_
  refine R.asE rfl (by conv => lhs; whnf) ?_
  refine TL.nil (Post.thnN ?_)
  refine T.seq ?_
  refine T.seq ?_
  refine T.region ?_
  refine R.ldH Tryz.isAgg30 rfl rfl ((s1.trans sb4_1) _ _ hb0) rfl ?_
  refine R.len Tryz.underlying30 rfl rfl ?_
  refine R.mvE rfl (by conv => lhs; whnf) ?_
  refine TL.nil (Post.thnN ?_)
  refine T.block ?_
  refine T.loop (ι := Nat × Value × (List (Int × (List (Int × Int)))) × Chunk × (List (Int × Bool)) × (Array MapEntry) × Nat) (fun ⟨kl1, vb5l1_0, xb5l1_0, cb5l1_0, xM13l1, esM13l1, clM13l1⟩ H' L' ds' => kl1 ≤ q0.length ∧ Has L' ([(b5, .cells #[vb5l1_0] 112)] :: [(b13, .map esM13l1 clM13l1)] :: cb5l1_0 :: Lc) ∧ OwnS deathE 114 H' vb5l1_0 xb5l1_0 cb5l1_0 ∧ MapV .i64 (fun z : Bool => Value.bool z) esM13l1 xM13l1 ∧ Dv q0 q1 xM13l1 xb5l1_0 ∧ plan_deaths_1_l1 (q0.drop kl1) ((xb5l1_0, xM13l1)) = plan_deaths_1_l1 q0 (([], ([] : List (Int × Bool))))) (fun ⟨kl1, vb5l1_0, xb5l1_0, cb5l1_0, xM13l1, esM13l1, clM13l1⟩ => [(17, .int .i64 (kl1 : Int)), (0, yieldv l), (2, .pointer (some ⟨b1001, 0, none⟩)), (5, .pointer (some ⟨b5, 0, none⟩)), (6, .func (.func 77) #[] ([.pointer (some ⟨b4, 0, none⟩), .pointer (some ⟨b5, 0, none⟩)] : List Value).toArray), (15, .slice Aq0 q0.length cq0), (16, .int .i64 (q0.length : Int))]) (fun ⟨kl1, vb5l1_0, xb5l1_0, cb5l1_0, xM13l1, esM13l1, clM13l1⟩ => q0.length - kl1) (0, .slice none 0 0, [], [], ([] : List (Int × Bool)), #[], 0) ?_ ?_ ?_
  · exact ⟨(by omega), (Has.cons .hd (Has.cons .hd (Has.none (Has.refl _)))), OwnS.nil, w13, (by exact Dv.nil _ _), (by rfl)⟩
  · exact ⟨rfl, rfl, rfl, rfl, rfl, rfl, rfl, trivial⟩
  · intro ⟨kl1, vb5l1_0, xb5l1_0, cb5l1_0, xM13l1, esM13l1, clM13l1⟩ σ_l1 H_l1 L_l1 ds_l1 s_l1 hI_l1
    obtain ⟨hkl1, hI_l1⟩ := hI_l1
    obtain ⟨hLl1, wb5l1_0, wM13l1, hBl1_0, hQl1⟩ := hI_l1
    obtain ⟨Ab5l1_0, pb5l1_0, rfl, mb5l1_0, nb5l1_0_⟩ := OwnS.shape wb5l1_0
    refine T.has hLl1 ?_
    refine T.seq ?_
    refine T.region ?_
    refine R.lss rfl rfl rfl ?_
    refine TL.nil (Post.thnN ?_)
    refine T.seq ?_
    refine T.condD rfl (fun c18 => ?_) (fun c18 => ?_)
    · have hltl1 : kl1 < q0.length := by omega
      obtain ⟨yl1, hyl1⟩ := getk (xs := q0) (k := kl1) (by omega)
      have hln1 := hBl1_0.len hby hqq
      refine T.skip (Post.thnN ?_)
      refine T.seq ?_
      refine T.block ?_
      refine T.seq ?_
      refine T.region ?_
      obtain ⟨b19, o19, i19, k19⟩ := RdS.elem (hq0.mono (s1.trans (sb4_1.trans s_l1))) hyl1
      obtain ⟨l19, g19, k19⟩ := k19
      obtain rfl : l19 = [.int .i64 yl1] := g19
      refine R.ixp Tryz.underlying30 Tryz.sizeOf3 rfl rfl rfl (by omega) i19 ?_
      refine R.ldC Tryz.isAgg3 rfl rfl (k19 0 _ rfl) ?_
      refine R.asE rfl (by conv => lhs; whnf) ?_
      refine TL.nil (Post.thnN ?_)
      refine T.region ?_
      refine R.mvE rfl (by conv => lhs; whnf) ?_
      refine R.mvE rfl (by conv => lhs; whnf) ?_
      refine TL.has (Has.cons (.tl .hd) (Has.cons .hd (Has.cons .hd (Has.refl _)))) ?_
      refine TL.call [true, true, true] rfl rfl rfl (meet_c _ _ _ _ (s_l1 _ _ hb4_1) xM13l1 _ _ wM13l1 xb5l1_0 _ _ wb5l1_0 (by first | omega | (simp; done) | (simp; omega) | (simp at *; omega)) (yl1) _ ([] : List (Int × Int)) RdS.nil) ?_
      intro v23 H23 L23 s23 q23
      obtain ⟨es23, ck23, u23, c23, rfl, rfl, wm23, w23⟩ := q23
      obtain ⟨x23, ex23⟩ : ∃ x, x = (meet_m xM13l1 xb5l1_0 yl1 ([] : List (Int × Int))).1 := ⟨_, rfl⟩
      obtain ⟨y23, ey23⟩ : ∃ x, x = (meet_m xM13l1 xb5l1_0 yl1 ([] : List (Int × Int))).2 := ⟨_, rfl⟩
      rw [← ex23] at wm23
      rw [← ey23] at w23
      obtain ⟨A23, p23, rfl, m23, n23⟩ := OwnS.shape w23
      have hD23 : Dv q0 q1 x23 y23 := by rw [ex23, ey23]; exact hBl1_0.meet (.inl (List.mem_of_getElem? hyl1)) (by simp)
      refine TL.nil (Post.blkN ?_)
      refine id (Post.thnN ?_)
      refine T.region ?_
      refine R.addI rfl rfl rfl (by omega) ?_
      refine R.mvE rfl (by conv => lhs; whnf) ?_
      refine TL.nil (Post.thnN ?_)
      exact ⟨(kl1 + 1, .slice A23 y23.length p23, y23, c23, x23, es23, ck23), (s_l1.trans s23), ⟨(by omega), (Has.cons (.tl .hd) (Has.cons .hd (Has.cons .hd (Has.refl _)))), w23, wm23, (by exact hD23), (by subst ey23; subst ex23; rw [← hQl1, drop_cons hyl1, plan_deaths_1_l1])⟩, by show q0.length - (kl1 + 1) < q0.length - kl1; omega, rfl, rfl, rfl, rfl, rfl, rfl, rfl, trivial⟩
    · refine T.exit (Post.thnE (Post.thnE (Post.blkX ?_)))
      have hEl1 : plan_deaths_1_l1 q0 (([], ([] : List (Int × Bool)))) = (xb5l1_0, xM13l1) := (hQl1.symm.trans (by rw [show kl1 = q0.length by omega, List.drop_length, plan_deaths_1_l1]))
      refine id (Post.thnN ?_)
      refine T.seq ?_
      refine T.region ?_
      refine R.asE rfl (by conv => lhs; whnf) ?_
      refine TL.nil (Post.thnN ?_)
      refine T.block ?_
      refine T.loop (ι := Nat × (List (Int × (List (Int × Int)))) × Own × Int × Value × (List (Int × (List (Int × Int)))) × Chunk × (List (Int × Bool)) × (Array MapEntry) × Nat) (fun ⟨kl2, accl2, Ml2, n9l2, vb5l2_0, xb5l2_0, cb5l2_0, xM13l2, esM13l2, clM13l2⟩ H' L' ds' => (1000 - n9l2 : Int).toNat < kl2 ∧ Has L' ([(b5, .cells #[vb5l2_0] 112)] :: [(b13, .map esM13l2 clM13l2)] :: cb5l2_0 :: Ml2) ∧ OwnS deathE 114 H' vb5l2_0 xb5l2_0 cb5l2_0 ∧ MapV .i64 (fun z : Bool => Value.bool z) esM13l2 xM13l2 ∧ J accl2 H' Ml2 ∧ 0 ≤ n9l2 ∧ n9l2 ≤ (xb5l2_0.length : Int) ∧ Dv q0 q1 xM13l2 xb5l2_0 ∧ accl2 ++ plan_deaths_1_l2 q1 kl2 ((n9l2, xb5l2_0, xM13l2)) = plan_deaths_1_l2 q1 ((1000 - 0 : Int).toNat + 1) ((0, xb5l1_0, xM13l1))) (fun ⟨kl2, accl2, Ml2, n9l2, vb5l2_0, xb5l2_0, cb5l2_0, xM13l2, esM13l2, clM13l2⟩ => [(0, yieldv l), (2, .pointer (some ⟨b1001, 0, none⟩)), (5, .pointer (some ⟨b5, 0, none⟩)), (6, .func (.func 77) #[] ([.pointer (some ⟨b4, 0, none⟩), .pointer (some ⟨b5, 0, none⟩)] : List Value).toArray), (9, .int .i64 n9l2)]) (fun ⟨kl2, accl2, Ml2, n9l2, vb5l2_0, xb5l2_0, cb5l2_0, xM13l2, esM13l2, clM13l2⟩ => kl2) (((1000 - 0 : Int).toNat + 1), [], Lc, 0, .slice Ab5l1_0 xb5l1_0.length pb5l1_0, xb5l1_0, cb5l1_0, xM13l1, esM13l1, clM13l1) ?_ ?_ ?_
      · exact ⟨(by omega), (Has.cons .hd (Has.cons .hd (Has.cons .hd (Has.refl _)))), wb5l1_0, wM13l1, (by simpa using (hJ _ _ _ _ (sb4_1.trans s_l1) h0)), (by first | omega | exact hBl1_0), (by first | omega | exact hBl1_0), (by first | omega | exact hBl1_0), (by rfl)⟩
      · exact ⟨rfl, rfl, rfl, rfl, rfl, trivial⟩
      · intro ⟨kl2, accl2, Ml2, n9l2, vb5l2_0, xb5l2_0, cb5l2_0, xM13l2, esM13l2, clM13l2⟩ σ_l2 H_l2 L_l2 ds_l2 s_l2 hI_l2
        obtain ⟨hkl2, hI_l2⟩ := hI_l2
        obtain ⟨ml2, rfl⟩ : ∃ m, kl2 = m + 1 := ⟨kl2 - 1, by omega⟩
        obtain ⟨hLl2, wb5l2_0, wM13l2, hJl2, hBl2_0, hBl2_1, hBl2_2, hQl2⟩ := hI_l2
        obtain ⟨Ab5l2_0, pb5l2_0, rfl, mb5l2_0, nb5l2_0_⟩ := OwnS.shape wb5l2_0
        refine T.has hLl2 ?_
        refine T.seq ?_
        refine T.seq ?_
        have hln2 := hBl2_2.len hby hqq
        refine T.region ?_
        refine R.mvE rfl (by conv => lhs; whnf) ?_
        refine R.ld Tryz.isAgg112 rfl rfl .hd rfl ?_
        refine R.len Tryz.underlying112 rfl rfl ?_
        refine R.lss rfl rfl rfl ?_
        refine TL.nil (Post.thnN ?_)
        refine T.condD rfl (fun c28 => ?_) (fun c28 => ?_)
        · refine T.set 28 (.bool true) (congrArg Value.bool (decide_eq_true c28)) ?_
          refine T.skip (Post.thnN ?_)
          refine T.seq ?_
          refine T.block ?_
          refine T.seq ?_
          refine T.region ?_
          refine R.ld Tryz.isAgg112 rfl rfl .hd rfl ?_
          refine R.mvE rfl (by conv => lhs; whnf) ?_
          have hl33 : n9l2.toNat < xb5l2_0.length := by first | omega | (simp; done) | (simp; omega) | (simp at *; omega)
          obtain ⟨y33, e33, h33⟩ : ∃ y, y = (xb5l2_0.getD n9l2.toNat (((0, []) : Int × (List (Int × Int))) : Int × (List (Int × Int)))) ∧ xb5l2_0[n9l2.toNat]? = some y := ⟨_, rfl, getD_get (by first | exact hl33 | simpa using hl33 | (rw [(sortI_perm _).length_eq]; exact hl33))⟩
          obtain ⟨b33, u33, cs33, l33, f33, j33, i33, g33, k33⟩ := OwnS.elem wb5l2_0 h33
          obtain ⟨z33_1, rfl, r33_1⟩ := g33
          obtain ⟨A33_1, p33_1, rfl, m33_1, n33_1, r33_1⟩ := r33_1.shape
          refine R.ixp (sz := (deathE).size) Tryz.underlying112 Tryz.sizeOf114 rfl rfl rfl (by first | omega | (simp; done) | (simp; omega) | (simp at *; omega)) i33 ?_
          refine R.ldAt (l := [.int .i64 (y33.1), .slice A33_1 y33.2.length p33_1]) Tryz.isAgg114 Tryz.sizeOf114 rfl rfl (by rw [← f33]; exact (.tl (.tl .hd))) rfl (fun j u h => k33 j u h) ?_
          refine R.alloc Tryz.zeroValue114 rfl ?_
          intro b10
          refine R.stX (old := [.int .i64 0, .slice none 0 0]) (l := [.int .i64 (y33.1), .slice A33_1 y33.2.length p33_1]) (new := [.int .i64 (y33.1), .slice A33_1 y33.2.length p33_1]) (et := 114) Tryz.sizeOf114 rfl rfl rfl rfl rfl (by show 0 + 2 ≤ 2; decide) rfl (all_one rfl) .hd ?_
          refine TL.shut .hd ?_
          intro Hb10_2 sb10_2 qb10_2
          have hb10_2 : Hb10_2 b10 = some (.cells #[.int .i64 (y33.1), .slice A33_1 y33.2.length p33_1] 114) := shut1 qb10_2
          refine TL.nil (Post.thnN ?_)
          refine T.seq ?_
          refine T.seq ?_
          refine T.region ?_
          refine R.mvE rfl (by conv => lhs; whnf) ?_
          refine R.fldA Tryz.underlying114 rfl Tryz.sizeOf3 (by decide) rfl rfl ?_
          refine R.ldH Tryz.isAgg3 rfl rfl hb10_2 rfl ?_
          refine R.fldA Tryz.underlying114 rfl Tryz.sizeOf23 (by decide) rfl rfl ?_
          refine R.ldH Tryz.isAgg23 rfl rfl hb10_2 rfl ?_
          have hP40_l2 : (accl2 ++ [(y33.1, y33.2)]) <+: plan_deaths_1_l2 q1 ((1000 - 0 : Int).toNat + 1) ((0, xb5l1_0, xM13l1)) := by subst e33; rw [← hQl2, plan_deaths_1_l2]; rw [if_pos c28]; exact (pf_app pf_one)
          have hP40_f : (accl2 ++ [(y33.1, y33.2)]) <+: plan_deaths_1_m q0 q1 := by rw [plan_deaths_1_m, hEl1, LR.seq_go]; exact (pf_l hP40_l2)
          have hp40 : (accl2 ++ [(y33.1, y33.2)]) <+: plan_deaths_1_m q0 q1 := by simpa [List.append_assoc] using hP40_f
          refine TL.callT 3 rfl rfl rfl (hY accl2 ((y33.1, y33.2)) _ Hb10_2 Ml2 (sb4_1.trans (s_l1.trans (s_l2.trans sb10_2))) hp40 (hJ _ _ _ _ sb10_2 hJl2) ⟨_, rfl, (r33_1.mono sb10_2)⟩) ?_
          intro v40 H40 L40 s40 q40
          rcases q40 with ⟨rfl, j40⟩ | ⟨rfl, j40⟩
          · refine R.not rfl rfl ?_
            refine TL.nil (Post.thnN ?_)
            refine T.condN rfl ?_
            refine T.skip (Post.thnN ?_)
            refine T.seq ?_
            refine T.region ?_
            refine R.ldH Tryz.isAgg75 rfl rfl ((s1.trans (sb4_1.trans (s_l1.trans (s_l2.trans (sb10_2.trans s40))))) _ _ hb1) rfl ?_
            refine R.fldA Tryz.underlying114 rfl Tryz.sizeOf3 (by decide) rfl rfl ?_
            refine R.ldH Tryz.isAgg3 rfl rfl (s40 _ _ hb10_2) rfl ?_
            refine R.lkuR (m := q1) Tryz.underlying75 Tryz.underlying3 Tryz.zeroValue23 rfl rfl rfl (hq1.mono (s1.trans (sb4_1.trans (s_l1.trans (s_l2.trans (sb10_2.trans s40)))))) ?_
            intro v45 w45
            obtain ⟨A45, p45, rfl, m45, n45, w45⟩ := RdS.shape w45
            refine R.len Tryz.underlying23 rfl rfl ?_
            refine R.mvE rfl (by conv => lhs; whnf) ?_
            refine TL.nil (Post.thnN ?_)
            refine T.block ?_
            refine T.loop (ι := Nat × Value × (List (Int × (List (Int × Int)))) × Chunk × (List (Int × Bool)) × (Array MapEntry) × Nat) (fun ⟨kl3, vb5l3_0, xb5l3_0, cb5l3_0, xM13l3, esM13l3, clM13l3⟩ H' L' ds' => kl3 ≤ (q1 y33.1).length ∧ Has L' ([(b5, .cells #[vb5l3_0] 112)] :: [(b13, .map esM13l3 clM13l3)] :: cb5l3_0 :: L40) ∧ OwnS deathE 114 H' vb5l3_0 xb5l3_0 cb5l3_0 ∧ MapV .i64 (fun z : Bool => Value.bool z) esM13l3 xM13l3 ∧ Dv q0 q1 xM13l3 xb5l3_0 ∧ xb5l2_0.length ≤ xb5l3_0.length ∧ plan_deaths_1_l3 y33 ((q1 y33.1).drop kl3) ((xb5l3_0, xM13l3)) = plan_deaths_1_l3 y33 (q1 y33.1) ((xb5l2_0, xM13l2))) (fun ⟨kl3, vb5l3_0, xb5l3_0, cb5l3_0, xM13l3, esM13l3, clM13l3⟩ => [(47, .int .i64 (kl3 : Int)), (0, yieldv l), (2, .pointer (some ⟨b1001, 0, none⟩)), (5, .pointer (some ⟨b5, 0, none⟩)), (6, .func (.func 77) #[] ([.pointer (some ⟨b4, 0, none⟩), .pointer (some ⟨b5, 0, none⟩)] : List Value).toArray), (9, .int .i64 n9l2), (10, .pointer (some ⟨b10, 0, none⟩)), (45, .slice A45 (q1 y33.1).length p45), (46, .int .i64 ((q1 y33.1).length : Int))]) (fun ⟨kl3, vb5l3_0, xb5l3_0, cb5l3_0, xM13l3, esM13l3, clM13l3⟩ => ((q1 y33.1).length) - kl3) (0, .slice Ab5l2_0 xb5l2_0.length pb5l2_0, xb5l2_0, cb5l2_0, xM13l2, esM13l2, clM13l2) ?_ ?_ ?_
            · exact ⟨(by omega), (Has.cons .hd (Has.cons .hd (Has.cons .hd (Has.refl _)))), (OwnS.mono wb5l2_0 (sb10_2.trans s40)), wM13l2, (by first | exact hBl2_2 | exact Nat.le_refl _), (by first | exact hBl2_2 | exact Nat.le_refl _), (by rfl)⟩
            · exact ⟨rfl, rfl, rfl, rfl, rfl, rfl, rfl, rfl, rfl, trivial⟩
            · intro ⟨kl3, vb5l3_0, xb5l3_0, cb5l3_0, xM13l3, esM13l3, clM13l3⟩ σ_l3 H_l3 L_l3 ds_l3 s_l3 hI_l3
              obtain ⟨hkl3, hI_l3⟩ := hI_l3
              obtain ⟨hLl3, wb5l3_0, wM13l3, hBl3_0, hBl3_1, hQl3⟩ := hI_l3
              obtain ⟨Ab5l3_0, pb5l3_0, rfl, mb5l3_0, nb5l3_0_⟩ := OwnS.shape wb5l3_0
              refine T.has hLl3 ?_
              refine T.seq ?_
              refine T.region ?_
              refine R.lss rfl rfl rfl ?_
              refine TL.nil (Post.thnN ?_)
              refine T.seq ?_
              refine T.condD rfl (fun c48 => ?_) (fun c48 => ?_)
              · have hltl3 : kl3 < (q1 y33.1).length := by omega
                obtain ⟨yl3, hyl3⟩ := getk (xs := (q1 y33.1)) (k := kl3) (by omega)
                have hln3 := hBl3_0.len hby hqq
                have hwy := hBl2_2.w y33 (List.mem_of_getElem? h33)
                refine T.skip (Post.thnN ?_)
                refine T.seq ?_
                refine T.block ?_
                refine T.seq ?_
                refine T.region ?_
                obtain ⟨b49, o49, i49, k49⟩ := RdS.elem (w45.mono s_l3) hyl3
                obtain ⟨l49, g49, k49⟩ := k49
                obtain rfl : l49 = [.int .i64 (yl3.1), .int .u64 (yl3.2)] := g49
                refine R.ixp Tryz.underlying23 Tryz.sizeOf50 rfl rfl rfl (by omega) i49 ?_
                refine R.ldK (l := [.int .i64 (yl3.1), .int .u64 (yl3.2)]) Tryz.isAgg50 Tryz.sizeOf50 rfl rfl k49 rfl ?_
                refine R.alloc Tryz.zeroValue50 rfl ?_
                intro b12
                refine R.stX (old := [.int .i64 0, .int .u64 0]) (l := [.int .i64 (yl3.1), .int .u64 (yl3.2)]) (new := [.int .i64 (yl3.1), .int .u64 (yl3.2)]) (et := 50) Tryz.sizeOf50 rfl rfl rfl rfl rfl (by show 0 + 2 ≤ 2; decide) rfl (all_one rfl) .hd ?_
                refine TL.shut .hd ?_
                intro Hb12_3 sb12_3 qb12_3
                have hb12_3 : Hb12_3 b12 = some (.cells #[.int .i64 (yl3.1), .int .u64 (yl3.2)] 50) := shut1 qb12_3
                refine TL.nil (Post.thnN ?_)
                refine T.draw Tryz_mixed (by kernel_rfl) ?_
                refine Plan.v 0 [1, 2, 3, 4, 5, 6, 7, 8, 9, 10, 11, 12, 13, 14, 15] (by kernel_rfl) (by kernel_rfl) (by kernel_rfl) (by kernel_rfl) rfl (fun _ _ h_ => R.mvE rfl (by conv => lhs; whnf) (TL.nil h_)) ?_
                refine Plan.v 1 [2, 3, 4, 5, 6, 7, 8, 9, 10, 11, 12, 13, 14, 15] (by kernel_rfl) (by kernel_rfl) (by kernel_rfl) (by kernel_rfl) rfl (fun _ _ h_ => R.fldA Tryz.underlying50 rfl Tryz.sizeOf3 (by decide) rfl rfl (TL.nil h_)) ?_
                refine Plan.v 2 [3, 4, 5, 6, 7, 8, 9, 10, 11, 12, 13, 14, 15] (by kernel_rfl) (by kernel_rfl) (by kernel_rfl) (by kernel_rfl) rfl (fun _ _ h_ => R.ldH Tryz.isAgg3 rfl rfl hb12_3 rfl (TL.nil h_)) ?_
                refine Plan.v 3 [4, 5, 6, 7, 8, 9, 10, 11, 12, 13, 14, 15] (by kernel_rfl) (by kernel_rfl) (by kernel_rfl) (by kernel_rfl) rfl (fun _ _ h_ => R.fldA Tryz.underlying114 rfl Tryz.sizeOf23 (by decide) rfl rfl (TL.nil h_)) ?_
                refine Plan.v 4 [5, 6, 7, 8, 9, 10, 11, 12, 13, 14, 15] (by kernel_rfl) (by kernel_rfl) (by kernel_rfl) (by kernel_rfl) rfl (fun _ _ h_ => R.ldH Tryz.isAgg23 rfl rfl ((s40.trans (s_l3.trans sb12_3)) _ _ hb10_2) rfl (TL.nil h_)) ?_
                refine Plan.v 5 [6, 7, 8, 9, 10, 11, 12, 13, 14, 15] (by kernel_rfl) (by kernel_rfl) (by kernel_rfl) (by kernel_rfl) rfl (fun _ _ h_ => R.fldA Tryz.underlying114 rfl Tryz.sizeOf23 (by decide) rfl rfl (TL.nil h_)) ?_
                refine Plan.v 6 [7, 8, 9, 10, 11, 12, 13, 14, 15] (by kernel_rfl) (by kernel_rfl) (by kernel_rfl) (by kernel_rfl) rfl (fun _ _ h_ => R.ldH Tryz.isAgg23 rfl rfl ((s40.trans (s_l3.trans sb12_3)) _ _ hb10_2) rfl (TL.nil h_)) ?_
                refine Plan.v 7 [8, 9, 10, 11, 12, 13, 14, 15] (by kernel_rfl) (by kernel_rfl) (by kernel_rfl) (by kernel_rfl) rfl (fun _ _ h_ => R.len Tryz.underlying23 rfl rfl (TL.nil h_)) ?_
                refine Plan.v 8 [9, 10, 11, 12, 13, 14, 15] (by kernel_rfl) (by kernel_rfl) (by kernel_rfl) (by kernel_rfl) rfl (fun _ _ h_ => R.fldA Tryz.underlying114 rfl Tryz.sizeOf23 (by decide) rfl rfl (TL.nil h_)) ?_
                refine Plan.v 9 [10, 11, 12, 13, 14, 15] (by kernel_rfl) (by kernel_rfl) (by kernel_rfl) (by kernel_rfl) rfl (fun _ _ h_ => R.ldH Tryz.isAgg23 rfl rfl ((s40.trans (s_l3.trans sb12_3)) _ _ hb10_2) rfl (TL.nil h_)) ?_
                refine Plan.v 10 [11, 12, 13, 14, 15] (by kernel_rfl) (by kernel_rfl) (by kernel_rfl) (by kernel_rfl) rfl (fun _ _ h_ => R.len Tryz.underlying23 rfl rfl (TL.nil h_)) ?_
                have z62 := RdS.take (r33_1.mono (sb10_2.trans (s40.trans (s_l3.trans sb12_3)))) (i := y33.2.length) (Nat.le_refl _) (by omega)
                rw [List.take_length] at z62
                refine Plan.v 11 [12, 13, 14, 15] (by kernel_rfl) (by kernel_rfl) (by kernel_rfl) (by kernel_rfl) rfl (fun _ _ h_ => R.sHM Tryz.underlying23 Tryz.sizeOf50 rfl rfl rfl rfl (by omega) (by omega) (by omega) (TL.nil h_)) ?_
                refine Plan.set 62 (.slice A33_1 y33.2.length y33.2.length) (slc_take00 (A := A33_1) (n := y33.2.length) (c := p33_1) (sz := 2)) ?_
                refine Plan.v 12 [13, 14, 15] (by kernel_rfl) (by kernel_rfl) (by kernel_rfl) (by kernel_rfl) rfl (fun _ _ h_ => R.ldXH (cs := [.int .i64 (yl3.1), .int .u64 (yl3.2)]) (l := [.int .i64 (yl3.1), .int .u64 (yl3.2)]) Tryz.isAgg50 Tryz.sizeOf50 rfl rfl hb12_3 rfl rfl (TL.nil h_)) ?_
                refine Plan.s1 13 [14, 15] (by kernel_rfl) (by kernel_rfl) rfl ?_
                refine R.bs (e := 50) (cs := [.int .i64 (yl3.1), .int .u64 (yl3.2)]) rfl (fun _ => by kernel_rfl) ?_
                intro b64
                have w64 : OwnS heldE 50 Hb12_3 (.slice (some ⟨b64, 0, none⟩) 1 1) [yl3] [(b64, .cells #[.int .i64 (yl3.1), .int .u64 (yl3.2)] 50)] := OwnS.lit (xs := [yl3]) (cellsOf_cons (a := [.int .i64 (yl3.1), .int .u64 (yl3.2)]) rfl cellsOf_nil) (by show 1 ≤ maxLen; decide)
                refine TL.nil (Plan.e1 (HLe.refl _) ?_)
                refine Plan.s1 14 [15] (by kernel_rfl) (by kernel_rfl) rfl ?_
                obtain ⟨k65, y65, r65⟩ := Src.ownA w64
                refine R.appN (E := heldE) (xs := y33.2) (ys := [yl3]) Tryz_ty23 rfl rfl rfl z62 (r65 _ .hd) y65 (by simp) (by (try simp only [List.length_append, List.length_cons, List.length_nil, List.length_replicate, List.length_take, List.length_drop]); omega) (by (try simp only [List.length_append, List.length_cons, List.length_nil, List.length_replicate, List.length_take, List.length_drop]); omega) ?_
                intro v65 c65 w65
                obtain ⟨A65, p65, rfl, m65, n65⟩ := OwnS.shape w65
                refine TL.del (.tl .hd) ?_
                refine TL.nil (Plan.e1 (HLe.refl _) ?_)
                refine Plan.s1 15 [] (by kernel_rfl) (by kernel_rfl) rfl ?_
                refine TL.shut .hd ?_
                intro HF65_5 sF65_5 qF65_5
                have fF65_5 := OwnS.read w65 sF65_5 qF65_5
                refine TL.has (Has.cons (.tl .hd) (Has.cons .hd (Has.cons .hd (Has.refl _)))) ?_
                refine TL.call [true, true, true] rfl rfl rfl (meet_c _ _ _ _ ((s_l1.trans (s_l2.trans (sb10_2.trans (s40.trans (s_l3.trans (sb12_3.trans sF65_5)))))) _ _ hb4_1) xM13l3 _ _ wM13l3 xb5l3_0 _ _ (OwnS.mono wb5l3_0 (sb12_3.trans sF65_5)) (by first | omega | (simp; done) | (simp; omega) | (simp at *; omega)) (yl3.1) _ ((y33.2 ++ [yl3])) fF65_5) ?_
                intro v66 H66 L66 s66 q66
                obtain ⟨es66, ck66, u66, c66, rfl, rfl, wm66, w66⟩ := q66
                obtain ⟨x66, ex66⟩ : ∃ x, x = (meet_m xM13l3 xb5l3_0 yl3.1 ((y33.2 ++ [yl3]))).1 := ⟨_, rfl⟩
                obtain ⟨y66, ey66⟩ : ∃ x, x = (meet_m xM13l3 xb5l3_0 yl3.1 ((y33.2 ++ [yl3]))).2 := ⟨_, rfl⟩
                rw [← ex66] at wm66
                rw [← ey66] at w66
                obtain ⟨A66, p66, rfl, m66, n66⟩ := OwnS.shape w66
                have hD66 : Dv q0 q1 x66 y66 := by rw [ex66, ey66]; exact hBl3_0.meet (.inr ⟨_, _, List.mem_of_getElem? hyl3, rfl⟩) (by simp; omega)
                have hg66 : xb5l3_0.length ≤ y66.length := by rw [ey66]; exact meet_ge _ _ _ _
                refine TL.nil (Plan.e1 ((sF65_5.trans s66)) ?_)
                refine Plan.done (Post.blkN ?_)
                refine id (Post.thnN ?_)
                refine T.region ?_
                refine R.addI rfl rfl rfl (by omega) ?_
                refine R.mvE rfl (by conv => lhs; whnf) ?_
                refine TL.nil (Post.thnN ?_)
                exact ⟨(kl3 + 1, .slice A66 y66.length p66, y66, c66, x66, es66, ck66), (s_l3.trans (sb12_3.trans (sF65_5.trans s66))), ⟨(by omega), (Has.cons (.tl .hd) (Has.cons .hd (Has.cons .hd (Has.refl _)))), w66, wm66, (by first | exact hD66 | omega), (by first | exact hD66 | omega), (by subst ey66; subst ex66; rw [← hQl3, drop_cons hyl3, plan_deaths_1_l3])⟩, by show ((q1 y33.1).length) - (kl3 + 1) < ((q1 y33.1).length) - kl3; omega, rfl, rfl, rfl, rfl, rfl, rfl, rfl, rfl, rfl, trivial⟩
              · refine T.exit (Post.thnE (Post.thnE (Post.blkX ?_)))
                have hEl3 : plan_deaths_1_l3 y33 (q1 y33.1) ((xb5l2_0, xM13l2)) = (xb5l3_0, xM13l3) := (hQl3.symm.trans (by rw [show kl3 = (q1 y33.1).length by omega, List.drop_length, plan_deaths_1_l3]))
                refine id (Post.blkN ?_)
                refine id (Post.thnN ?_)
                refine T.region ?_
                refine R.mvE rfl (by conv => lhs; whnf) ?_
                refine R.addI rfl rfl rfl (by omega) ?_
                refine R.asE rfl (by conv => lhs; whnf) ?_
                refine TL.nil (Post.thnN ?_)
                exact ⟨(ml2, (accl2 ++ [(y33.1, y33.2)]), L40, (n9l2 + 1), .slice Ab5l3_0 xb5l3_0.length pb5l3_0, xb5l3_0, cb5l3_0, xM13l3, esM13l3, clM13l3), (s_l2.trans (sb10_2.trans (s40.trans s_l3))), ⟨(by first | omega | (simp; omega) | (simp at *; omega)), (Has.cons .hd (Has.cons .hd (Has.cons .hd (Has.refl _)))), wb5l3_0, wM13l3, (by simpa [List.append_assoc] using (hJ _ _ _ _ s_l3 j40)), (by first | omega | exact hBl3_0), (by first | omega | exact hBl3_0), (by first | omega | exact hBl3_0), (by subst e33; (rw [← hQl2, plan_deaths_1_l2]; rw [if_pos c28, hEl3, LR.seq_go]) <;> simp)⟩, by show ml2 < ml2 + 1; omega, rfl, rfl, rfl, rfl, rfl, trivial⟩
          · refine R.not rfl rfl ?_
            refine TL.nil (Post.thnN ?_)
            refine T.condY rfl ?_
            refine T.ret (Post.thnR (Post.blkR (Post.thnR (Post.thnR (Post.blkR ?_)))))
            exact fin0L L40 rfl (List.Sublist.cons _ (List.Sublist.cons _ (List.Sublist.cons _ (List.Sublist.refl _)))) (.inr ⟨accl2, (y33.1, y33.2), hp40, j40⟩)
        · refine T.set 28 (.bool false) (congrArg Value.bool (decide_eq_false c28)) ?_
          refine T.exit (Post.thnE (Post.thnE (Post.blkX ?_)))
          have hEl2 : plan_deaths_1_l2 q1 ((1000 - 0 : Int).toNat + 1) ((0, xb5l1_0, xM13l1)) = accl2 := (by (rw [← hQl2, plan_deaths_1_l2]; rw [if_neg c28]) <;> simp)
          refine id ?_
          have hM : plan_deaths_1_m q0 q1 = accl2 := by rw [plan_deaths_1_m, hEl1, LR.seq_go, hEl2] <;> simp
          exact fin0N Ml2 rfl (List.Sublist.cons _ (List.Sublist.cons _ (List.Sublist.cons _ (List.Sublist.refl _)))) (.inl (by rw [hM]; exact hJl2))

def plan_deaths_m (a0 : Int → List (Int × Int)) (a1 : List Int) : (List (Int × (List (Int × Int)))) :=
  (plan_deaths_1_m a1 a0)
set_option maxHeartbeats 3200000 in
theorem plan_deaths_c (H : Heap) (ma0 : Nat) (a0 : Int → List (Int × Int)) (ha0 : MrR heldE .i64 H ma0 a0) (va1 : Value) (a1 : List Int) (ha1 : RdS (intE .i64) H va1 a1) (hb : ByOk a0) (hq : a1.length ≤ 100) : Fp Tryz.prog (fnv 36) [.map (some ma0), va1] H (fun v' H' => ∃ u0_0, v' = .func (.func 76) #[] u0_0 ∧ Iter Tryz.prog (.func (.func 76) #[] u0_0) Y111 H' (plan_deaths_m a0 a1)) := by
  refine Fc.of_body (N := 6) Tryz.func36 rfl (by kernel_rfl) rfl rfl ?_
  intro w0
  obtain ⟨Aa1, ca1, rfl, hca1, hda1, ha1⟩ := ha1.shape
  refine T.seq ?_
  refine T.region ?_
  refine R.box rfl (by conv => lhs; whnf) ?_
  intro b2
  refine R.box rfl (by conv => lhs; whnf) ?_
  intro b3
  refine R.asE rfl (by conv => lhs; whnf) ?_
  refine TL.shut .hd ?_
  intro Hb3_1 sb3_1 qb3_1
  have hb3_1 : Hb3_1 b3 = some (.cells #[.slice Aa1 a1.length ca1] 30) := shut1 qb3_1
  refine TL.shut .hd ?_
  intro Hb2_2 sb2_2 qb2_2
  have hb2_2 : Hb2_2 b2 = some (.cells #[.map (some ma0)] 75) := shut1 qb2_2
  refine TL.nil (Post.thnN ?_)
  refine T.seq ?_
  refine T.region ?_
  refine R.mkf (cs := [_, _]) rfl rfl ?_
  refine R.asE rfl (by conv => lhs; whnf) ?_
  refine TL.nil (Post.thnN ?_)
  refine T.has Has.nil ?_
  refine T.ret ?_
  have hM : plan_deaths_m a0 a1 = (plan_deaths_1_m a1 a0) := by rw [plan_deaths_m]
  exact fin1L (v := .func (.func 76) #[] ([.pointer (some ⟨b3, 0, none⟩), .pointer (some ⟨b2, 0, none⟩)] : List Value).toArray) [] rfl rfl (List.Sublist.refl _) ⟨rfl, ([.pointer (some ⟨b3, 0, none⟩), .pointer (some ⟨b2, 0, none⟩)] : List Value).toArray, by first | rw [hM] | rfl, by rw [hM]; exact (plan_deaths_1_c _ b3 _ a1 (ha1.mono (sb3_1.trans sb2_2)) (sb2_2 _ _ hb3_1) b2 _ a0 (ha0.mono (sb3_1.trans sb2_2)) hb2_2 (by first | omega | (simp; done) | (simp; omega) | (simp at *; omega)) (by first | omega | (simp; done) | (simp; omega) | (simp at *; omega)))⟩

end Go.SX

set_option linter.unusedVariables false
set_option linter.unusedSimpArgs false
namespace Go.SX
open Go
abbrev dh0 : Dh := (0, [])
/-- The row so far: all that were asked for; whom the first i kill; each by a way. -/
structure Bf (q0 : List Int) (by_ : Int → List Hd) (i : Nat) (l : List Dh) : Prop where
  all : ∀ k ∈ q0, k ∈ l.map Prod.fst
  cl : ∀ (j : Nat) (d : Dh), j < i → l[j]? = some d → ∀ h ∈ by_ d.1, h.1 ∈ l.map Prod.fst
  par : ∀ (n : Nat) (d : Dh), l[n]? = some d → (d.1 ∈ q0 ∧ d.2 = []) ∨ ∃ (m : Nat) (p : Dh) (h : Hd), m < n ∧ m < i ∧ l[m]? = some p ∧ h ∈ by_ p.1 ∧ d = (h.1, p.2 ++ [h])
theorem meet_cases (met : List (Int × Bool)) (l : List Dh) (k : Int) (w : List Hd) : ((mlk met k).getD false = true ∧ meet_m met l k w = (met, l)) ∨ ((mlk met k).getD false = false ∧ meet_m met l k w = (mpu met k true, l ++ [(k, w)])) := by
  unfold meet_m
  cases h : (mlk met k).getD false with
  | true => exact .inl ⟨rfl, by rw [Bool.not_true, if_neg Bool.false_ne_true]⟩
  | false => exact .inr ⟨rfl, by rw [Bool.not_false, if_pos rfl]⟩
theorem meet_pre (met : List (Int × Bool)) (l : List Dh) (k : Int) (w : List Hd) : l <+: (meet_m met l k w).2 := by
  rcases meet_cases met l k w with ⟨_, e⟩ | ⟨_, e⟩
  · rw [e]; exact List.prefix_refl _
  · rw [e]; exact List.prefix_append _ _
theorem meet_in {q0 : List Int} {by_ : Int → List Hd} {met : List (Int × Bool)} {l : List Dh} (h : Dv q0 by_ met l) (k : Int) (w : List Hd) : k ∈ ((meet_m met l k w).2).map Prod.fst := by
  rcases meet_cases met l k w with ⟨c, e⟩ | ⟨_, e⟩
  · rw [e]; exact (h.m k).1 c
  · rw [e]; simp
theorem pre_mem {l l' : List Dh} (h : l <+: l') {k : Int} (hk : k ∈ l.map Prod.fst) : k ∈ l'.map Prod.fst := by
  obtain ⟨t, rfl⟩ := h
  rw [List.map_append]; exact List.mem_append_left _ hk
theorem pre_get {l l' : List Dh} (h : l <+: l') {n : Nat} {d : Dh} (hn : l[n]? = some d) : l'[n]? = some d := by
  obtain ⟨t, rfl⟩ := h
  rw [List.getElem?_append_left (List.getElem?_eq_some_iff.1 hn).1]; exact hn
theorem getD_at {l : List Dh} {n : Nat} (h : n < l.length) : l[n]? = some (l.getD n dh0) := getD_get h
/-! the first ones -/
theorem first_run (q0 : List Int) (by_ : Int → List Hd) : ∀ (r : List Int) (l : List Dh) (met : List (Int × Bool)), (∀ k ∈ r, k ∈ q0) → Dv q0 by_ met l → (∀ d ∈ l, d.1 ∈ q0 ∧ d.2 = []) →
    ∃ l' met', plan_deaths_1_l1 r (l, met) = (l', met') ∧ l <+: l' ∧ Dv q0 by_ met' l' ∧ (∀ d ∈ l', d.1 ∈ q0 ∧ d.2 = []) ∧ ∀ k ∈ r, k ∈ l'.map Prod.fst
  | [], l, met, _, hd, hl => ⟨l, met, rfl, List.prefix_refl _, hd, hl, fun k h => by cases h⟩
  | k :: r, l, met, hr, hd, hl => by
    rw [plan_deaths_1_l1]
    have hk := hr k (List.mem_cons_self ..)
    have hd' : Dv q0 by_ (meet_m met l k []).1 (meet_m met l k []).2 := hd.meet (.inl hk) (by simp)
    have hin := meet_in hd k []
    have hpre := meet_pre met l k []
    have hl' : ∀ d ∈ (meet_m met l k []).2, d.1 ∈ q0 ∧ d.2 = [] := by
      rcases meet_cases met l k [] with ⟨_, e⟩ | ⟨_, e⟩
      · rw [e]; exact hl
      · rw [e]; intro d hd
        rcases List.mem_append.1 hd with hd | hd
        · exact hl d hd
        · rw [List.mem_singleton] at hd; subst hd; exact ⟨hk, rfl⟩
    obtain ⟨l', met', e, h1, h2, h3, h4⟩ := first_run q0 by_ r _ _ (fun j hj => hr j (List.mem_cons_of_mem _ hj)) hd' hl'
    refine ⟨l', met', e, hpre.trans h1, h2, h3, fun j hj => ?_⟩
    rcases List.mem_cons.1 hj with rfl | hj
    · exact pre_mem h1 hin
    · exact h4 j hj
/-! whom one kills -/
theorem kills_run (q0 : List Int) (by_ : Int → List Hd) (d0 : Dh) : ∀ (r : List Hd) (l : List Dh) (met : List (Int × Bool)), (∀ h ∈ r, h ∈ by_ d0.1) → d0 ∈ l → Dv q0 by_ met l →
    ∃ l' met', plan_deaths_1_l3 d0 r (l, met) = (l', met') ∧ l <+: l' ∧ Dv q0 by_ met' l' ∧ (∀ (n : Nat) (d : Dh), l'[n]? = some d → n < l.length ∨ ∃ h ∈ by_ d0.1, d = (h.1, d0.2 ++ [h])) ∧ ∀ h ∈ r, h.1 ∈ l'.map Prod.fst
  | [], l, met, _, _, hd => ⟨l, met, rfl, List.prefix_refl _, hd, fun n d hn => .inl (List.getElem?_eq_some_iff.1 hn).1, fun k h => by cases h⟩
  | h :: r, l, met, hr, h0, hd => by
    rw [plan_deaths_1_l3]
    have hk := hr h (List.mem_cons_self ..)
    have hw := hd.w d0 h0
    have hd' : Dv q0 by_ (meet_m met l h.1 (d0.2 ++ [h])).1 (meet_m met l h.1 (d0.2 ++ [h])).2 := hd.meet (.inr ⟨_, h, hk, rfl⟩) (by simp; omega)
    have hin := meet_in hd h.1 (d0.2 ++ [h])
    have hpre := meet_pre met l h.1 (d0.2 ++ [h])
    obtain ⟨l', met', e, h1, h2, h3, h4⟩ := kills_run q0 by_ d0 r _ _ (fun j hj => hr j (List.mem_cons_of_mem _ hj)) (hpre.subset h0) hd'
    refine ⟨l', met', e, hpre.trans h1, h2, fun n d hn => ?_, fun j hj => ?_⟩
    · rcases h3 n d hn with h5 | h5
      · rcases meet_cases met l h.1 (d0.2 ++ [h]) with ⟨_, e2⟩ | ⟨_, e2⟩
        · rw [e2] at h5; exact .inl h5
        · rw [e2] at h5 h1
          rcases Nat.lt_or_ge n l.length with h6 | h6
          · exact .inl h6
          · have h7 := pre_get h1 (n := n) (d := (h.1, d0.2 ++ [h])) (by rw [List.getElem?_append_right h6, show n - l.length = 0 by simp at h5; omega]; rfl)
            rw [hn] at h7; injection h7 with h7
            exact .inr ⟨h, hk, h7⟩
      · exact .inr h5
    · rcases List.mem_cons.1 hj with rfl | hj
      · exact pre_mem h1 hin
      · exact h4 j hj
theorem deaths_run (q0 : List Int) (by_ : Int → List Hd) (hb : ByOk by_) (hq : q0.length ≤ 100) : ∀ (m : Nat) (i : Nat) (l : List Dh) (met : List (Int × Bool)), Dv q0 by_ met l → Bf q0 by_ i l → i ≤ l.length → 1000 < m + i →
    ∃ lf metf, plan_deaths_1_l2 by_ m ((i : Int), l, met) = lf.drop i ∧ Dv q0 by_ metf lf ∧ Bf q0 by_ lf.length lf ∧ l <+: lf
  | 0, i, l, met, hd, hB, hi, hm => by have := hd.len hb hq; omega
  | m + 1, i, l, met, hd, hB, hi, hm => by
    rw [plan_deaths_1_l2]
    simp only
    by_cases c : (i : Int) < (l.length : Int)
    · rw [if_pos c, LR.seq_go]
      have hil : i < l.length := by omega
      have e0 : ((i : Int)).toNat = i := by omega
      rw [e0]
      have h0 := getD_at hil
      have hmem := List.mem_of_getElem? h0
      generalize l.getD i ((0, []) : Int × List (Int × Int)) = d0 at *
      obtain ⟨l', met', e, h1, h2, h3, h4⟩ := kills_run q0 by_ d0 (by_ d0.1) l met (fun h hh => hh) hmem hd
      rw [e]
      have hB' : Bf q0 by_ (i + 1) l' := by
        refine ⟨fun k hk => pre_mem h1 (hB.all k hk), fun j d hj hjd h hh => ?_, fun n d hn => ?_⟩
        · rcases Nat.lt_or_ge j i with h5 | h5
          · have h6 := pre_get h1 (getD_at (show j < l.length by omega))
            rw [hjd] at h6; injection h6 with h6
            exact pre_mem h1 (hB.cl j d h5 (by rw [getD_at (show j < l.length by omega), ← h6]) h hh)
          · have : j = i := by omega
            subst this
            have h6 := pre_get h1 h0
            rw [hjd] at h6; injection h6 with h6; subst h6
            exact h4 h hh
        · rcases h3 n d hn with h5 | ⟨h, hh, h6⟩
          · have h6 := pre_get h1 (getD_at h5)
            rw [hn] at h6; injection h6 with h6
            rcases hB.par n d (by rw [getD_at h5, ← h6]) with h7 | ⟨m', p, h, h8, h9, h10, h11⟩
            · exact .inl h7
            · exact .inr ⟨m', p, h, h8, by omega, pre_get h1 h10, h11⟩
          · rcases Nat.lt_or_ge n l.length with h7 | h7
            · have h6' := pre_get h1 (getD_at h7)
              rw [hn] at h6'; injection h6' with h6'
              rcases hB.par n d (by rw [getD_at h7, ← h6']) with h8 | ⟨m', p, h', h8, h9, h10, h11⟩
              · exact .inl h8
              · exact .inr ⟨m', p, h', h8, by omega, pre_get h1 h10, h11⟩
            · exact .inr ⟨i, d0, h, by omega, by omega, pre_get h1 h0, hh, h6⟩
      have hl' : l.length ≤ l'.length := h1.length_le
      obtain ⟨lf, metf, e2, k1, k2, k3⟩ := deaths_run q0 by_ hb hq m (i + 1) l' met' h2 hB' (by omega) (by omega)
      refine ⟨lf, metf, ?_, k1, k2, h1.trans k3⟩
      have h5 := pre_get (h1.trans k3) h0
      have h6 : i < lf.length := (List.getElem?_eq_some_iff.1 h5).1
      rw [List.drop_eq_getElem_cons h6]
      have h7 : lf[i] = d0 := by rw [List.getElem?_eq_getElem h6] at h5; injection h5
      rw [h7]
      have e3 : ((i : Int) + 1) = ((i + 1 : Nat) : Int) := by omega
      rw [e3, e2]
    · rw [if_neg c]
      have hil : i = l.length := by omega
      subst hil
      exact ⟨l, met, by rw [List.drop_length], hd, hB, List.prefix_refl _⟩
/-- What deaths tells. -/
theorem deaths_law (q0 : List Int) (by_ : Int → List Hd) (hb : ByOk by_) (hq : q0.length ≤ 100) : ∃ met, Dv q0 by_ met (plan_deaths_m by_ q0) ∧ Bf q0 by_ (plan_deaths_m by_ q0).length (plan_deaths_m by_ q0) := by
  unfold plan_deaths_m plan_deaths_1_m
  obtain ⟨l, met, e, h1, h2, h3, h4⟩ := first_run q0 by_ q0 [] [] (fun k h => h) (Dv.nil _ _) (fun d h => by cases h)
  rw [e, LR.seq_go, List.append_nil]
  obtain ⟨lf, metf, e2, k1, k2, _⟩ := deaths_run q0 by_ hb hq 1001 0 l met h2 ⟨h4, fun j d hj => by omega, fun n d hn => .inl (h3 d (List.mem_of_getElem? hn))⟩ (by omega) (by omega)
  have e3 : plan_deaths_1_l2 by_ ((1000 - 0 : Int).toNat + 1) (0, l, met) = lf := e2
  rw [e3]
  exact ⟨metf, k1, k2⟩
theorem deaths_facts (by_ : Int → List Hd) (q0 : List Int) (r : List Dh) (e : r = plan_deaths_m by_ q0) (hb : ByOk by_) (hq : q0.length ≤ 100) : r.length ≤ 200 ∧ ∀ d ∈ r, d.2.length ≤ 200 := by
  subst e
  obtain ⟨met, h1, h2⟩ := deaths_law q0 by_ hb hq
  have h3 := h1.len hb hq
  exact ⟨h3, fun d hd => Nat.le_trans (h1.w d hd) h3⟩
end Go.SX

set_option linter.unusedVariables false
set_option linter.unusedSimpArgs false
namespace Go.SX
open Go Go.Proofs

def slices_IndexFunc_int_l1 (a1 : Int → Bool) : List Int → Nat → Unit → LR (Int) (Unit)
  | [], kl1, sl1 => .go ()
  | yl1 :: ysl1, kl1, sl1 => if (a1 yl1) = true then (.ret ((kl1 : Int))) else (slices_IndexFunc_int_l1 a1 ysl1 (kl1 + 1) ())
def slices_IndexFunc_int_m (a0 : List Int) (a1 : Int → Bool) : Int :=
  LR.on (slices_IndexFunc_int_l1 a1 a0 0 ()) (fun r => r) (fun ol1 => (-1))
set_option maxHeartbeats 3200000 in
theorem slices_IndexFunc_int_c (H : Heap) (va0 : Value) (a0 : List Int) (ha0 : RdS (intE .i64) H va0 a0) (fa1 : Value) (a1 : Int → Bool) (ha1 : ∀ H', HLe H H' → ∀ (z0 : Int), Fv Tryz.prog fa1 [.int .i64 z0] H' (.bool (a1 z0))) : Fv Tryz.prog (fnv 48) [va0, fa1] H (.int .i64 (slices_IndexFunc_int_m a0 a1)) := by
  refine Fc.of_body (N := 19) Tryz.func48 rfl (by kernel_rfl) rfl rfl ?_
  intro w0
  obtain ⟨Aa0, ca0, rfl, hca0, hda0, ha0⟩ := ha0.shape
  refine T.seq ?_
  refine T.region ?_
  refine R.asE rfl (by conv => lhs; whnf) ?_
  refine TL.nil (Post.thnN ?_)
  refine T.seq ?_
  refine T.seq ?_
  refine T.region ?_
  refine R.mvE rfl (by conv => lhs; whnf) ?_
  refine R.len Tryz.underlying30 rfl rfl ?_
  refine R.mvE rfl (by conv => lhs; whnf) ?_
  refine TL.nil (Post.thnN ?_)
  refine T.block ?_
  refine T.loop (ι := Nat) (fun kl1 H' L' ds' => kl1 ≤ a0.length ∧ Has L' [] ∧ slices_IndexFunc_int_l1 a1 (a0.drop kl1) kl1 () = slices_IndexFunc_int_l1 a1 a0 0 ()) (fun kl1 => [(8, .int .i64 (kl1 : Int)), (0, .slice Aa0 a0.length ca0), (1, fa1), (7, .int .i64 (a0.length : Int))]) (fun kl1 => a0.length - kl1) 0 ?_ ?_ ?_
  · exact ⟨(by omega), Has.nil, (by rfl)⟩
  · exact ⟨rfl, rfl, rfl, rfl, trivial⟩
  · intro kl1 σ_l1 H_l1 L_l1 ds_l1 s_l1 hI_l1
    obtain ⟨hkl1, hI_l1⟩ := hI_l1
    obtain ⟨hLl1, hQl1⟩ := hI_l1
    refine T.has hLl1 ?_
    refine T.seq ?_
    refine T.region ?_
    refine R.lss rfl rfl rfl ?_
    refine TL.nil (Post.thnN ?_)
    refine T.seq ?_
    refine T.condD rfl (fun c9 => ?_) (fun c9 => ?_)
    · have hltl1 : kl1 < a0.length := by omega
      obtain ⟨yl1, hyl1⟩ := getk (xs := a0) (k := kl1) (by omega)
      refine T.skip (Post.thnN ?_)
      refine T.seq ?_
      refine T.block ?_
      refine T.seq ?_
      refine T.region ?_
      refine R.mvE rfl (by conv => lhs; whnf) ?_
      refine R.asE rfl (by conv => lhs; whnf) ?_
      refine TL.nil (Post.thnN ?_)
      refine T.seq ?_
      refine T.region ?_
      refine R.mvE rfl (by conv => lhs; whnf) ?_
      refine R.mvE rfl (by conv => lhs; whnf) ?_
      refine R.mvE rfl (by conv => lhs; whnf) ?_
      obtain ⟨b14, o14, i14, k14⟩ := RdS.elem (ha0.mono s_l1) hyl1
      obtain ⟨l14, g14, k14⟩ := k14
      obtain rfl : l14 = [.int .i64 yl1] := g14
      refine R.ixp Tryz.underlying30 Tryz.sizeOf3 rfl rfl rfl (by omega) i14 ?_
      refine R.ldC Tryz.isAgg3 rfl rfl (k14 0 _ rfl) ?_
      refine R.callv rfl rfl rfl (ha1 _ s_l1 (yl1)) ?_
      refine TL.nil (Post.thnN ?_)
      refine T.cond rfl (fun c16 => ?_) (fun c16 => ?_)
      · refine T.set 16 (.bool true) (congrArg Value.bool c16) ?_
        refine T.seq ?_
        refine T.region ?_
        refine R.mvE rfl (by conv => lhs; whnf) ?_
        refine R.asE rfl (by conv => lhs; whnf) ?_
        refine TL.nil (Post.thnN ?_)
        refine T.has Has.nil ?_
        refine T.ret (Post.blkR (Post.thnR (Post.thnR (Post.blkR (Post.thnR ?_)))))
        have hXl1 : slices_IndexFunc_int_l1 a1 a0 0 () = .ret ((kl1 : Int)) := by rw [← hQl1, drop_cons hyl1, slices_IndexFunc_int_l1]; rw [if_t c16]
        have hM : slices_IndexFunc_int_m a0 a1 = (kl1 : Int) := by rw [slices_IndexFunc_int_m, hXl1, LR.on_ret]
        exact fin1L (v := .int .i64 (kl1 : Int)) [] rfl rfl (List.Sublist.refl _) ⟨rfl, by first | rw [hM] | rfl⟩
      · refine T.set 16 (.bool false) (congrArg Value.bool c16) ?_
        refine T.skip (Post.blkN ?_)
        refine id (Post.thnN ?_)
        refine T.region ?_
        refine R.addI rfl rfl rfl (by omega) ?_
        refine R.mvE rfl (by conv => lhs; whnf) ?_
        refine TL.nil (Post.thnN ?_)
        exact ⟨kl1 + 1, s_l1, ⟨(by omega), Has.nil, (by rw [← hQl1, drop_cons hyl1, slices_IndexFunc_int_l1]; rw [if_f c16])⟩, by show a0.length - (kl1 + 1) < a0.length - kl1; omega, rfl, rfl, rfl, rfl, trivial⟩
    · refine T.exit (Post.thnE (Post.thnE (Post.blkX ?_)))
      have hEl1 : slices_IndexFunc_int_l1 a1 a0 0 () = .go () := (hQl1.symm.trans (by rw [show kl1 = a0.length by omega, List.drop_length, slices_IndexFunc_int_l1]))
      refine id (Post.thnN ?_)
      refine T.seq ?_
      refine T.region ?_
      refine R.asE rfl (by conv => lhs; whnf) ?_
      refine TL.nil (Post.thnN ?_)
      refine T.has Has.nil ?_
      refine T.ret ?_
      have hM : slices_IndexFunc_int_m a0 a1 = (-1) := by rw [slices_IndexFunc_int_m, hEl1, LR.on_go]
      exact fin1L (v := .int .i64 (-1)) [] rfl rfl (List.Sublist.refl _) ⟨rfl, by first | rw [hM] | rfl⟩

def slices_ContainsFunc_int_m (a0 : List Int) (a1 : Int → Bool) : Bool :=
  (decide ((0 : Int) ≤ (slices_IndexFunc_int_m a0 a1)))
set_option maxHeartbeats 3200000 in
theorem slices_ContainsFunc_int_c (H : Heap) (va0 : Value) (a0 : List Int) (ha0 : RdS (intE .i64) H va0 a0) (fa1 : Value) (a1 : Int → Bool) (ha1 : ∀ H', HLe H H' → ∀ (z0 : Int), Fv Tryz.prog fa1 [.int .i64 z0] H' (.bool (a1 z0))) : Fv Tryz.prog (fnv 13) [va0, fa1] H (.bool (slices_ContainsFunc_int_m a0 a1)) := by
  refine Fc.of_body (N := 9) Tryz.func13 rfl (by kernel_rfl) rfl rfl ?_
  intro w0
  obtain ⟨Aa0, ca0, rfl, hca0, hda0, ha0⟩ := ha0.shape
  refine T.seq ?_
  refine T.region ?_
  refine R.asE rfl (by conv => lhs; whnf) ?_
  refine TL.nil (Post.thnN ?_)
  refine T.seq ?_
  refine T.region ?_
  refine R.mvE rfl (by conv => lhs; whnf) ?_
  refine R.mvE rfl (by conv => lhs; whnf) ?_
  refine R.callv rfl rfl rfl (slices_IndexFunc_int_c _ _ a0 ha0 _ a1 (fun H' h' => ha1 H' ((HLe.refl _).trans h'))) ?_
  refine R.geq rfl rfl rfl ?_
  refine R.asE rfl (by conv => lhs; whnf) ?_
  refine TL.nil (Post.thnN ?_)
  refine T.has Has.nil ?_
  refine T.ret ?_
  have hM : slices_ContainsFunc_int_m a0 a1 = (decide ((0 : Int) ≤ (slices_IndexFunc_int_m a0 a1))) := by rw [slices_ContainsFunc_int_m]
  exact fin1L (v := .bool (decide ((0 : Int) ≤ (slices_IndexFunc_int_m a0 a1)))) [] rfl rfl (List.Sublist.refl _) ⟨rfl, by first | rw [hM] | rfl⟩

def slices_IndexFunc_mention_l1 (a1 : (Int × Int) → Bool) : List (Int × Int) → Nat → Unit → LR (Int) (Unit)
  | [], kl1, sl1 => .go ()
  | yl1 :: ysl1, kl1, sl1 => if (a1 yl1) = true then (.ret ((kl1 : Int))) else (slices_IndexFunc_mention_l1 a1 ysl1 (kl1 + 1) ())
def slices_IndexFunc_mention_m (a0 : List (Int × Int)) (a1 : (Int × Int) → Bool) : Int :=
  LR.on (slices_IndexFunc_mention_l1 a1 a0 0 ()) (fun r => r) (fun ol1 => (-1))
set_option maxHeartbeats 3200000 in
theorem slices_IndexFunc_mention_c (H : Heap) (va0 : Value) (a0 : List (Int × Int)) (ha0 : RdS pairE H va0 a0) (fa1 : Value) (a1 : (Int × Int) → Bool) (ha1 : ∀ H', HLe H H' → ∀ (z0 : Int × Int), Fv Tryz.prog fa1 [.agg #[.int .i64 z0.1, .int .i64 z0.2]] H' (.bool (a1 z0))) : Fv Tryz.prog (fnv 83) [va0, fa1] H (.int .i64 (slices_IndexFunc_mention_m a0 a1)) := by
  refine Fc.of_body (N := 19) Tryz.func83 rfl (by kernel_rfl) rfl rfl ?_
  intro w0
  obtain ⟨Aa0, ca0, rfl, hca0, hda0, ha0⟩ := ha0.shape
  refine T.seq ?_
  refine T.region ?_
  refine R.asE rfl (by conv => lhs; whnf) ?_
  refine TL.nil (Post.thnN ?_)
  refine T.seq ?_
  refine T.seq ?_
  refine T.region ?_
  refine R.mvE rfl (by conv => lhs; whnf) ?_
  refine R.len Tryz.underlying81 rfl rfl ?_
  refine R.mvE rfl (by conv => lhs; whnf) ?_
  refine TL.nil (Post.thnN ?_)
  refine T.block ?_
  refine T.loop (ι := Nat) (fun kl1 H' L' ds' => kl1 ≤ a0.length ∧ Has L' [] ∧ slices_IndexFunc_mention_l1 a1 (a0.drop kl1) kl1 () = slices_IndexFunc_mention_l1 a1 a0 0 ()) (fun kl1 => [(8, .int .i64 (kl1 : Int)), (0, .slice Aa0 a0.length ca0), (1, fa1), (7, .int .i64 (a0.length : Int))]) (fun kl1 => a0.length - kl1) 0 ?_ ?_ ?_
  · exact ⟨(by omega), Has.nil, (by rfl)⟩
  · exact ⟨rfl, rfl, rfl, rfl, trivial⟩
  · intro kl1 σ_l1 H_l1 L_l1 ds_l1 s_l1 hI_l1
    obtain ⟨hkl1, hI_l1⟩ := hI_l1
    obtain ⟨hLl1, hQl1⟩ := hI_l1
    refine T.has hLl1 ?_
    refine T.seq ?_
    refine T.region ?_
    refine R.lss rfl rfl rfl ?_
    refine TL.nil (Post.thnN ?_)
    refine T.seq ?_
    refine T.condD rfl (fun c9 => ?_) (fun c9 => ?_)
    · have hltl1 : kl1 < a0.length := by omega
      obtain ⟨yl1, hyl1⟩ := getk (xs := a0) (k := kl1) (by omega)
      refine T.skip (Post.thnN ?_)
      refine T.seq ?_
      refine T.block ?_
      refine T.seq ?_
      refine T.region ?_
      refine R.mvE rfl (by conv => lhs; whnf) ?_
      refine R.asE rfl (by conv => lhs; whnf) ?_
      refine TL.nil (Post.thnN ?_)
      refine T.seq ?_
      refine T.region ?_
      refine R.mvE rfl (by conv => lhs; whnf) ?_
      refine R.mvE rfl (by conv => lhs; whnf) ?_
      refine R.mvE rfl (by conv => lhs; whnf) ?_
      obtain ⟨b14, o14, i14, k14⟩ := RdS.elem (ha0.mono s_l1) hyl1
      obtain ⟨l14, g14, k14⟩ := k14
      obtain rfl : l14 = [.int .i64 (yl1.1), .int .i64 (yl1.2)] := g14
      refine R.ixp Tryz.underlying81 Tryz.sizeOf84 rfl rfl rfl (by omega) i14 ?_
      refine R.ldK (l := [.int .i64 (yl1.1), .int .i64 (yl1.2)]) Tryz.isAgg84 Tryz.sizeOf84 rfl rfl k14 rfl ?_
      refine R.callv rfl rfl rfl (ha1 _ s_l1 yl1) ?_
      refine TL.nil (Post.thnN ?_)
      refine T.cond rfl (fun c16 => ?_) (fun c16 => ?_)
      · refine T.set 16 (.bool true) (congrArg Value.bool c16) ?_
        refine T.seq ?_
        refine T.region ?_
        refine R.mvE rfl (by conv => lhs; whnf) ?_
        refine R.asE rfl (by conv => lhs; whnf) ?_
        refine TL.nil (Post.thnN ?_)
        refine T.has Has.nil ?_
        refine T.ret (Post.blkR (Post.thnR (Post.thnR (Post.blkR (Post.thnR ?_)))))
        have hXl1 : slices_IndexFunc_mention_l1 a1 a0 0 () = .ret ((kl1 : Int)) := by rw [← hQl1, drop_cons hyl1, slices_IndexFunc_mention_l1]; rw [if_t c16]
        have hM : slices_IndexFunc_mention_m a0 a1 = (kl1 : Int) := by rw [slices_IndexFunc_mention_m, hXl1, LR.on_ret]
        exact fin1L (v := .int .i64 (kl1 : Int)) [] rfl rfl (List.Sublist.refl _) ⟨rfl, by first | rw [hM] | rfl⟩
      · refine T.set 16 (.bool false) (congrArg Value.bool c16) ?_
        refine T.skip (Post.blkN ?_)
        refine id (Post.thnN ?_)
        refine T.region ?_
        refine R.addI rfl rfl rfl (by omega) ?_
        refine R.mvE rfl (by conv => lhs; whnf) ?_
        refine TL.nil (Post.thnN ?_)
        exact ⟨kl1 + 1, s_l1, ⟨(by omega), Has.nil, (by rw [← hQl1, drop_cons hyl1, slices_IndexFunc_mention_l1]; rw [if_f c16])⟩, by show a0.length - (kl1 + 1) < a0.length - kl1; omega, rfl, rfl, rfl, rfl, trivial⟩
    · refine T.exit (Post.thnE (Post.thnE (Post.blkX ?_)))
      have hEl1 : slices_IndexFunc_mention_l1 a1 a0 0 () = .go () := (hQl1.symm.trans (by rw [show kl1 = a0.length by omega, List.drop_length, slices_IndexFunc_mention_l1]))
      refine id (Post.thnN ?_)
      refine T.seq ?_
      refine T.region ?_
      refine R.asE rfl (by conv => lhs; whnf) ?_
      refine TL.nil (Post.thnN ?_)
      refine T.has Has.nil ?_
      refine T.ret ?_
      have hM : slices_IndexFunc_mention_m a0 a1 = (-1) := by rw [slices_IndexFunc_mention_m, hEl1, LR.on_go]
      exact fin1L (v := .int .i64 (-1)) [] rfl rfl (List.Sublist.refl _) ⟨rfl, by first | rw [hM] | rfl⟩

def slices_ContainsFunc_mention_m (a0 : List (Int × Int)) (a1 : (Int × Int) → Bool) : Bool :=
  (decide ((0 : Int) ≤ (slices_IndexFunc_mention_m a0 a1)))
set_option maxHeartbeats 3200000 in
theorem slices_ContainsFunc_mention_c (H : Heap) (va0 : Value) (a0 : List (Int × Int)) (ha0 : RdS pairE H va0 a0) (fa1 : Value) (a1 : (Int × Int) → Bool) (ha1 : ∀ H', HLe H H' → ∀ (z0 : Int × Int), Fv Tryz.prog fa1 [.agg #[.int .i64 z0.1, .int .i64 z0.2]] H' (.bool (a1 z0))) : Fv Tryz.prog (fnv 41) [va0, fa1] H (.bool (slices_ContainsFunc_mention_m a0 a1)) := by
  refine Fc.of_body (N := 9) Tryz.func41 rfl (by kernel_rfl) rfl rfl ?_
  intro w0
  obtain ⟨Aa0, ca0, rfl, hca0, hda0, ha0⟩ := ha0.shape
  refine T.seq ?_
  refine T.region ?_
  refine R.asE rfl (by conv => lhs; whnf) ?_
  refine TL.nil (Post.thnN ?_)
  refine T.seq ?_
  refine T.region ?_
  refine R.mvE rfl (by conv => lhs; whnf) ?_
  refine R.mvE rfl (by conv => lhs; whnf) ?_
  refine R.callv rfl rfl rfl (slices_IndexFunc_mention_c _ _ a0 ha0 _ a1 (fun H' h' => ha1 H' ((HLe.refl _).trans h'))) ?_
  refine R.geq rfl rfl rfl ?_
  refine R.asE rfl (by conv => lhs; whnf) ?_
  refine TL.nil (Post.thnN ?_)
  refine T.has Has.nil ?_
  refine T.ret ?_
  have hM : slices_ContainsFunc_mention_m a0 a1 = (decide ((0 : Int) ≤ (slices_IndexFunc_mention_m a0 a1))) := by rw [slices_ContainsFunc_mention_m]
  exact fin1L (v := .bool (decide ((0 : Int) ≤ (slices_IndexFunc_mention_m a0 a1)))) [] rfl rfl (List.Sublist.refl _) ⟨rfl, by first | rw [hM] | rfl⟩

def plan_Of_1_m (a0 : Int) : Bool :=
  (!(plan_index_m a0))
set_option maxHeartbeats 3200000 in
theorem plan_Of_1_c (H : Heap) (a0 : Int) : Fv Tryz.prog (fnv 35) [.int .i64 a0] H (.bool (plan_Of_1_m a0)) := by
  refine Fc.of_body (N := 6) Tryz.func35 rfl (by kernel_rfl) rfl rfl ?_
  intro w0
  refine T.seq ?_
  refine T.region ?_
  refine R.asE rfl (by conv => lhs; whnf) ?_
  refine TL.nil (Post.thnN ?_)
  refine T.seq ?_
  refine T.region ?_
  refine R.mvE rfl (by conv => lhs; whnf) ?_
  refine R.callv rfl rfl rfl (plan_index_c _ (a0)) ?_
  refine R.not rfl rfl ?_
  refine R.asE rfl (by conv => lhs; whnf) ?_
  refine TL.nil (Post.thnN ?_)
  refine T.has Has.nil ?_
  refine T.ret ?_
  have hM : plan_Of_1_m a0 = (!(plan_index_m a0)) := by rw [plan_Of_1_m]
  exact fin1L (v := .bool ((!(plan_index_m a0)))) [] rfl rfl (List.Sublist.refl _) ⟨rfl, by first | rw [hM] | rfl⟩

def plan_Of_2_2_1_m (q0 : List (Int × Bool)) (q1 : Int) (a0 : Int × Int) : Bool :=
  if ((mlk q0 a0.1).getD false) = true then ((decide (a0.2 = q1))) else false
set_option maxHeartbeats 3200000 in
theorem plan_Of_2_2_1_c (H : Heap) (b1000 : Nat) (mq0 : Nat) (q0 : List (Int × Bool)) (hq0 : MpR .i64 (fun z : Bool => Value.bool z) H mq0 q0) (hb0 : H b1000 = some (.cells #[.map (some mq0)] 71)) (b1001 : Nat) (q1 : Int) (hb1 : H b1001 = some (.cells #[.int .i64 q1] 3)) (a0 : Int × Int) : Fv Tryz.prog (.func (.func 42) #[] ([.pointer (some ⟨b1000, 0, none⟩), .pointer (some ⟨b1001, 0, none⟩)] : List Value).toArray) [.agg #[.int .i64 a0.1, .int .i64 a0.2]] H (.bool (plan_Of_2_2_1_m q0 q1 a0)) := by
  refine Fc.of_body (N := 15) Tryz.func42 rfl (by kernel_rfl) rfl rfl ?_
  intro w0
  refine T.seq ?_
  refine T.region ?_
  refine R.box rfl (by conv => lhs; whnf) ?_
  intro b3
  refine R.asE rfl (by conv => lhs; whnf) ?_
  refine TL.shut .hd ?_
  intro Hb3_1 sb3_1 qb3_1
  have hb3_1 : Hb3_1 b3 = some (.cells #[.int .i64 (a0.1), .int .i64 (a0.2)] 84) := shut1 qb3_1
  refine TL.nil (Post.thnN ?_)
  refine T.seq ?_
  refine T.region ?_
  refine R.ldH Tryz.isAgg71 rfl rfl (sb3_1 _ _ hb0) rfl ?_
  refine R.fldA Tryz.underlying84 rfl Tryz.sizeOf3 (by decide) rfl rfl ?_
  refine R.ldH Tryz.isAgg3 rfl rfl hb3_1 rfl ?_
  refine R.lkuVH (f := (fun z : Bool => Value.bool z)) (z0 := false) Tryz.underlying71 Tryz.underlying3 Tryz.zeroValue4 rfl rfl rfl rfl (hq0.mono sb3_1) ?_
  refine R.mvE rfl (by conv => lhs; whnf) ?_
  refine TL.gsplit 9 rfl (fun g9 => ?_) (fun g9 => ?_)
  · refine R.fldA Tryz.underlying84 rfl Tryz.sizeOf3 (by decide) rfl rfl ?_
    refine R.ldH Tryz.isAgg3 rfl rfl hb3_1 rfl ?_
    refine R.ldH Tryz.isAgg3 rfl rfl (sb3_1 _ _ hb1) rfl ?_
    refine R.eql rfl rfl rfl ?_
    refine R.pkTE rfl rfl (by conv => lhs; whnf) ?_
    refine R.asE rfl (by conv => lhs; whnf) ?_
    refine TL.nil (Post.thnN ?_)
    refine T.has Has.nil ?_
    refine T.ret ?_
    have hM : plan_Of_2_2_1_m q0 q1 a0 = (decide (a0.2 = q1)) := by rw [plan_Of_2_2_1_m, if_t g9]
    exact fin1L (v := .bool (decide (a0.2 = q1))) [] rfl rfl (List.Sublist.refl _) ⟨rfl, by first | rw [hM] | rfl⟩
  · refine TL.off rfl rfl rfl ?_
    refine TL.off rfl rfl rfl ?_
    refine TL.off rfl rfl rfl ?_
    refine TL.off rfl rfl rfl ?_
    refine R.pkFE rfl rfl (by conv => lhs; whnf) ?_
    refine R.asE rfl (by conv => lhs; whnf) ?_
    refine TL.nil (Post.thnN ?_)
    refine T.has Has.nil ?_
    refine T.ret ?_
    have hM : plan_Of_2_2_1_m q0 q1 a0 = false := by rw [plan_Of_2_2_1_m, if_f g9]
    exact fin1L (v := .bool false) [] rfl rfl (List.Sublist.refl _) ⟨rfl, by first | rw [hM] | rfl⟩

def plan_Of_2_m (q0 : List (Int × Int)) (q1 : List (Int × Bool)) (a0 : Int) : Bool :=
  LR.seq (slices_ContainsFunc_mention_m q0 ((fun z0 => plan_Of_2_2_1_m q1 a0 z0))) (fun r7 => r7)
set_option maxHeartbeats 3200000 in
theorem plan_Of_2_c (H : Heap) (b1000 : Nat) (vq0 : Value) (q0 : List (Int × Int)) (hq0 : RdS pairE H vq0 q0) (hb0 : H b1000 = some (.cells #[vq0] 81)) (b1001 : Nat) (mq1 : Nat) (q1 : List (Int × Bool)) (hq1 : MpR .i64 (fun z : Bool => Value.bool z) H mq1 q1) (hb1 : H b1001 = some (.cells #[.map (some mq1)] 71)) (a0 : Int) : Fv Tryz.prog (.func (.func 40) #[] ([.pointer (some ⟨b1000, 0, none⟩), .pointer (some ⟨b1001, 0, none⟩)] : List Value).toArray) [.int .i64 a0] H (.bool (plan_Of_2_m q0 q1 a0)) := by
  refine Fc.of_body (N := 8) Tryz.func40 rfl (by kernel_rfl) rfl rfl ?_
  intro w0
  obtain ⟨Aq0, cq0, rfl, hcq0, hdq0, hq0⟩ := hq0.shape
  refine T.seq ?_
  refine T.region ?_
  refine R.box rfl (by conv => lhs; whnf) ?_
  intro b3
  refine R.asE rfl (by conv => lhs; whnf) ?_
  refine TL.shut .hd ?_
  intro Hb3_1 sb3_1 qb3_1
  have hb3_1 : Hb3_1 b3 = some (.cells #[.int .i64 a0] 3) := shut1 qb3_1
  refine TL.nil (Post.thnN ?_)
  refine T.seq ?_
  refine T.region ?_
  refine R.ldH Tryz.isAgg81 rfl rfl (sb3_1 _ _ hb0) rfl ?_
  refine R.mkf (cs := [_, _]) rfl rfl ?_
  obtain ⟨r7, er7⟩ : ∃ r, r = (slices_ContainsFunc_mention_m q0 ((fun z0 => plan_Of_2_2_1_m q1 a0 z0))) := ⟨_, rfl⟩
  refine R.callv (v := .bool r7) rfl rfl rfl (by rw [er7]; exact slices_ContainsFunc_mention_c _ _ q0 (hq0.mono sb3_1) _ (fun z0 => plan_Of_2_2_1_m q1 a0 z0) (fun H2 h2 z0 => plan_Of_2_2_1_c H2 b1001 _ q1 ((hq1.mono sb3_1).mono h2) (h2 _ _ (sb3_1 _ _ hb1)) b3 (a0) (h2 _ _ hb3_1) z0)) ?_
  refine R.asE rfl (by conv => lhs; whnf) ?_
  refine TL.nil (Post.thnN ?_)
  refine T.has Has.nil ?_
  refine T.ret ?_
  have hM : plan_Of_2_m q0 q1 a0 = r7 := by subst er7; rw [plan_Of_2_m, LR.seq_go]
  exact fin1L (v := .bool (r7)) [] rfl rfl (List.Sublist.refl _) ⟨rfl, by first | rw [hM] | rfl⟩

def plan_Of_r2 (xM26r1 : List (Int × Bool)) : List ((Int × Int) × (List (Int × Int))) → ((List Int) × (List (Int × Int)) × (List (Int × Int))) → (List Int) × (List (Int × Int)) × (List (Int × Int))
  | [], sr2 => sr2
  | yr2 :: ysr2, sr2 => if ((mlk xM26r1 yr2.1.1).getD false) = true then (plan_Of_r2 xM26r1 ysr2 ((sr2.1, sr2.2.1, sr2.2.2))) else (LR.seq (if (plan_Of_2_m yr2.2 xM26r1 2) = true then ((sr2.1, sr2.2.1, (sr2.2.2 ++ [yr2.1]))) else ((sr2.1, sr2.2.1, sr2.2.2)) : (List Int) × (List (Int × Int)) × (List (Int × Int))) (fun sc3 => LR.seq (if (plan_Of_2_m yr2.2 xM26r1 2) = true then true else ((plan_Of_2_m yr2.2 xM26r1 0)) : Bool) (fun sc4 => if sc4 = true then (plan_Of_r2 xM26r1 ysr2 ((sc3.1, (sc3.2.1 ++ [yr2.1]), sc3.2.2))) else (plan_Of_r2 xM26r1 ysr2 ((sc3.1, sc3.2.1, sc3.2.2))))))
def plan_Of_r1  : List (Int × (List (Int × Int))) → ((List (Int × Bool)) × (List Int) × (List (Int × Int)) × (List (Int × Int))) → (List (Int × Bool)) × (List Int) × (List (Int × Int)) × (List (Int × Int))
  | [], sr1 => sr1
  | yr1 :: ysr1, sr1 => plan_Of_r1 ysr1 (((mpu sr1.1 yr1.1 true), (sr1.2.1 ++ [yr1.1]), sr1.2.2.1, sr1.2.2.2))
def plan_Of_m (a0 : List (Int × (Bool × Bool × Int × Int × Int))) (a1 : List (Int × Int)) (a2 : List Int) : ((List Int) × (List (Int × Int)) × (List (Int × Int))) × Int :=
  if ((plan_Check_m a0 a1) : Int) ≠ 0 then (((([], [], []) : (List Int) × (List (Int × Int)) × (List (Int × Int))), (plan_Check_m a0 a1))) else (if (slices_ContainsFunc_int_m a2 ((fun z0 => plan_Of_1_m z0))) = true then (((([], [], []) : (List Int) × (List (Int × Int)) × (List (Int × Int))), 2)) else (LR.seq (plan_killers_m a0 a1) (fun r29 => LR.seq (plan_deaths_m r29 a2) (fun r31 => LR.seq (plan_Of_r1 r31 ((([] : List (Int × Bool)), [], [], []))) (fun or1 => LR.seq (plan_mentions_m a0 a1) (fun r47 => LR.seq (plan_Of_r2 or1.1 r47 (((sortI or1.2.1), or1.2.2.1, or1.2.2.2))) (fun or2 => ((or2.1, or2.2.1, or2.2.2), 0))))))))
set_option maxHeartbeats 3200000 in
theorem plan_Of_c (H : Heap) {tG0 : TypeId} (hG0 : H 0 = some (.cells #[.int .i64 1, .bool true, .bool true, .int .i64 0, .int .i64 1, .int .i64 2, .int .i64 2, .bool true, .bool false, .int .i64 0, .int .i64 0, .int .i64 2] tG0)) (va0 : Value) (a0 : List (Int × (Bool × Bool × Int × Int × Int))) (ha0 : RdS relationE H va0 a0) (va1 : Value) (a1 : List (Int × Int)) (ha1 : RdS heldE H va1 a1) (va2 : Value) (a2 : List Int) (ha2 : RdS (intE .i64) H va2 a2) (hl : a0.length ≤ 2000000) (hh : a1.length ≤ 100) (hf : a2.length ≤ 100) : Fc Tryz.prog (fnv 9) [va0, va1, va2] H [] (fun v' H' L' => ∃ u0_0 u0_1 u0_2 c0_0 c0_1 c0_2, v' = .tuple #[.agg #[u0_0, u0_1, u0_2], .int .i64 (plan_Of_m a0 a1 a2).2] ∧ L' = [c0_0, c0_1, c0_2] ∧ OwnS (intE .i64) 3 H' u0_0 (plan_Of_m a0 a1 a2).1.1 c0_0 ∧ OwnS heldE 50 H' u0_1 (plan_Of_m a0 a1 a2).1.2.1 c0_1 ∧ OwnS heldE 50 H' u0_2 (plan_Of_m a0 a1 a2).1.2.2 c0_2) := by
  refine Fc.of_body (N := 76) Tryz.func9 rfl (by kernel_rfl) rfl rfl ?_
  intro w0
  obtain ⟨Aa0, ca0, rfl, hca0, hda0, ha0⟩ := ha0.shape
  obtain ⟨Aa1, ca1, rfl, hca1, hda1, ha1⟩ := ha1.shape
  obtain ⟨Aa2, ca2, rfl, hca2, hda2, ha2⟩ := ha2.shape
  refine T.seq ?_
  refine T.region ?_
  refine R.alloc Tryz.zeroValue33 rfl ?_
  intro b6
  refine R.asE rfl (by conv => lhs; whnf) ?_
  refine TL.nil (Post.thnN ?_)
  refine T.seq ?_
  refine T.seq ?_
  refine T.region ?_
  refine R.mvE rfl (by conv => lhs; whnf) ?_
  refine R.mvE rfl (by conv => lhs; whnf) ?_
  refine R.callv rfl rfl rfl (plan_Check_c _ hG0 _ a0 ha0 _ a1 ha1 (by first | omega | (simp; done) | (simp; omega) | (simp at *; omega))) ?_
  refine R.asE rfl (by conv => lhs; whnf) ?_
  refine TL.nil (Post.thnN ?_)
  refine T.seq ?_
  refine T.region ?_
  refine R.mvE rfl (by conv => lhs; whnf) ?_
  refine R.neq rfl rfl rfl ?_
  refine TL.nil (Post.thnN ?_)
  refine T.condD rfl (fun c20 => ?_) (fun c20 => ?_)
  · refine T.set 20 (.bool true) (congrArg Value.bool (decide_eq_true c20)) ?_
    refine T.seq ?_
    refine T.region ?_
    refine R.bld (cs := [.slice none 0 0, .slice none 0 0, .slice none 0 0]) rfl (fun _ => by kernel_rfl) ?_
    refine R.mvE rfl (by conv => lhs; whnf) ?_
    refine R.stX (old := [.slice none 0 0, .slice none 0 0, .slice none 0 0]) (l := [.slice none 0 0, .slice none 0 0, .slice none 0 0]) (new := [.slice none 0 0, .slice none 0 0, .slice none 0 0]) (et := 33) Tryz.sizeOf33 rfl rfl rfl rfl rfl (by show 0 + 3 ≤ 3; decide) rfl (all_one rfl) .hd ?_
    refine R.asE rfl (by conv => lhs; whnf) ?_
    refine TL.nil (Post.thnN ?_)
    refine T.has (Has.none (Has.none (Has.none (Has.cons .hd Has.nil)))) ?_
    refine T.ret (Post.thnR ?_)
    have hM : plan_Of_m a0 a1 a2 = ((([], [], []) : (List Int) × (List (Int × Int)) × (List (Int × Int))), (plan_Check_m a0 a1)) := by rw [plan_Of_m, if_pos c20]
    exact finR2 (v := .agg #[.slice none 0 0, .slice none 0 0, .slice none 0 0]) (v' := .int .i64 (plan_Check_m a0 a1)) [[], [], []] rfl (.cellA (cs := [.slice none 0 0, .slice none 0 0, .slice none 0 0]) (l := [.slice none 0 0, .slice none 0 0, .slice none 0 0]) Tryz.isAgg33 Tryz.sizeOf33 rfl (.tl (.tl (.tl .hd))) rfl rfl) (.tmp rfl) (List.sublist_append_left ([[], [], []] : Own) _) ⟨.slice none 0 0, .slice none 0 0, .slice none 0 0, [], [], [], by first | rw [hM] | rfl, rfl, by rw [hM]; exact OwnS.nil, by rw [hM]; exact OwnS.nil, by rw [hM]; exact OwnS.nil⟩
  · refine T.set 20 (.bool false) (congrArg Value.bool (decide_eq_false c20)) ?_
    refine T.skip (Post.thnN ?_)
    refine T.seq ?_
    refine T.seq ?_
    refine T.region ?_
    refine R.mvE rfl (by conv => lhs; whnf) ?_
    refine R.callv rfl rfl rfl (slices_ContainsFunc_int_c _ _ a2 ha2 _ (fun z0 => plan_Of_1_m z0) (fun H2 h2 z0 => plan_Of_1_c H2 z0)) ?_
    refine TL.nil (Post.thnN ?_)
    refine T.cond rfl (fun c24 => ?_) (fun c24 => ?_)
    · refine T.set 24 (.bool true) (congrArg Value.bool c24) ?_
      refine T.seq ?_
      refine T.region ?_
      refine R.bld (cs := [.slice none 0 0, .slice none 0 0, .slice none 0 0]) rfl (fun _ => by kernel_rfl) ?_
      refine R.stX (old := [.slice none 0 0, .slice none 0 0, .slice none 0 0]) (l := [.slice none 0 0, .slice none 0 0, .slice none 0 0]) (new := [.slice none 0 0, .slice none 0 0, .slice none 0 0]) (et := 33) Tryz.sizeOf33 rfl rfl rfl rfl rfl (by show 0 + 3 ≤ 3; decide) rfl (all_one rfl) .hd ?_
      refine R.asE rfl (by conv => lhs; whnf) ?_
      refine TL.nil (Post.thnN ?_)
      refine T.has (Has.none (Has.none (Has.none (Has.cons .hd Has.nil)))) ?_
      refine T.ret (Post.thnR ?_)
      have hM : plan_Of_m a0 a1 a2 = ((([], [], []) : (List Int) × (List (Int × Int)) × (List (Int × Int))), 2) := by rw [plan_Of_m, if_neg c20, if_t c24]
      exact finR2 (v := .agg #[.slice none 0 0, .slice none 0 0, .slice none 0 0]) (v' := .int .i64 2) [[], [], []] rfl (.cellA (cs := [.slice none 0 0, .slice none 0 0, .slice none 0 0]) (l := [.slice none 0 0, .slice none 0 0, .slice none 0 0]) Tryz.isAgg33 Tryz.sizeOf33 rfl (.tl (.tl (.tl .hd))) rfl rfl) (.tmp rfl) (List.sublist_append_left ([[], [], []] : Own) _) ⟨.slice none 0 0, .slice none 0 0, .slice none 0 0, [], [], [], by first | rw [hM] | rfl, rfl, by rw [hM]; exact OwnS.nil, by rw [hM]; exact OwnS.nil, by rw [hM]; exact OwnS.nil⟩
    · refine T.set 24 (.bool false) (congrArg Value.bool c24) ?_
      refine T.skip (Post.thnN ?_)
      refine T.seq ?_
      refine T.region ?_
      refine R.alloc Tryz.zeroValue33 rfl ?_
      intro b9
      refine TL.nil (Post.thnN ?_)
      refine T.seq ?_
      refine T.region ?_
      refine R.mkmV .i64 (fun z : Bool => Value.bool z) rfl ?_
      intro b26 w26
      refine R.alloc Tryz.zeroValue71 rfl ?_
      intro b10
      refine R.stX (old := [.map none]) (l := [.map (some b26)]) (new := [.map (some b26)]) (et := 71) Tryz.sizeOf71 rfl rfl rfl (cells1 rfl) rfl (by show 0 + 1 ≤ 1; decide) rfl (all_one rfl) .hd ?_
      refine TL.shut .hd ?_
      intro Hb10_1 sb10_1 qb10_1
      have hb10_1 : Hb10_1 b10 = some (.cells #[.map (some b26)] 71) := shut1 qb10_1
      refine TL.nil (Post.thnN ?_)
      refine T.seq ?_
      refine T.seq ?_
      refine T.region ?_
      refine R.mvE rfl (by conv => lhs; whnf) ?_
      refine R.mvE rfl (by conv => lhs; whnf) ?_
      obtain ⟨r29, er29⟩ : ∃ r, r = (plan_killers_m a0 a1) := ⟨_, rfl⟩
      refine R.callp rfl rfl rfl (plan_killers_c _ (sb10_1 _ _ hG0) _ a0 (ha0.mono sb10_1) _ a1 (ha1.mono sb10_1) (by first | omega | (simp; done) | (simp; omega) | (simp at *; omega)) (by first | omega | (simp; done) | (simp; omega) | (simp at *; omega))) ?_
      intro v29 H29 s29 q29
      rw [← er29] at q29
      obtain ⟨u29_0_0, rfl, w29_0_0⟩ := q29
      have hby29 : ByOk r29 := kill_by _ _ _ er29 (by first | omega | (simp; done) | (simp; omega) | (simp at *; omega))
      refine R.mvE rfl (by conv => lhs; whnf) ?_
      obtain ⟨r31, er31⟩ : ∃ r, r = (plan_deaths_m r29 a2) := ⟨_, rfl⟩
      refine R.callp rfl rfl rfl (plan_deaths_c _ _ r29 w29_0_0 _ a2 (ha2.mono (sb10_1.trans s29)) (by first | omega | (simp; done) | (simp; omega) | (simp at *; omega)) (by first | omega | (simp; done) | (simp; omega) | (simp at *; omega))) ?_
      intro v31 H31 s31 q31
      rw [← er31] at q31
      obtain ⟨u31_0_0, rfl, w31_0_0⟩ := q31
      have td31 := deaths_facts _ _ _ er31 (by assumption) (by first | omega | (simp; done) | (simp; omega) | (simp at *; omega))
      refine TL.nil (Post.thnN ?_)
      refine T.block ?_
      refine T.rangeFunc (xs := r31) rfl rfl (enters_of Tryz.func76 (by kernel_rfl) rfl) w31_0_0 (fun _ _ _ h => by obtain ⟨_, rfl, _⟩ := h; rfl) rfl (fun pre H' L' => ∃ (xM26r1 : List (Int × Bool)) (esM26r1 : Array MapEntry) (clM26r1 : Nat) (vb9r1_0 : Value) (xb9r1_0 : List Int) (cb9r1_0 : Chunk) (vb9r1_1 : Value) (xb9r1_1 : List (Int × Int)) (cb9r1_1 : Chunk) (vb9r1_2 : Value) (xb9r1_2 : List (Int × Int)) (cb9r1_2 : Chunk), Has L' [[(b26, .map esM26r1 clM26r1)], [(b9, .cells #[vb9r1_0, vb9r1_1, vb9r1_2] 33)], [(b6, .cells #[.slice none 0 0, .slice none 0 0, .slice none 0 0] 33)], cb9r1_0, cb9r1_1, cb9r1_2] ∧ MapV .i64 (fun z : Bool => Value.bool z) esM26r1 xM26r1 ∧ OwnS (intE .i64) 3 H' vb9r1_0 xb9r1_0 cb9r1_0 ∧ OwnS heldE 50 H' vb9r1_1 xb9r1_1 cb9r1_1 ∧ OwnS heldE 50 H' vb9r1_2 xb9r1_2 cb9r1_2 ∧ xb9r1_0.length = pre.length ∧ xb9r1_1.length = 0 ∧ xb9r1_2.length = 0 ∧ plan_Of_r1 (r31.drop pre.length) ((xM26r1, xb9r1_0, xb9r1_1, xb9r1_2)) = plan_Of_r1 r31 ((([] : List (Int × Bool)), [], [], []))) (fun _ _ _ _ => False) (fun pre H H' L hle ⟨xM26r1, esM26r1, clM26r1, vb9r1_0, xb9r1_0, cb9r1_0, vb9r1_1, xb9r1_1, cb9r1_1, vb9r1_2, xb9r1_2, cb9r1_2, hL, wM26r1, wb9r1_0, wb9r1_1, wb9r1_2, hB0, hB1, hB2, hQ⟩ => ⟨xM26r1, esM26r1, clM26r1, vb9r1_0, xb9r1_0, cb9r1_0, vb9r1_1, xb9r1_1, cb9r1_1, vb9r1_2, xb9r1_2, cb9r1_2, hL, wM26r1, (wb9r1_0.mono hle), (wb9r1_1.mono hle), (wb9r1_2.mono hle), hB0, hB1, hB2, hQ⟩) (fun _ _ _ _ _ _ h => h) ?_ ?_ ?_ ?_
      · exact ⟨([] : List (Int × Bool)), #[], 0, .slice none 0 0, [], [], .slice none 0 0, [], [], .slice none 0 0, [], [], (Has.cons .hd (Has.cons .hd (Has.cons .hd (Has.none (Has.none (Has.none Has.nil)))))), w26, OwnS.nil, OwnS.nil, OwnS.nil, (by first | omega | (simp; done) | (simp; omega) | (simp at *; omega)), (by first | omega | (simp; done) | (simp; omega) | (simp at *; omega)), (by first | omega | (simp; done) | (simp; omega) | (simp at *; omega)), (by rfl)⟩
      · intro lr1 rr1 wr1 prer1 yr1 vsr1 Hr1 Lr1 sr1 hpr1 hIr1 hYr1
        obtain ⟨xM26r1, esM26r1, clM26r1, vb9r1_0, xb9r1_0, cb9r1_0, vb9r1_1, xb9r1_1, cb9r1_1, vb9r1_2, xb9r1_2, cb9r1_2, hLr1, wM26r1, wb9r1_0, wb9r1_1, wb9r1_2, hBr1_0, hBr1_1, hBr1_2, hQr1⟩ := hIr1
        obtain ⟨Ab9r1_0, pb9r1_0, rfl, mb9r1_0, nb9r1_0_⟩ := OwnS.shape wb9r1_0
        obtain ⟨Ab9r1_1, pb9r1_1, rfl, mb9r1_1, nb9r1_1_⟩ := OwnS.shape wb9r1_1
        obtain ⟨Ab9r1_2, pb9r1_2, rfl, mb9r1_2, nb9r1_2_⟩ := OwnS.shape wb9r1_2
        obtain ⟨zYr1_1_0, rfl, rYr1_1_0⟩ := hYr1
        obtain ⟨AYr1_1_0, pYr1_1_0, rfl, mYr1_1_0, nYr1_1_0, rYr1_1_0⟩ := rYr1_1_0.shape
        refine T.has hLr1 ?_
        have hlpr1 : prer1.length + 1 ≤ r31.length := by have h0 := hpr1.length_le; simpa using h0
        refine T.region ?_
        refine R.asE rfl (by conv => lhs; whnf) ?_
        refine TL.nil ?_
        refine onlyN.mk ?_
        refine T.block ?_
        refine T.seq ?_
        refine T.region ?_
        refine R.ldH Tryz.isAgg71 rfl rfl ((s29.trans (s31.trans sr1)) _ _ hb10_1) rfl ?_
        refine R.mvE rfl (by conv => lhs; whnf) ?_
        refine R.mupV (f := (fun z : Bool => Value.bool z)) (v := true) Tryz.underlying71 Tryz.underlying3 rfl rfl rfl rfl .hd wM26r1 ?_
        intro esu26_8 clu26_8 wu26_8
        refine TL.nil (Post.thnN ?_)
        refine T.region ?_
        refine R.fldA Tryz.underlying33 rfl Tryz.sizeOf30 (by decide) rfl rfl ?_
        refine R.ld Tryz.isAgg30 rfl rfl (.tl .hd) rfl ?_
        refine R.mvE rfl (by conv => lhs; whnf) ?_
        refine R.bs rfl (run_buildSlice1 Tryz.underlying30 Tryz.sizeOf3 Tryz.zeroValue3 rfl rfl) ?_
        intro b39
        have w39 : OwnS (intE .i64) 3 Hr1 (.slice (some ⟨b39, 0, none⟩) 1 1) [yr1.1] [(b39, .cells #[.int .i64 (yr1.1)] 3)] := OwnS.lit (xs := [yr1.1]) (cellsOf_cons (a := [.int .i64 (yr1.1)]) rfl cellsOf_nil) (by show 1 ≤ maxLen; decide)
        obtain ⟨k40, y40, r40⟩ := Src.ownA w39
        refine R.app (E := (intE .i64)) (e := 3) (xs := xb9r1_0) (ys := [yr1.1]) Tryz_ty30 rfl rfl rfl wb9r1_0 (.tl (.tl (.tl (.tl .hd)))) (r40 _ .hd) y40 (by (try simp only [List.length_append, List.length_cons, List.length_nil, List.length_replicate, List.length_take, List.length_drop]); omega) (by (try simp only [List.length_append, List.length_cons, List.length_nil, List.length_replicate, List.length_take, List.length_drop]); omega) ?_
        intro v40 c40 w40
        obtain ⟨A40, p40, rfl, m40, n40⟩ := OwnS.shape w40
        refine TL.del (.tl .hd) ?_
        refine R.fldA Tryz.underlying33 rfl Tryz.sizeOf30 (by decide) rfl rfl ?_
        refine R.stX (old := [.slice Ab9r1_0 xb9r1_0.length pb9r1_0, .slice Ab9r1_1 xb9r1_1.length pb9r1_1, .slice Ab9r1_2 xb9r1_2.length pb9r1_2]) (l := [.slice A40 (xb9r1_0 ++ [yr1.1]).length p40]) (new := [.slice A40 (xb9r1_0 ++ [yr1.1]).length p40, .slice Ab9r1_1 xb9r1_1.length pb9r1_1, .slice Ab9r1_2 xb9r1_2.length pb9r1_2]) (et := 33) Tryz.sizeOf30 rfl rfl rfl (cells1 rfl) rfl (by show 0 + 1 ≤ 3; decide) rfl (all_one rfl) (.tl (.tl .hd)) ?_
        refine TL.nil (Post.blkN ?_)
        refine id ?_
        exact ⟨(mpu xM26r1 yr1.1 true), esu26_8, clu26_8, .slice A40 (xb9r1_0 ++ [yr1.1]).length p40, (xb9r1_0 ++ [yr1.1]), c40, .slice Ab9r1_1 xb9r1_1.length pb9r1_1, xb9r1_1, cb9r1_1, .slice Ab9r1_2 xb9r1_2.length pb9r1_2, xb9r1_2, cb9r1_2, (Has.cons (.tl .hd) (Has.cons (.tl .hd) (Has.cons (.tl .hd) (Has.cons .hd (Has.cons .hd (Has.cons .hd Has.nil)))))), wu26_8, w40, wb9r1_1, wb9r1_2, (by first | omega | (simp; done) | (simp; omega) | (simp at *; omega)), (by first | omega | (simp; done) | (simp; omega) | (simp at *; omega)), (by first | omega | (simp; done) | (simp; omega) | (simp at *; omega)), (by rw [← hQr1, drop_pre hpr1, plan_Of_r1])⟩
      · intro Dr1 Hr1 Lr1 sr1 hIr1
        obtain ⟨xM26r1, esM26r1, clM26r1, vb9r1_0, xb9r1_0, cb9r1_0, vb9r1_1, xb9r1_1, cb9r1_1, vb9r1_2, xb9r1_2, cb9r1_2, hLr1, wM26r1, wb9r1_0, wb9r1_1, wb9r1_2, hBr1_0, hBr1_1, hBr1_2, hQr1⟩ := hIr1
        obtain ⟨Ab9r1_0, pb9r1_0, rfl, mb9r1_0, nb9r1_0_⟩ := OwnS.shape wb9r1_0
        obtain ⟨Ab9r1_1, pb9r1_1, rfl, mb9r1_1, nb9r1_1_⟩ := OwnS.shape wb9r1_1
        obtain ⟨Ab9r1_2, pb9r1_2, rfl, mb9r1_2, nb9r1_2_⟩ := OwnS.shape wb9r1_2
        have hEr1 : plan_Of_r1 r31 ((([] : List (Int × Bool)), [], [], [])) = (xM26r1, xb9r1_0, xb9r1_1, xb9r1_2) := by rw [← hQr1, List.drop_length, plan_Of_r1]
        refine id (Post.blkN ?_)
        refine id (Post.thnN ?_)
        refine T.has hLr1 ?_
        refine T.seq ?_
        refine T.region ?_
        refine R.fldA Tryz.underlying33 rfl Tryz.sizeOf30 (by decide) rfl rfl ?_
        refine R.ld Tryz.isAgg30 rfl rfl (.tl .hd) rfl ?_
        refine TL.call [false, false, false, true] rfl rfl rfl (sortA_c _ _ _ _ wb9r1_0 (by first | omega | (simp; done) | (simp; omega) | (simp at *; omega))) ?_
        intro v44 H44 L44 s44 q44
        obtain ⟨rfl, c44, rfl, w44⟩ := q44
        refine TL.nil (Post.thnN ?_)
        refine T.seq ?_
        refine T.seq ?_
        refine T.region ?_
        refine R.mvE rfl (by conv => lhs; whnf) ?_
        refine R.mvE rfl (by conv => lhs; whnf) ?_
        obtain ⟨r47, er47⟩ : ∃ r, r = (plan_mentions_m a0 a1) := ⟨_, rfl⟩
        refine R.callp rfl rfl rfl (plan_mentions_c _ ((sb10_1.trans (s29.trans (s31.trans sr1))) _ _ hG0) _ a0 (ha0.mono (sb10_1.trans (s29.trans (s31.trans sr1)))) _ a1 (ha1.mono (sb10_1.trans (s29.trans (s31.trans sr1)))) (by first | omega | (simp; done) | (simp; omega) | (simp at *; omega))) ?_
        intro v47 H47 s47 q47
        rw [← er47] at q47
        obtain ⟨u47_0_0, rfl, w47_0_0⟩ := q47
        have tm47 := ment_fact _ _ _ er47
        refine TL.nil (Post.thnN ?_)
        refine T.block ?_
        refine T.rangeFunc (xs := r47) rfl rfl (enters_of Tryz.func80 (by kernel_rfl) rfl) w47_0_0 (fun _ _ _ h => by obtain ⟨_, rfl, _⟩ := h; rfl) rfl (fun pre H' L' => ∃ (vb9r2_0 : Value) (xb9r2_0 : List Int) (cb9r2_0 : Chunk) (vb9r2_1 : Value) (xb9r2_1 : List (Int × Int)) (cb9r2_1 : Chunk) (vb9r2_2 : Value) (xb9r2_2 : List (Int × Int)) (cb9r2_2 : Chunk), Has L' [[(b26, .map esM26r1 clM26r1)], [(b9, .cells #[vb9r2_0, vb9r2_1, vb9r2_2] 33)], [(b6, .cells #[.slice none 0 0, .slice none 0 0, .slice none 0 0] 33)], cb9r2_0, cb9r2_1, cb9r2_2] ∧ OwnS (intE .i64) 3 H' vb9r2_0 xb9r2_0 cb9r2_0 ∧ OwnS heldE 50 H' vb9r2_1 xb9r2_1 cb9r2_1 ∧ OwnS heldE 50 H' vb9r2_2 xb9r2_2 cb9r2_2 ∧ xb9r2_1.length ≤ pre.length ∧ xb9r2_2.length ≤ pre.length ∧ plan_Of_r2 xM26r1 (r47.drop pre.length) ((xb9r2_0, xb9r2_1, xb9r2_2)) = plan_Of_r2 xM26r1 r47 (((sortI xb9r1_0), xb9r1_1, xb9r1_2))) (fun _ _ _ _ => False) (fun pre H H' L hle ⟨vb9r2_0, xb9r2_0, cb9r2_0, vb9r2_1, xb9r2_1, cb9r2_1, vb9r2_2, xb9r2_2, cb9r2_2, hL, wb9r2_0, wb9r2_1, wb9r2_2, hB0, hB1, hQ⟩ => ⟨vb9r2_0, xb9r2_0, cb9r2_0, vb9r2_1, xb9r2_1, cb9r2_1, vb9r2_2, xb9r2_2, cb9r2_2, hL, (wb9r2_0.mono hle), (wb9r2_1.mono hle), (wb9r2_2.mono hle), hB0, hB1, hQ⟩) (fun _ _ _ _ _ _ h => h) ?_ ?_ ?_ ?_
        · exact ⟨.slice Ab9r1_0 xb9r1_0.length pb9r1_0, (sortI xb9r1_0), c44, .slice Ab9r1_1 xb9r1_1.length pb9r1_1, xb9r1_1, cb9r1_1, .slice Ab9r1_2 xb9r1_2.length pb9r1_2, xb9r1_2, cb9r1_2, (Has.cons (.tl .hd) (Has.cons (.tl .hd) (Has.cons (.tl .hd) (Has.cons .hd (Has.cons .hd (Has.cons .hd Has.nil)))))), (OwnS.mono w44 s47), (OwnS.mono wb9r1_1 s47), (OwnS.mono wb9r1_2 s47), (by first | omega | (simp; done) | (simp; omega) | (simp at *; omega)), (by first | omega | (simp; done) | (simp; omega) | (simp at *; omega)), (by rfl)⟩
        · intro lr2 rr2 wr2 prer2 yr2 vsr2 Hr2 Lr2 sr2 hpr2 hIr2 hYr2
          obtain ⟨vb9r2_0, xb9r2_0, cb9r2_0, vb9r2_1, xb9r2_1, cb9r2_1, vb9r2_2, xb9r2_2, cb9r2_2, hLr2, wb9r2_0, wb9r2_1, wb9r2_2, hBr2_0, hBr2_1, hQr2⟩ := hIr2
          obtain ⟨Ab9r2_0, pb9r2_0, rfl, mb9r2_0, nb9r2_0_⟩ := OwnS.shape wb9r2_0
          obtain ⟨Ab9r2_1, pb9r2_1, rfl, mb9r2_1, nb9r2_1_⟩ := OwnS.shape wb9r2_1
          obtain ⟨Ab9r2_2, pb9r2_2, rfl, mb9r2_2, nb9r2_2_⟩ := OwnS.shape wb9r2_2
          obtain ⟨zYr2_1_0, rfl, rYr2_1_0⟩ := hYr2
          obtain ⟨AYr2_1_0, pYr2_1_0, rfl, mYr2_1_0, nYr2_1_0, rYr2_1_0⟩ := rYr2_1_0.shape
          refine T.has hLr2 ?_
          have hlpr2 : prer2.length + 1 ≤ r47.length := by have h0 := hpr2.length_le; simpa using h0
          refine T.seq ?_
          refine T.region ?_
          refine R.alloc Tryz.zeroValue50 rfl ?_
          intro b12
          refine R.stX (old := [.int .i64 0, .int .u64 0]) (l := [.int .i64 (yr2.1.1), .int .u64 (yr2.1.2)]) (new := [.int .i64 (yr2.1.1), .int .u64 (yr2.1.2)]) (et := 50) Tryz.sizeOf50 rfl rfl rfl rfl rfl (by show 0 + 2 ≤ 2; decide) rfl (all_one rfl) .hd ?_
          refine TL.shut .hd ?_
          intro Hb12_2 sb12_2 qb12_2
          have hb12_2 : Hb12_2 b12 = some (.cells #[.int .i64 (yr2.1.1), .int .u64 (yr2.1.2)] 50) := shut1 qb12_2
          refine TL.nil (Post.thnN ?_)
          refine T.region ?_
          refine R.alloc Tryz.zeroValue81 rfl ?_
          intro b13
          refine R.stX (old := [.slice none 0 0]) (l := [.slice AYr2_1_0 yr2.2.length pYr2_1_0]) (new := [.slice AYr2_1_0 yr2.2.length pYr2_1_0]) (et := 81) Tryz.sizeOf81 rfl rfl rfl (cells1 rfl) rfl (by show 0 + 1 ≤ 1; decide) rfl (all_one rfl) .hd ?_
          refine TL.shut .hd ?_
          intro Hb13_3 sb13_3 qb13_3
          have hb13_3 : Hb13_3 b13 = some (.cells #[.slice AYr2_1_0 yr2.2.length pYr2_1_0] 81) := shut1 qb13_3
          refine TL.nil ?_
          refine onlyN.mk ?_
          refine T.block ?_
          refine T.seq ?_
          refine T.seq ?_
          refine T.region ?_
          refine R.ldH Tryz.isAgg71 rfl rfl ((s29.trans (s31.trans (sr1.trans (s47.trans (sr2.trans (sb12_2.trans sb13_3)))))) _ _ hb10_1) rfl ?_
          refine R.fldA Tryz.underlying50 rfl Tryz.sizeOf3 (by decide) rfl rfl ?_
          refine R.ldH Tryz.isAgg3 rfl rfl (sb13_3 _ _ hb12_2) rfl ?_
          refine R.lkuV (f := (fun z : Bool => Value.bool z)) (z0 := false) Tryz.underlying71 Tryz.underlying3 Tryz.zeroValue4 rfl rfl rfl rfl .hd wM26r1 ?_
          refine TL.nil (Post.thnN ?_)
          refine T.cond rfl (fun c53 => ?_) (fun c53 => ?_)
          · refine T.set 53 (.bool true) (congrArg Value.bool c53) ?_
            refine T.exit (Post.thnE (Post.blkX ?_))
            refine id ?_
            exact ⟨.slice Ab9r2_0 xb9r2_0.length pb9r2_0, xb9r2_0, cb9r2_0, .slice Ab9r2_1 xb9r2_1.length pb9r2_1, xb9r2_1, cb9r2_1, .slice Ab9r2_2 xb9r2_2.length pb9r2_2, xb9r2_2, cb9r2_2, (Has.cons .hd (Has.cons .hd (Has.cons .hd (Has.cons .hd (Has.cons .hd (Has.cons .hd Has.nil)))))), (OwnS.mono wb9r2_0 (sb12_2.trans sb13_3)), (OwnS.mono wb9r2_1 (sb12_2.trans sb13_3)), (OwnS.mono wb9r2_2 (sb12_2.trans sb13_3)), (by first | omega | (simp; done) | (simp; omega) | (simp at *; omega)), (by first | omega | (simp; done) | (simp; omega) | (simp at *; omega)), (by rw [← hQr2, drop_pre hpr2, plan_Of_r2]; rw [if_t c53])⟩
          · refine T.set 53 (.bool false) (congrArg Value.bool c53) ?_
            refine T.skip (Post.thnN ?_)
            refine T.seq ?_
            refine T.region ?_
            refine R.mkf (cs := [_, _]) rfl rfl ?_
            refine R.asE rfl (by conv => lhs; whnf) ?_
            refine TL.nil (Post.thnN ?_)
            refine T.seq ?_
            refine T.region ?_
            refine R.mvE rfl (by conv => lhs; whnf) ?_
            refine R.callvB rfl rfl rfl (fun HB56 sB56 qB56 => by have fB56_0 := MpR.of wM26r1 (In.all .hd qB56); exact (plan_Of_2_c _ b13 _ yr2.2 (rYr2_1_0.mono (sb12_2.trans (sb13_3.trans sB56))) (sB56 _ _ hb13_3) b10 _ xM26r1 fB56_0 ((s29.trans (s31.trans (sr1.trans (s47.trans (sr2.trans (sb12_2.trans (sb13_3.trans sB56))))))) _ _ hb10_1) (2))) ?_
            refine R.asE rfl (by conv => lhs; whnf) ?_
            refine TL.nil (Post.thnN ?_)
            refine T.seq ?_
            refine T.seq ?_
            refine T.region ?_
            refine R.mvE rfl (by conv => lhs; whnf) ?_
            refine TL.nil (Post.thnN ?_)
            refine T.cutK (ι := Value × (List Int) × Chunk × Value × (List (Int × Int)) × Chunk × Value × (List (Int × Int)) × Chunk) (fun ⟨vb9c3_0, xb9c3_0, cb9c3_0, vb9c3_1, xb9c3_1, cb9c3_1, vb9c3_2, xb9c3_2, cb9c3_2⟩ H' L' ds' => Has L' [[(b26, .map esM26r1 clM26r1)], [(b9, .cells #[vb9c3_0, vb9c3_1, vb9c3_2] 33)], [(b6, .cells #[.slice none 0 0, .slice none 0 0, .slice none 0 0] 33)], cb9c3_0, cb9c3_1, cb9c3_2] ∧ OwnS (intE .i64) 3 H' vb9c3_0 xb9c3_0 cb9c3_0 ∧ OwnS heldE 50 H' vb9c3_1 xb9c3_1 cb9c3_1 ∧ OwnS heldE 50 H' vb9c3_2 xb9c3_2 cb9c3_2 ∧ xb9c3_1.length ≤ prer2.length ∧ xb9c3_2.length ≤ prer2.length + 1 ∧ (if (plan_Of_2_m yr2.2 xM26r1 2) = true then ((xb9r2_0, xb9r2_1, (xb9r2_2 ++ [yr2.1]))) else ((xb9r2_0, xb9r2_1, xb9r2_2)) : (List Int) × (List (Int × Int)) × (List (Int × Int))) = (xb9c3_0, xb9c3_1, xb9c3_2)) (fun ⟨vb9c3_0, xb9c3_0, cb9c3_0, vb9c3_1, xb9c3_1, cb9c3_1, vb9c3_2, xb9c3_2, cb9c3_2⟩ => [(6, .pointer (some ⟨b6, 0, none⟩)), (9, .pointer (some ⟨b9, 0, none⟩)), (10, .pointer (some ⟨b10, 0, none⟩)), (12, .pointer (some ⟨b12, 0, none⟩)), (14, .func (.func 40) #[] ([.pointer (some ⟨b13, 0, none⟩), .pointer (some ⟨b10, 0, none⟩)] : List Value).toArray), (15, .bool ((plan_Of_2_m yr2.2 xM26r1 2)))]) ?_ ?_
            · refine T.cond rfl (fun c57 => ?_) (fun c57 => ?_)
              · refine T.set 57 (.bool true) (congrArg Value.bool c57) ?_
                refine T.region ?_
                refine R.fldA Tryz.underlying33 rfl Tryz.sizeOf23 (by decide) rfl rfl ?_
                refine R.ld Tryz.isAgg23 rfl rfl (.tl .hd) rfl ?_
                refine R.ldXH (cs := [.int .i64 (yr2.1.1), .int .u64 (yr2.1.2)]) (l := [.int .i64 (yr2.1.1), .int .u64 (yr2.1.2)]) Tryz.isAgg50 Tryz.sizeOf50 rfl rfl (sb13_3 _ _ hb12_2) rfl rfl ?_
                refine R.bs (e := 50) (cs := [.int .i64 (yr2.1.1), .int .u64 (yr2.1.2)]) rfl (fun _ => by kernel_rfl) ?_
                intro b61
                have w61 : OwnS heldE 50 Hb13_3 (.slice (some ⟨b61, 0, none⟩) 1 1) [yr2.1] [(b61, .cells #[.int .i64 (yr2.1.1), .int .u64 (yr2.1.2)] 50)] := OwnS.lit (xs := [yr2.1]) (cellsOf_cons (a := [.int .i64 (yr2.1.1), .int .u64 (yr2.1.2)]) rfl cellsOf_nil) (by show 1 ≤ maxLen; decide)
                obtain ⟨k62, y62, r62⟩ := Src.ownA w61
                refine R.app (E := heldE) (e := 50) (xs := xb9r2_2) (ys := [yr2.1]) Tryz_ty23 rfl rfl rfl (OwnS.mono wb9r2_2 (sb12_2.trans sb13_3)) (.tl (.tl (.tl (.tl (.tl (.tl .hd)))))) (r62 _ .hd) y62 (by (try simp only [List.length_append, List.length_cons, List.length_nil, List.length_replicate, List.length_take, List.length_drop]); omega) (by (try simp only [List.length_append, List.length_cons, List.length_nil, List.length_replicate, List.length_take, List.length_drop]); omega) ?_
                intro v62 c62 w62
                obtain ⟨A62, p62, rfl, m62, n62⟩ := OwnS.shape w62
                refine TL.del (.tl .hd) ?_
                refine R.fldA Tryz.underlying33 rfl Tryz.sizeOf23 (by decide) rfl rfl ?_
                refine R.stX (old := [.slice Ab9r2_0 xb9r2_0.length pb9r2_0, .slice Ab9r2_1 xb9r2_1.length pb9r2_1, .slice Ab9r2_2 xb9r2_2.length pb9r2_2]) (l := [.slice A62 (xb9r2_2 ++ [yr2.1]).length p62]) (new := [.slice Ab9r2_0 xb9r2_0.length pb9r2_0, .slice Ab9r2_1 xb9r2_1.length pb9r2_1, .slice A62 (xb9r2_2 ++ [yr2.1]).length p62]) (et := 33) Tryz.sizeOf23 rfl rfl rfl (cells1 rfl) rfl (by show 2 + 1 ≤ 3; decide) rfl (all_one rfl) (.tl (.tl .hd)) ?_
                refine TL.nil (Post.thnN ?_)
                exact ⟨(.slice Ab9r2_0 xb9r2_0.length pb9r2_0, xb9r2_0, cb9r2_0, .slice Ab9r2_1 xb9r2_1.length pb9r2_1, xb9r2_1, cb9r2_1, .slice A62 (xb9r2_2 ++ [yr2.1]).length p62, (xb9r2_2 ++ [yr2.1]), c62), HLe.refl _, ⟨(Has.cons (.tl .hd) (Has.cons (.tl .hd) (Has.cons (.tl .hd) (Has.cons (.tl .hd) (Has.cons (.tl .hd) (Has.cons .hd Has.nil)))))), (OwnS.mono wb9r2_0 (sb12_2.trans sb13_3)), (OwnS.mono wb9r2_1 (sb12_2.trans sb13_3)), w62, (by first | omega | (simp; done) | (simp; omega) | (simp at *; omega)), (by first | omega | (simp; done) | (simp; omega) | (simp at *; omega)), (by rw [if_t c57])⟩, rfl, rfl, rfl, rfl, rfl, rfl, trivial⟩
              · refine T.set 57 (.bool false) (congrArg Value.bool c57) ?_
                refine T.skip (Post.thnN ?_)
                exact ⟨(.slice Ab9r2_0 xb9r2_0.length pb9r2_0, xb9r2_0, cb9r2_0, .slice Ab9r2_1 xb9r2_1.length pb9r2_1, xb9r2_1, cb9r2_1, .slice Ab9r2_2 xb9r2_2.length pb9r2_2, xb9r2_2, cb9r2_2), HLe.refl _, ⟨(Has.cons .hd (Has.cons .hd (Has.cons .hd (Has.cons .hd (Has.cons .hd (Has.cons .hd Has.nil)))))), (OwnS.mono wb9r2_0 (sb12_2.trans sb13_3)), (OwnS.mono wb9r2_1 (sb12_2.trans sb13_3)), (OwnS.mono wb9r2_2 (sb12_2.trans sb13_3)), (by first | omega | (simp; done) | (simp; omega) | (simp at *; omega)), (by first | omega | (simp; done) | (simp; omega) | (simp at *; omega)), (by rw [if_f c57])⟩, rfl, rfl, rfl, rfl, rfl, rfl, trivial⟩
            · intro ⟨vb9c3_0, xb9c3_0, cb9c3_0, vb9c3_1, xb9c3_1, cb9c3_1, vb9c3_2, xb9c3_2, cb9c3_2⟩ σ_c3 H_c3 L_c3 ds_c3 s_c3 hI_c3
              obtain ⟨hLc3, wb9c3_0, wb9c3_1, wb9c3_2, hBc3_0, hBc3_1, hTc3⟩ := hI_c3
              obtain ⟨Ab9c3_0, pb9c3_0, rfl, mb9c3_0, nb9c3_0_⟩ := OwnS.shape wb9c3_0
              obtain ⟨Ab9c3_1, pb9c3_1, rfl, mb9c3_1, nb9c3_1_⟩ := OwnS.shape wb9c3_1
              obtain ⟨Ab9c3_2, pb9c3_2, rfl, mb9c3_2, nb9c3_2_⟩ := OwnS.shape wb9c3_2
              refine T.has hLc3 ?_
              refine T.seq ?_
              refine T.cutK (ι := Bool) (fun b68c4 H' L' ds' => Has L' [[(b26, .map esM26r1 clM26r1)], [(b9, .cells #[.slice Ab9c3_0 xb9c3_0.length pb9c3_0, .slice Ab9c3_1 xb9c3_1.length pb9c3_1, .slice Ab9c3_2 xb9c3_2.length pb9c3_2] 33)], [(b6, .cells #[.slice none 0 0, .slice none 0 0, .slice none 0 0] 33)], cb9c3_0, cb9c3_1, cb9c3_2] ∧ (if (plan_Of_2_m yr2.2 xM26r1 2) = true then true else ((plan_Of_2_m yr2.2 xM26r1 0)) : Bool) = b68c4) (fun b68c4 => [(6, .pointer (some ⟨b6, 0, none⟩)), (9, .pointer (some ⟨b9, 0, none⟩)), (10, .pointer (some ⟨b10, 0, none⟩)), (12, .pointer (some ⟨b12, 0, none⟩)), (68, .bool (b68c4))]) ?_ ?_
              · refine T.region ?_
                refine R.mvE rfl (by conv => lhs; whnf) ?_
                refine R.mvE rfl (by conv => lhs; whnf) ?_
                refine TL.gsplit 65 rfl (fun g65 => ?_) (fun g65 => ?_)
                · refine TL.off rfl rfl rfl ?_
                  refine TL.off rfl rfl rfl ?_
                  refine R.pkTE rfl rfl (by conv => lhs; whnf) ?_
                  refine TL.nil (Post.thnN ?_)
                  exact ⟨true, HLe.refl _, ⟨(Has.cons .hd (Has.cons .hd (Has.cons .hd (Has.cons .hd (Has.cons .hd (Has.cons .hd Has.nil)))))), (by rw [if_t g65])⟩, rfl, rfl, rfl, rfl, rfl, trivial⟩
                · refine R.mvE rfl (by conv => lhs; whnf) ?_
                  refine R.callvB rfl rfl rfl (fun HB67 sB67 qB67 => by have fB67_0 := MpR.of wM26r1 (In.all .hd qB67); exact (plan_Of_2_c _ b13 _ yr2.2 (rYr2_1_0.mono (sb12_2.trans (sb13_3.trans (s_c3.trans sB67)))) ((s_c3.trans sB67) _ _ hb13_3) b10 _ xM26r1 fB67_0 ((s29.trans (s31.trans (sr1.trans (s47.trans (sr2.trans (sb12_2.trans (sb13_3.trans (s_c3.trans sB67)))))))) _ _ hb10_1) (0))) ?_
                  refine R.pkFE rfl rfl (by conv => lhs; whnf) ?_
                  refine TL.nil (Post.thnN ?_)
                  exact ⟨(plan_Of_2_m yr2.2 xM26r1 0), HLe.refl _, ⟨(Has.cons .hd (Has.cons .hd (Has.cons .hd (Has.cons .hd (Has.cons .hd (Has.cons .hd Has.nil)))))), (by rw [if_f g65])⟩, rfl, rfl, rfl, rfl, rfl, trivial⟩
              · intro b68c4 σ_c4 H_c4 L_c4 ds_c4 s_c4 hI_c4
                obtain ⟨hLc4, hTc4⟩ := hI_c4
                refine T.has hLc4 ?_
                refine T.cond rfl (fun c68 => ?_) (fun c68 => ?_)
                · refine T.set 68 (.bool true) (congrArg Value.bool c68) ?_
                  have hZ68 := hTc4.trans c68
                  try simp only [or_f, or_t, and_f, and_t, decide_eq_true_eq, decide_eq_false_iff_not, Bool.not_eq_true'] at hZ68
                  refine T.region ?_
                  refine R.fldA Tryz.underlying33 rfl Tryz.sizeOf23 (by decide) rfl rfl ?_
                  refine R.ld Tryz.isAgg23 rfl rfl (.tl .hd) rfl ?_
                  refine R.ldXH (cs := [.int .i64 (yr2.1.1), .int .u64 (yr2.1.2)]) (l := [.int .i64 (yr2.1.1), .int .u64 (yr2.1.2)]) Tryz.isAgg50 Tryz.sizeOf50 rfl rfl ((sb13_3.trans (s_c3.trans s_c4)) _ _ hb12_2) rfl rfl ?_
                  refine R.bs (e := 50) (cs := [.int .i64 (yr2.1.1), .int .u64 (yr2.1.2)]) rfl (fun _ => by kernel_rfl) ?_
                  intro b72
                  have w72 : OwnS heldE 50 H_c4 (.slice (some ⟨b72, 0, none⟩) 1 1) [yr2.1] [(b72, .cells #[.int .i64 (yr2.1.1), .int .u64 (yr2.1.2)] 50)] := OwnS.lit (xs := [yr2.1]) (cellsOf_cons (a := [.int .i64 (yr2.1.1), .int .u64 (yr2.1.2)]) rfl cellsOf_nil) (by show 1 ≤ maxLen; decide)
                  obtain ⟨k73, y73, r73⟩ := Src.ownA w72
                  refine R.app (E := heldE) (e := 50) (xs := xb9c3_1) (ys := [yr2.1]) Tryz_ty23 rfl rfl rfl (OwnS.mono wb9c3_1 s_c4) (.tl (.tl (.tl (.tl (.tl .hd))))) (r73 _ .hd) y73 (by (try simp only [List.length_append, List.length_cons, List.length_nil, List.length_replicate, List.length_take, List.length_drop]); omega) (by (try simp only [List.length_append, List.length_cons, List.length_nil, List.length_replicate, List.length_take, List.length_drop]); omega) ?_
                  intro v73 c73 w73
                  obtain ⟨A73, p73, rfl, m73, n73⟩ := OwnS.shape w73
                  refine TL.del (.tl .hd) ?_
                  refine R.fldA Tryz.underlying33 rfl Tryz.sizeOf23 (by decide) rfl rfl ?_
                  refine R.stX (old := [.slice Ab9c3_0 xb9c3_0.length pb9c3_0, .slice Ab9c3_1 xb9c3_1.length pb9c3_1, .slice Ab9c3_2 xb9c3_2.length pb9c3_2]) (l := [.slice A73 (xb9c3_1 ++ [yr2.1]).length p73]) (new := [.slice Ab9c3_0 xb9c3_0.length pb9c3_0, .slice A73 (xb9c3_1 ++ [yr2.1]).length p73, .slice Ab9c3_2 xb9c3_2.length pb9c3_2]) (et := 33) Tryz.sizeOf23 rfl rfl rfl (cells1 rfl) rfl (by show 1 + 1 ≤ 3; decide) rfl (all_one rfl) (.tl (.tl .hd)) ?_
                  refine TL.nil (Post.blkN ?_)
                  refine id ?_
                  exact ⟨.slice Ab9c3_0 xb9c3_0.length pb9c3_0, xb9c3_0, cb9c3_0, .slice A73 (xb9c3_1 ++ [yr2.1]).length p73, (xb9c3_1 ++ [yr2.1]), c73, .slice Ab9c3_2 xb9c3_2.length pb9c3_2, xb9c3_2, cb9c3_2, (Has.cons (.tl .hd) (Has.cons (.tl .hd) (Has.cons (.tl .hd) (Has.cons (.tl .hd) (Has.cons .hd (Has.cons .hd Has.nil)))))), (OwnS.mono wb9c3_0 s_c4), w73, (OwnS.mono wb9c3_2 s_c4), (by first | omega | (simp; done) | (simp; omega) | (simp at *; omega)), (by first | omega | (simp; done) | (simp; omega) | (simp at *; omega)), (by rw [← hQr2, drop_pre hpr2, plan_Of_r2]; rw [if_f c53, hTc3, LR.seq_go, hTc4, LR.seq_go, if_t c68])⟩
                · refine T.set 68 (.bool false) (congrArg Value.bool c68) ?_
                  have hZ68 := hTc4.trans c68
                  try simp only [or_f, or_t, and_f, and_t, decide_eq_true_eq, decide_eq_false_iff_not, Bool.not_eq_true'] at hZ68
                  refine T.skip (Post.blkN ?_)
                  refine id ?_
                  exact ⟨.slice Ab9c3_0 xb9c3_0.length pb9c3_0, xb9c3_0, cb9c3_0, .slice Ab9c3_1 xb9c3_1.length pb9c3_1, xb9c3_1, cb9c3_1, .slice Ab9c3_2 xb9c3_2.length pb9c3_2, xb9c3_2, cb9c3_2, (Has.cons .hd (Has.cons .hd (Has.cons .hd (Has.cons .hd (Has.cons .hd (Has.cons .hd Has.nil)))))), (OwnS.mono wb9c3_0 s_c4), (OwnS.mono wb9c3_1 s_c4), (OwnS.mono wb9c3_2 s_c4), (by first | omega | (simp; done) | (simp; omega) | (simp at *; omega)), (by first | omega | (simp; done) | (simp; omega) | (simp at *; omega)), (by rw [← hQr2, drop_pre hpr2, plan_Of_r2]; rw [if_f c53, hTc3, LR.seq_go, hTc4, LR.seq_go, if_f c68])⟩
        · intro Dr2 Hr2 Lr2 sr2 hIr2
          obtain ⟨vb9r2_0, xb9r2_0, cb9r2_0, vb9r2_1, xb9r2_1, cb9r2_1, vb9r2_2, xb9r2_2, cb9r2_2, hLr2, wb9r2_0, wb9r2_1, wb9r2_2, hBr2_0, hBr2_1, hQr2⟩ := hIr2
          obtain ⟨Ab9r2_0, pb9r2_0, rfl, mb9r2_0, nb9r2_0_⟩ := OwnS.shape wb9r2_0
          obtain ⟨Ab9r2_1, pb9r2_1, rfl, mb9r2_1, nb9r2_1_⟩ := OwnS.shape wb9r2_1
          obtain ⟨Ab9r2_2, pb9r2_2, rfl, mb9r2_2, nb9r2_2_⟩ := OwnS.shape wb9r2_2
          have hEr2 : plan_Of_r2 xM26r1 r47 (((sortI xb9r1_0), xb9r1_1, xb9r1_2)) = (xb9r2_0, xb9r2_1, xb9r2_2) := by rw [← hQr2, List.drop_length, plan_Of_r2]
          refine id (Post.blkN ?_)
          refine id (Post.thnN ?_)
          refine T.has hLr2 ?_
          refine T.seq ?_
          refine T.region ?_
          refine R.ldX (cs := [.slice Ab9r2_0 xb9r2_0.length pb9r2_0, .slice Ab9r2_1 xb9r2_1.length pb9r2_1, .slice Ab9r2_2 xb9r2_2.length pb9r2_2]) (l := [.slice Ab9r2_0 xb9r2_0.length pb9r2_0, .slice Ab9r2_1 xb9r2_1.length pb9r2_1, .slice Ab9r2_2 xb9r2_2.length pb9r2_2]) Tryz.isAgg33 Tryz.sizeOf33 rfl rfl (.tl .hd) rfl rfl ?_
          refine R.stX (old := [.slice none 0 0, .slice none 0 0, .slice none 0 0]) (l := [.slice Ab9r2_0 xb9r2_0.length pb9r2_0, .slice Ab9r2_1 xb9r2_1.length pb9r2_1, .slice Ab9r2_2 xb9r2_2.length pb9r2_2]) (new := [.slice Ab9r2_0 xb9r2_0.length pb9r2_0, .slice Ab9r2_1 xb9r2_1.length pb9r2_1, .slice Ab9r2_2 xb9r2_2.length pb9r2_2]) (et := 33) Tryz.sizeOf33 rfl rfl rfl rfl rfl (by show 0 + 3 ≤ 3; decide) rfl (all_one rfl) (.tl (.tl .hd)) ?_
          refine R.asE rfl (by conv => lhs; whnf) ?_
          refine TL.nil (Post.thnN ?_)
          refine T.has (Has.cons (.tl (.tl (.tl .hd))) (Has.cons (.tl (.tl (.tl .hd))) (Has.cons (.tl (.tl (.tl .hd))) (Has.cons (.tl (.tl .hd)) Has.nil)))) ?_
          refine T.ret ?_
          have hM : plan_Of_m a0 a1 a2 = ((xb9r2_0, xb9r2_1, xb9r2_2), 0) := by subst er47; subst er31; subst er29; rw [plan_Of_m, if_neg c20, if_f c24, LR.seq_go, LR.seq_go, hEr1, LR.seq_go, LR.seq_go, hEr2, LR.seq_go]
          exact finR2 (v := .agg #[.slice Ab9r2_0 xb9r2_0.length pb9r2_0, .slice Ab9r2_1 xb9r2_1.length pb9r2_1, .slice Ab9r2_2 xb9r2_2.length pb9r2_2]) (v' := .int .i64 0) [cb9r2_0, cb9r2_1, cb9r2_2] rfl (.cellA (cs := [.slice Ab9r2_0 xb9r2_0.length pb9r2_0, .slice Ab9r2_1 xb9r2_1.length pb9r2_1, .slice Ab9r2_2 xb9r2_2.length pb9r2_2]) (l := [.slice Ab9r2_0 xb9r2_0.length pb9r2_0, .slice Ab9r2_1 xb9r2_1.length pb9r2_1, .slice Ab9r2_2 xb9r2_2.length pb9r2_2]) Tryz.isAgg33 Tryz.sizeOf33 rfl (.tl (.tl (.tl .hd))) rfl rfl) (.tmp rfl) (List.sublist_append_left ([cb9r2_0, cb9r2_1, cb9r2_2] : Own) _) ⟨.slice Ab9r2_0 xb9r2_0.length pb9r2_0, .slice Ab9r2_1 xb9r2_1.length pb9r2_1, .slice Ab9r2_2 xb9r2_2.length pb9r2_2, cb9r2_0, cb9r2_1, cb9r2_2, by first | rw [hM] | rfl, rfl, by rw [hM]; exact wb9r2_0, by rw [hM]; exact wb9r2_1, by rw [hM]; exact wb9r2_2⟩
        · intro Dr2 cr2 prer2 yr2 Hr2 Lr2 sr2 hpr2 hIr2
          exact hIr2.elim
      · intro Dr1 cr1 prer1 yr1 Hr1 Lr1 sr1 hpr1 hIr1
        exact hIr1.elim

def slices_IndexFunc_Held_l1 (a1 : (Int × Int) → Bool) : List (Int × Int) → Nat → Unit → LR (Int) (Unit)
  | [], kl1, sl1 => .go ()
  | yl1 :: ysl1, kl1, sl1 => if (a1 yl1) = true then (.ret ((kl1 : Int))) else (slices_IndexFunc_Held_l1 a1 ysl1 (kl1 + 1) ())
def slices_IndexFunc_Held_m (a0 : List (Int × Int)) (a1 : (Int × Int) → Bool) : Int :=
  LR.on (slices_IndexFunc_Held_l1 a1 a0 0 ()) (fun r => r) (fun ol1 => (-1))
set_option maxHeartbeats 3200000 in
theorem slices_IndexFunc_Held_c (H : Heap) (va0 : Value) (a0 : List (Int × Int)) (ha0 : RdS heldE H va0 a0) (fa1 : Value) (a1 : (Int × Int) → Bool) (ha1 : ∀ H', HLe H H' → ∀ (z0 : Int × Int), Fv Tryz.prog fa1 [.agg #[.int .i64 z0.1, .int .u64 z0.2]] H' (.bool (a1 z0))) : Fv Tryz.prog (fnv 84) [va0, fa1] H (.int .i64 (slices_IndexFunc_Held_m a0 a1)) := by
  refine Fc.of_body (N := 19) Tryz.func84 rfl (by kernel_rfl) rfl rfl ?_
  intro w0
  obtain ⟨Aa0, ca0, rfl, hca0, hda0, ha0⟩ := ha0.shape
  refine T.seq ?_
  refine T.region ?_
  refine R.asE rfl (by conv => lhs; whnf) ?_
  refine TL.nil (Post.thnN ?_)
  refine T.seq ?_
  refine T.seq ?_
  refine T.region ?_
  refine R.mvE rfl (by conv => lhs; whnf) ?_
  refine R.len Tryz.underlying23 rfl rfl ?_
  refine R.mvE rfl (by conv => lhs; whnf) ?_
  refine TL.nil (Post.thnN ?_)
  refine T.block ?_
  refine T.loop (ι := Nat) (fun kl1 H' L' ds' => kl1 ≤ a0.length ∧ Has L' [] ∧ slices_IndexFunc_Held_l1 a1 (a0.drop kl1) kl1 () = slices_IndexFunc_Held_l1 a1 a0 0 ()) (fun kl1 => [(8, .int .i64 (kl1 : Int)), (0, .slice Aa0 a0.length ca0), (1, fa1), (7, .int .i64 (a0.length : Int))]) (fun kl1 => a0.length - kl1) 0 ?_ ?_ ?_
  · exact ⟨(by omega), Has.nil, (by rfl)⟩
  · exact ⟨rfl, rfl, rfl, rfl, trivial⟩
  · intro kl1 σ_l1 H_l1 L_l1 ds_l1 s_l1 hI_l1
    obtain ⟨hkl1, hI_l1⟩ := hI_l1
    obtain ⟨hLl1, hQl1⟩ := hI_l1
    refine T.has hLl1 ?_
    refine T.seq ?_
    refine T.region ?_
    refine R.lss rfl rfl rfl ?_
    refine TL.nil (Post.thnN ?_)
    refine T.seq ?_
    refine T.condD rfl (fun c9 => ?_) (fun c9 => ?_)
    · have hltl1 : kl1 < a0.length := by omega
      obtain ⟨yl1, hyl1⟩ := getk (xs := a0) (k := kl1) (by omega)
      refine T.skip (Post.thnN ?_)
      refine T.seq ?_
      refine T.block ?_
      refine T.seq ?_
      refine T.region ?_
      refine R.mvE rfl (by conv => lhs; whnf) ?_
      refine R.asE rfl (by conv => lhs; whnf) ?_
      refine TL.nil (Post.thnN ?_)
      refine T.seq ?_
      refine T.region ?_
      refine R.mvE rfl (by conv => lhs; whnf) ?_
      refine R.mvE rfl (by conv => lhs; whnf) ?_
      refine R.mvE rfl (by conv => lhs; whnf) ?_
      obtain ⟨b14, o14, i14, k14⟩ := RdS.elem (ha0.mono s_l1) hyl1
      obtain ⟨l14, g14, k14⟩ := k14
      obtain rfl : l14 = [.int .i64 (yl1.1), .int .u64 (yl1.2)] := g14
      refine R.ixp Tryz.underlying23 Tryz.sizeOf50 rfl rfl rfl (by omega) i14 ?_
      refine R.ldK (l := [.int .i64 (yl1.1), .int .u64 (yl1.2)]) Tryz.isAgg50 Tryz.sizeOf50 rfl rfl k14 rfl ?_
      refine R.callv rfl rfl rfl (ha1 _ s_l1 yl1) ?_
      refine TL.nil (Post.thnN ?_)
      refine T.cond rfl (fun c16 => ?_) (fun c16 => ?_)
      · refine T.set 16 (.bool true) (congrArg Value.bool c16) ?_
        refine T.seq ?_
        refine T.region ?_
        refine R.mvE rfl (by conv => lhs; whnf) ?_
        refine R.asE rfl (by conv => lhs; whnf) ?_
        refine TL.nil (Post.thnN ?_)
        refine T.has Has.nil ?_
        refine T.ret (Post.blkR (Post.thnR (Post.thnR (Post.blkR (Post.thnR ?_)))))
        have hXl1 : slices_IndexFunc_Held_l1 a1 a0 0 () = .ret ((kl1 : Int)) := by rw [← hQl1, drop_cons hyl1, slices_IndexFunc_Held_l1]; rw [if_t c16]
        have hM : slices_IndexFunc_Held_m a0 a1 = (kl1 : Int) := by rw [slices_IndexFunc_Held_m, hXl1, LR.on_ret]
        exact fin1L (v := .int .i64 (kl1 : Int)) [] rfl rfl (List.Sublist.refl _) ⟨rfl, by first | rw [hM] | rfl⟩
      · refine T.set 16 (.bool false) (congrArg Value.bool c16) ?_
        refine T.skip (Post.blkN ?_)
        refine id (Post.thnN ?_)
        refine T.region ?_
        refine R.addI rfl rfl rfl (by omega) ?_
        refine R.mvE rfl (by conv => lhs; whnf) ?_
        refine TL.nil (Post.thnN ?_)
        exact ⟨kl1 + 1, s_l1, ⟨(by omega), Has.nil, (by rw [← hQl1, drop_cons hyl1, slices_IndexFunc_Held_l1]; rw [if_f c16])⟩, by show a0.length - (kl1 + 1) < a0.length - kl1; omega, rfl, rfl, rfl, rfl, trivial⟩
    · refine T.exit (Post.thnE (Post.thnE (Post.blkX ?_)))
      have hEl1 : slices_IndexFunc_Held_l1 a1 a0 0 () = .go () := (hQl1.symm.trans (by rw [show kl1 = a0.length by omega, List.drop_length, slices_IndexFunc_Held_l1]))
      refine id (Post.thnN ?_)
      refine T.seq ?_
      refine T.region ?_
      refine R.asE rfl (by conv => lhs; whnf) ?_
      refine TL.nil (Post.thnN ?_)
      refine T.has Has.nil ?_
      refine T.ret ?_
      have hM : slices_IndexFunc_Held_m a0 a1 = (-1) := by rw [slices_IndexFunc_Held_m, hEl1, LR.on_go]
      exact fin1L (v := .int .i64 (-1)) [] rfl rfl (List.Sublist.refl _) ⟨rfl, by first | rw [hM] | rfl⟩

def slices_ContainsFunc_Held_m (a0 : List (Int × Int)) (a1 : (Int × Int) → Bool) : Bool :=
  (decide ((0 : Int) ≤ (slices_IndexFunc_Held_m a0 a1)))
set_option maxHeartbeats 3200000 in
theorem slices_ContainsFunc_Held_c (H : Heap) (va0 : Value) (a0 : List (Int × Int)) (ha0 : RdS heldE H va0 a0) (fa1 : Value) (a1 : (Int × Int) → Bool) (ha1 : ∀ H', HLe H H' → ∀ (z0 : Int × Int), Fv Tryz.prog fa1 [.agg #[.int .i64 z0.1, .int .u64 z0.2]] H' (.bool (a1 z0))) : Fv Tryz.prog (fnv 43) [va0, fa1] H (.bool (slices_ContainsFunc_Held_m a0 a1)) := by
  refine Fc.of_body (N := 9) Tryz.func43 rfl (by kernel_rfl) rfl rfl ?_
  intro w0
  obtain ⟨Aa0, ca0, rfl, hca0, hda0, ha0⟩ := ha0.shape
  refine T.seq ?_
  refine T.region ?_
  refine R.asE rfl (by conv => lhs; whnf) ?_
  refine TL.nil (Post.thnN ?_)
  refine T.seq ?_
  refine T.region ?_
  refine R.mvE rfl (by conv => lhs; whnf) ?_
  refine R.mvE rfl (by conv => lhs; whnf) ?_
  refine R.callv rfl rfl rfl (slices_IndexFunc_Held_c _ _ a0 ha0 _ a1 (fun H' h' => ha1 H' ((HLe.refl _).trans h'))) ?_
  refine R.geq rfl rfl rfl ?_
  refine R.asE rfl (by conv => lhs; whnf) ?_
  refine TL.nil (Post.thnN ?_)
  refine T.has Has.nil ?_
  refine T.ret ?_
  have hM : slices_ContainsFunc_Held_m a0 a1 = (decide ((0 : Int) ≤ (slices_IndexFunc_Held_m a0 a1))) := by rw [slices_ContainsFunc_Held_m]
  exact fin1L (v := .bool (decide ((0 : Int) ≤ (slices_IndexFunc_Held_m a0 a1)))) [] rfl rfl (List.Sublist.refl _) ⟨rfl, by first | rw [hM] | rfl⟩

def plan_Closed_1_m (q0 : List Int) (a0 : Int × Int) : Bool :=
  (decide (¬ (a0.1 ∈ q0)))
set_option maxHeartbeats 3200000 in
theorem plan_Closed_1_c (H : Heap) (b1000 : Nat) (vq0 : Value) (q0 : List Int) (hq0 : RdS (intE .i64) H vq0 q0) (hb0 : H b1000 = some (.cells #[vq0] 30)) (a0 : Int × Int) : Fv Tryz.prog (.func (.func 44) #[] ([.pointer (some ⟨b1000, 0, none⟩)] : List Value).toArray) [.agg #[.int .i64 a0.1, .int .u64 a0.2]] H (.bool (plan_Closed_1_m q0 a0)) := by
  refine Fc.of_body (N := 9) Tryz.func44 rfl (by kernel_rfl) rfl rfl ?_
  intro w0
  obtain ⟨Aq0, cq0, rfl, hcq0, hdq0, hq0⟩ := hq0.shape
  refine T.seq ?_
  refine T.region ?_
  refine R.box rfl (by conv => lhs; whnf) ?_
  intro b2
  refine R.asE rfl (by conv => lhs; whnf) ?_
  refine TL.shut .hd ?_
  intro Hb2_1 sb2_1 qb2_1
  have hb2_1 : Hb2_1 b2 = some (.cells #[.int .i64 (a0.1), .int .u64 (a0.2)] 50) := shut1 qb2_1
  refine TL.nil (Post.thnN ?_)
  refine T.seq ?_
  refine T.region ?_
  refine R.ldH Tryz.isAgg30 rfl rfl (sb2_1 _ _ hb0) rfl ?_
  refine R.fldA Tryz.underlying50 rfl Tryz.sizeOf3 (by decide) rfl rfl ?_
  refine R.ldH Tryz.isAgg3 rfl rfl hb2_1 rfl ?_
  refine R.callv rfl rfl rfl (slices_Contains_int_d _ _ q0 (hq0.mono sb2_1) a0.1) ?_
  refine R.notD rfl rfl ?_
  refine R.asE rfl (by conv => lhs; whnf) ?_
  refine TL.nil (Post.thnN ?_)
  refine T.has Has.nil ?_
  refine T.ret ?_
  have hM : plan_Closed_1_m q0 a0 = (decide (¬ (a0.1 ∈ q0))) := by rw [plan_Closed_1_m]
  exact fin1L (v := .bool (decide (¬ (a0.1 ∈ q0)))) [] rfl rfl (List.Sublist.refl _) ⟨rfl, by first | rw [hM] | rfl⟩

def plan_Closed_l1 (a2 : List Int) (r20 : (Int → List (Int × Int))) : List Int → Unit → LR (Bool × Int) (Unit)
  | [], sl1 => .go ()
  | yl1 :: ysl1, sl1 => LR.seq (slices_ContainsFunc_Held_m ((r20 yl1)) ((fun z0 => plan_Closed_1_m a2 z0))) (fun r31 => if r31 = true then (.ret ((false, 0))) else (plan_Closed_l1 a2 r20 ysl1 ()))
def plan_Closed_m (a0 : List (Int × (Bool × Bool × Int × Int × Int))) (a1 : List (Int × Int)) (a2 : List Int) : Bool × Int :=
  if ((plan_Check_m a0 a1) : Int) ≠ 0 then ((false, (plan_Check_m a0 a1))) else (LR.seq (plan_killers_m a0 a1) (fun r20 => LR.on (plan_Closed_l1 a2 r20 a2 ()) (fun r => r) (fun ol1 => (true, 0))))
set_option maxHeartbeats 3200000 in
theorem plan_Closed_c (H : Heap) {tG0 : TypeId} (hG0 : H 0 = some (.cells #[.int .i64 1, .bool true, .bool true, .int .i64 0, .int .i64 1, .int .i64 2, .int .i64 2, .bool true, .bool false, .int .i64 0, .int .i64 0, .int .i64 2] tG0)) (va0 : Value) (a0 : List (Int × (Bool × Bool × Int × Int × Int))) (ha0 : RdS relationE H va0 a0) (va1 : Value) (a1 : List (Int × Int)) (ha1 : RdS heldE H va1 a1) (va2 : Value) (a2 : List Int) (ha2 : RdS (intE .i64) H va2 a2) (hl : a0.length ≤ 2000000) (hh : a1.length ≤ 100) : Fv Tryz.prog (fnv 10) [va0, va1, va2] H (.tuple #[.bool (plan_Closed_m a0 a1 a2).1, .int .i64 (plan_Closed_m a0 a1 a2).2]) := by
  refine Fc.of_body (N := 33) Tryz.func10 rfl (by kernel_rfl) rfl rfl ?_
  intro w0
  obtain ⟨Aa0, ca0, rfl, hca0, hda0, ha0⟩ := ha0.shape
  obtain ⟨Aa1, ca1, rfl, hca1, hda1, ha1⟩ := ha1.shape
  obtain ⟨Aa2, ca2, rfl, hca2, hda2, ha2⟩ := ha2.shape
  refine T.seq ?_
  refine T.region ?_
  refine R.box rfl (by conv => lhs; whnf) ?_
  intro b5
  refine R.asE rfl (by conv => lhs; whnf) ?_
  refine R.asE rfl (by conv => lhs; whnf) ?_
  refine TL.shut .hd ?_
  intro Hb5_1 sb5_1 qb5_1
  have hb5_1 : Hb5_1 b5 = some (.cells #[.slice Aa2 a2.length ca2] 30) := shut1 qb5_1
  refine TL.nil (Post.thnN ?_)
  refine T.seq ?_
  refine T.seq ?_
  refine T.region ?_
  refine R.mvE rfl (by conv => lhs; whnf) ?_
  refine R.mvE rfl (by conv => lhs; whnf) ?_
  refine R.callv rfl rfl rfl (plan_Check_c _ (sb5_1 _ _ hG0) _ a0 (ha0.mono sb5_1) _ a1 (ha1.mono sb5_1) (by first | omega | (simp; done) | (simp; omega) | (simp at *; omega))) ?_
  refine R.asE rfl (by conv => lhs; whnf) ?_
  refine TL.nil (Post.thnN ?_)
  refine T.seq ?_
  refine T.region ?_
  refine R.mvE rfl (by conv => lhs; whnf) ?_
  refine R.neq rfl rfl rfl ?_
  refine TL.nil (Post.thnN ?_)
  refine T.condD rfl (fun c16 => ?_) (fun c16 => ?_)
  · refine T.set 16 (.bool true) (congrArg Value.bool (decide_eq_true c16)) ?_
    refine T.seq ?_
    refine T.region ?_
    refine R.mvE rfl (by conv => lhs; whnf) ?_
    refine R.asE rfl (by conv => lhs; whnf) ?_
    refine R.asE rfl (by conv => lhs; whnf) ?_
    refine TL.nil (Post.thnN ?_)
    refine T.has Has.nil ?_
    refine T.ret (Post.thnR ?_)
    have hM : plan_Closed_m a0 a1 a2 = (false, (plan_Check_m a0 a1)) := by rw [plan_Closed_m, if_pos c16]
    exact fin2L (v := .bool false) (v' := .int .i64 (plan_Check_m a0 a1)) [] rfl rfl rfl (List.Sublist.refl _) ⟨rfl, by first | rw [hM] | rfl⟩
  · refine T.set 16 (.bool false) (congrArg Value.bool (decide_eq_false c16)) ?_
    refine T.skip (Post.thnN ?_)
    refine T.seq ?_
    refine T.region ?_
    refine R.mvE rfl (by conv => lhs; whnf) ?_
    refine R.mvE rfl (by conv => lhs; whnf) ?_
    obtain ⟨r20, er20⟩ : ∃ r, r = (plan_killers_m a0 a1) := ⟨_, rfl⟩
    refine R.callp rfl rfl rfl (plan_killers_c _ (sb5_1 _ _ hG0) _ a0 (ha0.mono sb5_1) _ a1 (ha1.mono sb5_1) (by first | omega | (simp; done) | (simp; omega) | (simp at *; omega)) (by first | omega | (simp; done) | (simp; omega) | (simp at *; omega))) ?_
    intro v20 H20 s20 q20
    rw [← er20] at q20
    obtain ⟨u20_0_0, rfl, w20_0_0⟩ := q20
    have hby20 : ByOk r20 := kill_by _ _ _ er20 (by first | omega | (simp; done) | (simp; omega) | (simp at *; omega))
    refine R.asE rfl (by conv => lhs; whnf) ?_
    refine TL.nil (Post.thnN ?_)
    refine T.seq ?_
    refine T.seq ?_
    refine T.region ?_
    refine R.ldH Tryz.isAgg30 rfl rfl (s20 _ _ hb5_1) rfl ?_
    refine R.len Tryz.underlying30 rfl rfl ?_
    refine R.mvE rfl (by conv => lhs; whnf) ?_
    refine TL.nil (Post.thnN ?_)
    refine T.block ?_
    refine T.loop (ι := Nat) (fun kl1 H' L' ds' => kl1 ≤ a2.length ∧ Has L' [] ∧ plan_Closed_l1 a2 r20 (a2.drop kl1) () = plan_Closed_l1 a2 r20 a2 ()) (fun kl1 => [(23, .int .i64 (kl1 : Int)), (5, .pointer (some ⟨b5, 0, none⟩)), (9, .map (some u20_0_0)), (21, .slice Aa2 a2.length ca2), (22, .int .i64 (a2.length : Int))]) (fun kl1 => a2.length - kl1) 0 ?_ ?_ ?_
    · exact ⟨(by omega), Has.nil, (by rfl)⟩
    · exact ⟨rfl, rfl, rfl, rfl, rfl, trivial⟩
    · intro kl1 σ_l1 H_l1 L_l1 ds_l1 s_l1 hI_l1
      obtain ⟨hkl1, hI_l1⟩ := hI_l1
      obtain ⟨hLl1, hQl1⟩ := hI_l1
      refine T.has hLl1 ?_
      refine T.seq ?_
      refine T.region ?_
      refine R.lss rfl rfl rfl ?_
      refine TL.nil (Post.thnN ?_)
      refine T.seq ?_
      refine T.condD rfl (fun c24 => ?_) (fun c24 => ?_)
      · have hltl1 : kl1 < a2.length := by omega
        obtain ⟨yl1, hyl1⟩ := getk (xs := a2) (k := kl1) (by omega)
        refine T.skip (Post.thnN ?_)
        refine T.seq ?_
        refine T.block ?_
        refine T.seq ?_
        refine T.region ?_
        obtain ⟨b25, o25, i25, k25⟩ := RdS.elem (ha2.mono (sb5_1.trans (s20.trans s_l1))) hyl1
        obtain ⟨l25, g25, k25⟩ := k25
        obtain rfl : l25 = [.int .i64 yl1] := g25
        refine R.ixp Tryz.underlying30 Tryz.sizeOf3 rfl rfl rfl (by omega) i25 ?_
        refine R.ldC Tryz.isAgg3 rfl rfl (k25 0 _ rfl) ?_
        refine R.asE rfl (by conv => lhs; whnf) ?_
        refine TL.nil (Post.thnN ?_)
        refine T.seq ?_
        refine T.region ?_
        refine R.mvE rfl (by conv => lhs; whnf) ?_
        refine R.mvE rfl (by conv => lhs; whnf) ?_
        refine R.lkuR (m := r20) Tryz.underlying75 Tryz.underlying3 Tryz.zeroValue23 rfl rfl rfl (w20_0_0.mono s_l1) ?_
        intro v29 w29
        obtain ⟨A29, p29, rfl, m29, n29, w29⟩ := RdS.shape w29
        refine R.mkf (cs := [_]) rfl rfl ?_
        obtain ⟨r31, er31⟩ : ∃ r, r = (slices_ContainsFunc_Held_m ((r20 yl1)) ((fun z0 => plan_Closed_1_m a2 z0))) := ⟨_, rfl⟩
        refine R.callv (v := .bool r31) rfl rfl rfl (by rw [er31]; exact slices_ContainsFunc_Held_c _ _ ((r20 yl1)) w29 _ (fun z0 => plan_Closed_1_m a2 z0) (fun H2 h2 z0 => plan_Closed_1_c H2 b5 _ a2 ((ha2.mono (sb5_1.trans (s20.trans s_l1))).mono h2) (h2 _ _ ((s20.trans s_l1) _ _ hb5_1)) z0)) ?_
        refine TL.nil (Post.thnN ?_)
        refine T.cond rfl (fun c31 => ?_) (fun c31 => ?_)
        · refine T.set 31 (.bool true) (congrArg Value.bool c31) ?_
          refine T.seq ?_
          refine T.region ?_
          refine R.asE rfl (by conv => lhs; whnf) ?_
          refine R.asE rfl (by conv => lhs; whnf) ?_
          refine TL.nil (Post.thnN ?_)
          refine T.has Has.nil ?_
          refine T.ret (Post.blkR (Post.thnR (Post.thnR (Post.blkR (Post.thnR ?_)))))
          have hXl1 : plan_Closed_l1 a2 r20 a2 () = .ret ((false, 0)) := by subst er31; rw [← hQl1, drop_cons hyl1, plan_Closed_l1]; rw [LR.seq_go, if_t c31]
          have hM : plan_Closed_m a0 a1 a2 = (false, 0) := by subst er20; rw [plan_Closed_m, if_neg c16, LR.seq_go, hXl1, LR.on_ret]
          exact fin2L (v := .bool false) (v' := .int .i64 0) [] rfl rfl rfl (List.Sublist.refl _) ⟨rfl, by first | rw [hM] | rfl⟩
        · refine T.set 31 (.bool false) (congrArg Value.bool c31) ?_
          refine T.skip (Post.blkN ?_)
          refine id (Post.thnN ?_)
          refine T.region ?_
          refine R.addI rfl rfl rfl (by omega) ?_
          refine R.mvE rfl (by conv => lhs; whnf) ?_
          refine TL.nil (Post.thnN ?_)
          exact ⟨kl1 + 1, s_l1, ⟨(by omega), Has.nil, (by subst er31; rw [← hQl1, drop_cons hyl1, plan_Closed_l1]; rw [LR.seq_go, if_f c31])⟩, by show a2.length - (kl1 + 1) < a2.length - kl1; omega, rfl, rfl, rfl, rfl, rfl, trivial⟩
      · refine T.exit (Post.thnE (Post.thnE (Post.blkX ?_)))
        have hEl1 : plan_Closed_l1 a2 r20 a2 () = .go () := (hQl1.symm.trans (by rw [show kl1 = a2.length by omega, List.drop_length, plan_Closed_l1]))
        refine id (Post.thnN ?_)
        refine T.seq ?_
        refine T.region ?_
        refine R.asE rfl (by conv => lhs; whnf) ?_
        refine R.asE rfl (by conv => lhs; whnf) ?_
        refine TL.nil (Post.thnN ?_)
        refine T.has Has.nil ?_
        refine T.ret ?_
        have hM : plan_Closed_m a0 a1 a2 = (true, 0) := by subst er20; rw [plan_Closed_m, if_neg c16, LR.seq_go, hEl1, LR.on_go]
        exact fin2L (v := .bool true) (v' := .int .i64 0) [] rfl rfl rfl (List.Sublist.refl _) ⟨rfl, by first | rw [hM] | rfl⟩

def plan_Why_r3 (a3 : Int) : List (Int × (List (Int × Int))) → ((List (Int × Int)) × Int) → LR ((List (Int × Int)) × Int) ((List (Int × Int)) × Int)
  | [], sr3 => .go sr3
  | yr3 :: ysr3, sr3 => if yr3.1 = a3 then (.ret ((yr3.2, 0))) else (plan_Why_r3 a3 ysr3 ((sr3.1, sr3.2)))
def plan_Why_m (a0 : List (Int × (Bool × Bool × Int × Int × Int))) (a1 : List (Int × Int)) (a2 : Int) (a3 : Int) : (List (Int × Int)) × Int :=
  if ((plan_Check_m a0 a1) : Int) ≠ 0 then (([], (plan_Check_m a0 a1))) else (LR.seq (if (!(plan_index_m a2)) = true then true else ((!(plan_index_m a3))) : Bool) (fun sc1 => if sc1 = true then (([], 2)) else (LR.seq (plan_killers_m a0 a1) (fun r31 => LR.seq (plan_deaths_m r31 [a2]) (fun r34 => LR.seq (LR.on (plan_Why_r3 a3 r34 (([], 4))) (fun br3 => (br3.1, br3.2)) (fun or3 => (or3.1, or3.2)) : (List (Int × Int)) × Int) (fun sc2 => (sc2.1, sc2.2)))))))
set_option maxHeartbeats 3200000 in
theorem plan_Why_c (H : Heap) {tG0 : TypeId} (hG0 : H 0 = some (.cells #[.int .i64 1, .bool true, .bool true, .int .i64 0, .int .i64 1, .int .i64 2, .int .i64 2, .bool true, .bool false, .int .i64 0, .int .i64 0, .int .i64 2] tG0)) (va0 : Value) (a0 : List (Int × (Bool × Bool × Int × Int × Int))) (ha0 : RdS relationE H va0 a0) (va1 : Value) (a1 : List (Int × Int)) (ha1 : RdS heldE H va1 a1) (a2 : Int) (a3 : Int) (hl : a0.length ≤ 2000000) (hh : a1.length ≤ 100) : Fc Tryz.prog (fnv 24) [va0, va1, .int .i64 a2, .int .i64 a3] H [] (fun v' H' L' => ∃ u0_0 c0_0, v' = .tuple #[u0_0, .int .i64 (plan_Why_m a0 a1 a2 a3).2] ∧ L' = [c0_0] ∧ OwnS heldE 50 H' u0_0 (plan_Why_m a0 a1 a2 a3).1 c0_0) := by
  refine Fc.of_body (N := 44) Tryz.func24 rfl (by kernel_rfl) rfl rfl ?_
  intro w0
  obtain ⟨Aa0, ca0, rfl, hca0, hda0, ha0⟩ := ha0.shape
  obtain ⟨Aa1, ca1, rfl, hca1, hda1, ha1⟩ := ha1.shape
  refine T.seq ?_
  refine T.region ?_
  refine R.box rfl (by conv => lhs; whnf) ?_
  intro b7
  refine R.asE rfl (by conv => lhs; whnf) ?_
  refine R.asE rfl (by conv => lhs; whnf) ?_
  refine TL.shut .hd ?_
  intro Hb7_1 sb7_1 qb7_1
  have hb7_1 : Hb7_1 b7 = some (.cells #[.int .i64 a3] 3) := shut1 qb7_1
  refine TL.nil (Post.thnN ?_)
  refine T.scope ?_
  refine T.seq ?_
  refine T.seq ?_
  refine T.region ?_
  refine R.mvE rfl (by conv => lhs; whnf) ?_
  refine R.mvE rfl (by conv => lhs; whnf) ?_
  refine R.callv rfl rfl rfl (plan_Check_c _ (sb7_1 _ _ hG0) _ a0 (ha0.mono sb7_1) _ a1 (ha1.mono sb7_1) (by first | omega | (simp; done) | (simp; omega) | (simp at *; omega))) ?_
  refine R.asE rfl (by conv => lhs; whnf) ?_
  refine TL.nil (Post.thnN ?_)
  refine T.seq ?_
  refine T.region ?_
  refine R.mvE rfl (by conv => lhs; whnf) ?_
  refine R.neq rfl rfl rfl ?_
  refine TL.nil (Post.thnN ?_)
  refine T.condD rfl (fun c19 => ?_) (fun c19 => ?_)
  · refine T.set 19 (.bool true) (congrArg Value.bool (decide_eq_true c19)) ?_
    refine T.seq ?_
    refine T.region ?_
    refine R.mvE rfl (by conv => lhs; whnf) ?_
    refine R.asE rfl (by conv => lhs; whnf) ?_
    refine R.asE rfl (by conv => lhs; whnf) ?_
    refine TL.nil (Post.thnN ?_)
    refine T.has (Has.none Has.nil) ?_
    refine T.ret (Post.thnR (Post.ngR ?_))
    have hM : plan_Why_m a0 a1 a2 a3 = ([], (plan_Check_m a0 a1)) := by rw [plan_Why_m, if_pos c19]
    exact fin2L (v := .slice none 0 0) (v' := .int .i64 (plan_Check_m a0 a1)) [[]] rfl rfl rfl (List.Sublist.refl _) ⟨.slice none 0 0, [], by first | rw [hM] | rfl, rfl, by rw [hM]; exact OwnS.nil⟩
  · refine T.set 19 (.bool false) (congrArg Value.bool (decide_eq_false c19)) ?_
    refine T.skip (Post.thnN ?_)
    refine T.seq ?_
    refine T.seq ?_
    refine T.cutK (ι := Bool) (fun b28c1 H' L' ds' => Has L' [] ∧ (if (!(plan_index_m a2)) = true then true else ((!(plan_index_m a3))) : Bool) = b28c1) (fun b28c1 => [(0, .slice Aa0 a0.length ca0), (1, .slice Aa1 a1.length ca1), (2, .int .i64 a2), (7, .pointer (some ⟨b7, 0, none⟩)), (28, .bool (b28c1))]) ?_ ?_
    · refine T.region ?_
      refine R.mvE rfl (by conv => lhs; whnf) ?_
      refine R.callv rfl rfl rfl (plan_index_c _ (a2)) ?_
      refine R.not rfl rfl ?_
      refine R.mvE rfl (by conv => lhs; whnf) ?_
      refine TL.gsplit 24 rfl (fun g24 => ?_) (fun g24 => ?_)
      · refine TL.off rfl rfl rfl ?_
        refine TL.off rfl rfl rfl ?_
        refine TL.off rfl rfl rfl ?_
        refine R.pkTE rfl rfl (by conv => lhs; whnf) ?_
        refine TL.nil (Post.thnN ?_)
        exact ⟨true, HLe.refl _, ⟨Has.nil, (by rw [if_t g24])⟩, rfl, rfl, rfl, rfl, rfl, trivial⟩
      · refine R.ldH Tryz.isAgg3 rfl rfl hb7_1 rfl ?_
        refine R.callv rfl rfl rfl (plan_index_c _ (a3)) ?_
        refine R.not rfl rfl ?_
        refine R.pkFE rfl rfl (by conv => lhs; whnf) ?_
        refine TL.nil (Post.thnN ?_)
        exact ⟨(!(plan_index_m a3)), HLe.refl _, ⟨Has.nil, (by rw [if_f g24])⟩, rfl, rfl, rfl, rfl, rfl, trivial⟩
    · intro b28c1 σ_c1 H_c1 L_c1 ds_c1 s_c1 hI_c1
      obtain ⟨hLc1, hTc1⟩ := hI_c1
      refine T.has hLc1 ?_
      refine T.cond rfl (fun c28 => ?_) (fun c28 => ?_)
      · refine T.set 28 (.bool true) (congrArg Value.bool c28) ?_
        have hZ28 := hTc1.trans c28
        try simp only [or_f, or_t, and_f, and_t, decide_eq_true_eq, decide_eq_false_iff_not, Bool.not_eq_true'] at hZ28
        refine T.seq ?_
        refine T.region ?_
        refine R.asE rfl (by conv => lhs; whnf) ?_
        refine R.asE rfl (by conv => lhs; whnf) ?_
        refine TL.nil (Post.thnN ?_)
        refine T.has (Has.none Has.nil) ?_
        refine T.ret (Post.thnR (Post.ngR ?_))
        have hM : plan_Why_m a0 a1 a2 a3 = ([], 2) := by rw [plan_Why_m, if_neg c19, hTc1, LR.seq_go, if_t c28]
        exact fin2L (v := .slice none 0 0) (v' := .int .i64 2) [[]] rfl rfl rfl (List.Sublist.refl _) ⟨.slice none 0 0, [], by first | rw [hM] | rfl, rfl, by rw [hM]; exact OwnS.nil⟩
      · refine T.set 28 (.bool false) (congrArg Value.bool c28) ?_
        have hZ28 := hTc1.trans c28
        try simp only [or_f, or_t, and_f, and_t, decide_eq_true_eq, decide_eq_false_iff_not, Bool.not_eq_true'] at hZ28
        refine T.skip (Post.thnN ?_)
        refine T.seq ?_
        refine T.region ?_
        refine R.alloc Tryz.zeroValue28 rfl ?_
        intro b11
        refine R.stX (old := [.int .i64 0]) (l := [.int .i64 4]) (new := [.int .i64 4]) (et := 28) Tryz.sizeOf28 rfl rfl rfl (cells1 rfl) rfl (by show 0 + 1 ≤ 1; decide) rfl (all_one rfl) .hd ?_
        refine TL.nil (Post.thnN ?_)
        refine T.seq ?_
        refine T.region ?_
        refine R.alloc Tryz.zeroValue23 rfl ?_
        intro b12
        refine TL.nil (Post.thnN ?_)
        refine T.seq ?_
        refine T.label (Post.thnN ?_)
        refine T.seq ?_
        refine T.seq ?_
        refine T.region ?_
        refine R.mvE rfl (by conv => lhs; whnf) ?_
        refine R.mvE rfl (by conv => lhs; whnf) ?_
        obtain ⟨r31, er31⟩ : ∃ r, r = (plan_killers_m a0 a1) := ⟨_, rfl⟩
        refine R.callp rfl rfl rfl (plan_killers_c _ ((sb7_1.trans s_c1) _ _ hG0) _ a0 (ha0.mono (sb7_1.trans s_c1)) _ a1 (ha1.mono (sb7_1.trans s_c1)) (by first | omega | (simp; done) | (simp; omega) | (simp at *; omega)) (by first | omega | (simp; done) | (simp; omega) | (simp at *; omega))) ?_
        intro v31 H31 s31 q31
        rw [← er31] at q31
        obtain ⟨u31_0_0, rfl, w31_0_0⟩ := q31
        have hby31 : ByOk r31 := kill_by _ _ _ er31 (by first | omega | (simp; done) | (simp; omega) | (simp at *; omega))
        refine R.mvE rfl (by conv => lhs; whnf) ?_
        refine R.bs rfl (run_buildSlice1 Tryz.underlying30 Tryz.sizeOf3 Tryz.zeroValue3 rfl rfl) ?_
        intro b33
        have w33 : OwnS (intE .i64) 3 H31 (.slice (some ⟨b33, 0, none⟩) 1 1) [a2] [(b33, .cells #[.int .i64 a2] 3)] := OwnS.lit (xs := [a2]) (cellsOf_cons (a := [.int .i64 a2]) rfl cellsOf_nil) (by show 1 ≤ maxLen; decide)
        refine TL.shut .hd ?_
        intro HF33_2 sF33_2 qF33_2
        have fF33_2 := OwnS.read w33 sF33_2 qF33_2
        obtain ⟨r34, er34⟩ : ∃ r, r = (plan_deaths_m r31 [a2]) := ⟨_, rfl⟩
        refine R.callp rfl rfl rfl (plan_deaths_c _ _ r31 (w31_0_0.mono sF33_2) _ [a2] fF33_2 (by first | omega | (simp; done) | (simp; omega) | (simp at *; omega)) (by first | omega | (simp; done) | (simp; omega) | (simp at *; omega))) ?_
        intro v34 H34 s34 q34
        rw [← er34] at q34
        obtain ⟨u34_0_0, rfl, w34_0_0⟩ := q34
        have td34 := deaths_facts _ _ _ er34 (by assumption) (by first | omega | (simp; done) | (simp; omega) | (simp at *; omega))
        refine TL.nil (Post.thnN ?_)
        refine T.cutK (ι := Value × (List (Int × Int)) × Chunk × Int) (fun ⟨vb12c2_0, xb12c2_0, cb12c2_0, nb11c2_0⟩ H' L' ds' => Has L' [[(b12, .cells #[vb12c2_0] 23)], [(b11, .cells #[.int .i64 nb11c2_0] 28)], cb12c2_0] ∧ OwnS heldE 50 H' vb12c2_0 xb12c2_0 cb12c2_0 ∧ (LR.on (plan_Why_r3 a3 r34 (([], 4))) (fun br3 => (br3.1, br3.2)) (fun or3 => (or3.1, or3.2)) : (List (Int × Int)) × Int) = (xb12c2_0, nb11c2_0)) (fun ⟨vb12c2_0, xb12c2_0, cb12c2_0, nb11c2_0⟩ => [(11, .pointer (some ⟨b11, 0, none⟩)), (12, .pointer (some ⟨b12, 0, none⟩))]) ?_ ?_
        · refine T.block ?_
          refine T.rangeFunc (xs := r34) rfl rfl (enters_of Tryz.func76 (by kernel_rfl) rfl) w34_0_0 (fun _ _ _ h => by obtain ⟨_, rfl, _⟩ := h; rfl) rfl (fun pre H' L' => ∃ (vb12r3_0 : Value) (xb12r3_0 : List (Int × Int)) (cb12r3_0 : Chunk) (nb11r3_0 : Int), Has L' [[(b12, .cells #[vb12r3_0] 23)], [(b11, .cells #[.int .i64 nb11r3_0] 28)], cb12r3_0] ∧ OwnS heldE 50 H' vb12r3_0 xb12r3_0 cb12r3_0 ∧ plan_Why_r3 a3 (r34.drop pre.length) ((xb12r3_0, nb11r3_0)) = plan_Why_r3 a3 r34 (([], 4))) (fun c pre H' L' => c = .exit 0 ∧ ∃ (vb12r3_0 : Value) (xb12r3_0 : List (Int × Int)) (cb12r3_0 : Chunk) (nb11r3_0 : Int), Has L' [[(b12, .cells #[vb12r3_0] 23)], [(b11, .cells #[.int .i64 nb11r3_0] 28)], cb12r3_0] ∧ OwnS heldE 50 H' vb12r3_0 xb12r3_0 cb12r3_0 ∧ plan_Why_r3 a3 r34 (([], 4)) = .ret ((xb12r3_0, nb11r3_0))) (fun pre H H' L hle ⟨vb12r3_0, xb12r3_0, cb12r3_0, nb11r3_0, hL, wb12r3_0, hQ⟩ => ⟨vb12r3_0, xb12r3_0, cb12r3_0, nb11r3_0, hL, (wb12r3_0.mono hle), hQ⟩) (fun c pre H H' L hle ⟨hc, vb12r3_0, xb12r3_0, cb12r3_0, nb11r3_0, hL, wb12r3_0, hQ⟩ => ⟨hc, vb12r3_0, xb12r3_0, cb12r3_0, nb11r3_0, hL, (wb12r3_0.mono hle), hQ⟩) ?_ ?_ ?_ ?_
          · exact ⟨.slice none 0 0, [], [], 4, (Has.cons .hd (Has.cons .hd (Has.none Has.nil))), OwnS.nil, (by rfl)⟩
          · intro lr3 rr3 wr3 prer3 yr3 vsr3 Hr3 Lr3 sr3 hpr3 hIr3 hYr3
            obtain ⟨vb12r3_0, xb12r3_0, cb12r3_0, nb11r3_0, hLr3, wb12r3_0, hQr3⟩ := hIr3
            obtain ⟨Ab12r3_0, pb12r3_0, rfl, mb12r3_0, nb12r3_0_⟩ := OwnS.shape wb12r3_0
            obtain ⟨zYr3_1_0, rfl, rYr3_1_0⟩ := hYr3
            obtain ⟨AYr3_1_0, pYr3_1_0, rfl, mYr3_1_0, nYr3_1_0, rYr3_1_0⟩ := rYr3_1_0.shape
            refine T.has hLr3 ?_
            have hlpr3 : prer3.length + 1 ≤ r34.length := by have h0 := hpr3.length_le; simpa using h0
            have hw3 := td34.2 yr3 (hpr3.subset (by simp))
            refine T.seq ?_
            refine T.region ?_
            refine R.asE rfl (by conv => lhs; whnf) ?_
            refine TL.nil (Post.thnN ?_)
            refine T.region ?_
            refine R.asE rfl (by conv => lhs; whnf) ?_
            refine TL.nil ?_
            refine onlyN.mk ?_
            refine T.block ?_
            refine T.seq ?_
            refine T.region ?_
            refine R.mvE rfl (by conv => lhs; whnf) ?_
            refine R.ldH Tryz.isAgg3 rfl rfl ((s_c1.trans (s31.trans (sF33_2.trans (s34.trans sr3)))) _ _ hb7_1) rfl ?_
            refine R.eql rfl rfl rfl ?_
            refine TL.nil (Post.thnN ?_)
            refine T.condD rfl (fun c39 => ?_) (fun c39 => ?_)
            · refine T.set 39 (.bool true) (congrArg Value.bool (decide_eq_true c39)) ?_
              refine T.seq ?_
              refine T.region ?_
              refine R.mvE rfl (by conv => lhs; whnf) ?_
              refine TL.call [] rfl rfl rfl (clone23_c _ _ yr3.2 rYr3_1_0 (by first | omega | (simp; done) | (simp; omega) | (simp at *; omega))) ?_
              intro v41 H41 L41 s41 q41
              obtain ⟨c41, rfl, w41⟩ := q41
              obtain ⟨x41, e41⟩ : ∃ x, x = yr3.2 := ⟨_, rfl⟩
              rw [← e41] at w41
              obtain ⟨A41, p41, rfl, m41, n41⟩ := OwnS.shape w41
              have t41 : x41.length = yr3.2.length := by rw [e41]
              refine R.stX (old := [.int .i64 nb11r3_0]) (l := [.int .i64 0]) (new := [.int .i64 0]) (et := 28) Tryz.sizeOf28 rfl rfl rfl (cells1 rfl) rfl (by show 0 + 1 ≤ 1; decide) rfl (all_one rfl) (.tl (.tl .hd)) ?_
              refine R.stX (old := [.slice Ab12r3_0 xb12r3_0.length pb12r3_0]) (l := [.slice A41 x41.length p41]) (new := [.slice A41 x41.length p41]) (et := 23) Tryz.sizeOf23 rfl rfl rfl (cells1 rfl) rfl (by show 0 + 1 ≤ 1; decide) rfl (all_one rfl) (.tl .hd) ?_
              refine TL.nil (Post.thnN ?_)
              refine T.exit (Post.blkE rfl ?_)
              exact ⟨rfl, .slice A41 x41.length p41, x41, c41, 0, (Has.cons (.tl .hd) (Has.cons (.tl .hd) (Has.cons .hd Has.nil))), w41, (by subst e41; rw [← hQr3, drop_pre hpr3, plan_Why_r3]; rw [if_pos c39])⟩
            · refine T.set 39 (.bool false) (congrArg Value.bool (decide_eq_false c39)) ?_
              refine T.skip (Post.blkN ?_)
              refine id ?_
              exact ⟨.slice Ab12r3_0 xb12r3_0.length pb12r3_0, xb12r3_0, cb12r3_0, nb11r3_0, (Has.cons .hd (Has.cons .hd (Has.cons .hd Has.nil))), wb12r3_0, (by rw [← hQr3, drop_pre hpr3, plan_Why_r3]; rw [if_neg c39])⟩
          · intro Dr3 Hr3 Lr3 sr3 hIr3
            obtain ⟨vb12r3_0, xb12r3_0, cb12r3_0, nb11r3_0, hLr3, wb12r3_0, hQr3⟩ := hIr3
            obtain ⟨Ab12r3_0, pb12r3_0, rfl, mb12r3_0, nb12r3_0_⟩ := OwnS.shape wb12r3_0
            have hEr3 : plan_Why_r3 a3 r34 (([], 4)) = .go ((xb12r3_0, nb11r3_0)) := by rw [← hQr3, List.drop_length, plan_Why_r3]
            refine id (Post.blkN ?_)
            refine id (Post.thnN ?_)
            exact ⟨(.slice Ab12r3_0 xb12r3_0.length pb12r3_0, xb12r3_0, cb12r3_0, nb11r3_0), sr3, ⟨(Has.trans hLr3 (Has.cons .hd (Has.cons .hd (Has.cons .hd Has.nil)))), wb12r3_0, (by rw [hEr3, LR.on_go])⟩, rfl, rfl, trivial⟩
          · intro Dr3 cr3 prer3 yr3 Hr3 Lr3 sr3 hpr3 hIr3
            obtain ⟨rfl, vb12r3_0, xb12r3_0, cb12r3_0, nb11r3_0, hLr3, wb12r3_0, hXr3⟩ := hIr3
            obtain ⟨Ab12r3_0, pb12r3_0, rfl, mb12r3_0, nb12r3_0_⟩ := OwnS.shape wb12r3_0
            refine T.has hLr3 ?_
            refine T.exit (Post.blkX ?_)
            refine id (Post.thnN ?_)
            exact ⟨(.slice Ab12r3_0 xb12r3_0.length pb12r3_0, xb12r3_0, cb12r3_0, nb11r3_0), sr3, ⟨(Has.cons .hd (Has.cons .hd (Has.cons .hd Has.nil))), wb12r3_0, (by rw [hXr3, LR.on_ret])⟩, rfl, rfl, trivial⟩
        · intro ⟨vb12c2_0, xb12c2_0, cb12c2_0, nb11c2_0⟩ σ_c2 H_c2 L_c2 ds_c2 s_c2 hI_c2
          obtain ⟨hLc2, wb12c2_0, hTc2⟩ := hI_c2
          obtain ⟨Ab12c2_0, pb12c2_0, rfl, mb12c2_0, nb12c2_0_⟩ := OwnS.shape wb12c2_0
          refine T.has hLc2 ?_
          refine T.seq ?_
          refine T.draw Tryz_mixed (by kernel_rfl) ?_
          refine Plan.s2 0 1 [1, 2, 3] [0, 2, 3] (by kernel_rfl) (by kernel_rfl) (by kernel_rfl) rfl rfl ?_ ?_
          · refine R.ld Tryz.isAgg23 rfl rfl .hd rfl ?_
            refine TL.nil (Plan.e1 (HLe.refl _) ?_)
            refine Plan.v 2 [1, 3] (by kernel_rfl) (by kernel_rfl) (by kernel_rfl) (by kernel_rfl) rfl (fun _ _ h_ => R.asE rfl (by conv => lhs; whnf) (TL.nil h_)) ?_
            refine Plan.s1 1 [3] (by kernel_rfl) (by kernel_rfl) rfl ?_
            refine R.ld Tryz.isAgg28 rfl rfl (.tl .hd) rfl ?_
            refine TL.nil (Plan.e1 (HLe.refl _) ?_)
            refine Plan.v 3 [] (by kernel_rfl) (by kernel_rfl) (by kernel_rfl) (by kernel_rfl) rfl (fun _ _ h_ => R.asE rfl (by conv => lhs; whnf) (TL.nil h_)) ?_
            refine Plan.done (Post.thnN ?_)
            refine T.has (Has.cons (.tl (.tl .hd)) Has.nil) ?_
            refine T.ret (Post.ngR ?_)
            have hM : plan_Why_m a0 a1 a2 a3 = (xb12c2_0, nb11c2_0) := by subst er34; subst er31; rw [plan_Why_m, if_neg c19, hTc1, LR.seq_go, if_f c28, LR.seq_go, LR.seq_go, hTc2, LR.seq_go]
            exact fin2L (v := .slice Ab12c2_0 xb12c2_0.length pb12c2_0) (v' := .int .i64 nb11c2_0) [cb12c2_0] rfl rfl rfl (List.Sublist.refl _) ⟨.slice Ab12c2_0 xb12c2_0.length pb12c2_0, cb12c2_0, by first | rw [hM] | rfl, rfl, by rw [hM]; exact wb12c2_0⟩
          · refine R.ld Tryz.isAgg28 rfl rfl (.tl .hd) rfl ?_
            refine TL.nil (Plan.e1 (HLe.refl _) ?_)
            refine Plan.s1 0 [2, 3] (by kernel_rfl) (by kernel_rfl) rfl ?_
            refine R.ld Tryz.isAgg23 rfl rfl .hd rfl ?_
            refine TL.nil (Plan.e1 (HLe.refl _) ?_)
            refine Plan.v 2 [3] (by kernel_rfl) (by kernel_rfl) (by kernel_rfl) (by kernel_rfl) rfl (fun _ _ h_ => R.asE rfl (by conv => lhs; whnf) (TL.nil h_)) ?_
            refine Plan.v 3 [] (by kernel_rfl) (by kernel_rfl) (by kernel_rfl) (by kernel_rfl) rfl (fun _ _ h_ => R.asE rfl (by conv => lhs; whnf) (TL.nil h_)) ?_
            refine Plan.done (Post.thnN ?_)
            refine T.has (Has.cons (.tl (.tl .hd)) Has.nil) ?_
            refine T.ret (Post.ngR ?_)
            have hM : plan_Why_m a0 a1 a2 a3 = (xb12c2_0, nb11c2_0) := by subst er34; subst er31; rw [plan_Why_m, if_neg c19, hTc1, LR.seq_go, if_f c28, LR.seq_go, LR.seq_go, hTc2, LR.seq_go]
            exact fin2L (v := .slice Ab12c2_0 xb12c2_0.length pb12c2_0) (v' := .int .i64 nb11c2_0) [cb12c2_0] rfl rfl rfl (List.Sublist.refl _) ⟨.slice Ab12c2_0 xb12c2_0.length pb12c2_0, cb12c2_0, by first | rw [hM] | rfl, rfl, by rw [hM]; exact wb12c2_0⟩

end Go.SX

set_option linter.unusedVariables false
set_option linter.unusedSimpArgs false
namespace Go.SX
open Go
theorem cf_int_l1 (f : Int → Bool) : ∀ (l : List Int) (k : Nat), (∃ j : Nat, slices_IndexFunc_int_l1 f l k () = .ret (j : Int) ∧ l.any f = true) ∨ (slices_IndexFunc_int_l1 f l k () = .go () ∧ l.any f = false)
  | [], k => .inr ⟨rfl, rfl⟩
  | y :: ys, k => by
    rw [slices_IndexFunc_int_l1, List.any_cons]
    cases h : f y with
    | true => exact .inl ⟨k, by rw [if_pos rfl], rfl⟩
    | false => rw [if_neg Bool.false_ne_true, Bool.false_or]; exact cf_int_l1 f ys (k + 1)
theorem cf_int (l : List Int) (f : Int → Bool) : slices_ContainsFunc_int_m l f = l.any f := by
  unfold slices_ContainsFunc_int_m slices_IndexFunc_int_m
  rcases cf_int_l1 f l 0 with ⟨j, e, h⟩ | ⟨e, h⟩
  · rw [e, LR.on_ret, h]; exact decide_eq_true (by omega)
  · rw [e, LR.on_go, h]; rfl
theorem cf_mention_l1 (f : (Int × Int) → Bool) : ∀ (l : List ((Int × Int))) (k : Nat), (∃ j : Nat, slices_IndexFunc_mention_l1 f l k () = .ret (j : Int) ∧ l.any f = true) ∨ (slices_IndexFunc_mention_l1 f l k () = .go () ∧ l.any f = false)
  | [], k => .inr ⟨rfl, rfl⟩
  | y :: ys, k => by
    rw [slices_IndexFunc_mention_l1, List.any_cons]
    cases h : f y with
    | true => exact .inl ⟨k, by rw [if_pos rfl], rfl⟩
    | false => rw [if_neg Bool.false_ne_true, Bool.false_or]; exact cf_mention_l1 f ys (k + 1)
theorem cf_mention (l : List ((Int × Int))) (f : (Int × Int) → Bool) : slices_ContainsFunc_mention_m l f = l.any f := by
  unfold slices_ContainsFunc_mention_m slices_IndexFunc_mention_m
  rcases cf_mention_l1 f l 0 with ⟨j, e, h⟩ | ⟨e, h⟩
  · rw [e, LR.on_ret, h]; exact decide_eq_true (by omega)
  · rw [e, LR.on_go, h]; rfl
theorem cf_Held_l1 (f : (Int × Int) → Bool) : ∀ (l : List ((Int × Int))) (k : Nat), (∃ j : Nat, slices_IndexFunc_Held_l1 f l k () = .ret (j : Int) ∧ l.any f = true) ∨ (slices_IndexFunc_Held_l1 f l k () = .go () ∧ l.any f = false)
  | [], k => .inr ⟨rfl, rfl⟩
  | y :: ys, k => by
    rw [slices_IndexFunc_Held_l1, List.any_cons]
    cases h : f y with
    | true => exact .inl ⟨k, by rw [if_pos rfl], rfl⟩
    | false => rw [if_neg Bool.false_ne_true, Bool.false_or]; exact cf_Held_l1 f ys (k + 1)
theorem cf_Held (l : List ((Int × Int))) (f : (Int × Int) → Bool) : slices_ContainsFunc_Held_m l f = l.any f := by
  unfold slices_ContainsFunc_Held_m slices_IndexFunc_Held_m
  rcases cf_Held_l1 f l 0 with ⟨j, e, h⟩ | ⟨e, h⟩
  · rw [e, LR.on_ret, h]; exact decide_eq_true (by omega)
  · rw [e, LR.on_go, h]; rfl

def deadB (D : List Dh) (k : Int) : Bool := decide (k ∈ D.map Prod.fst)
def saysB (l : List Rl) (D : List Dh) (h : Hd) (p : Int) : Bool := (mentL l h).any (fun m => deadB D m.1 && decide (m.2 = p))
def refB (l : List Rl) (D : List Dh) (h : Hd) : Bool := !deadB D h.1 && saysB l D h 2
def goneB (l : List Rl) (D : List Dh) (h : Hd) : Bool := !deadB D h.1 && (saysB l D h 2 || saysB l D h 0)
theorem of_r1 : ∀ (D : List Dh) (s : (List (Int × Bool)) × (List Int) × (List Hd) × (List Hd)), (plan_Of_r1 D s).2 = (s.2.1 ++ D.map Prod.fst, s.2.2.1, s.2.2.2) ∧ ∀ k, (mlk (plan_Of_r1 D s).1 k).getD false = (deadB D k || (mlk s.1 k).getD false)
  | [], s => ⟨by simp [plan_Of_r1], fun k => by simp [plan_Of_r1, deadB]⟩
  | d :: D, s => by
    obtain ⟨h1, h2⟩ := of_r1 D (mpu s.1 d.1 true, s.2.1 ++ [d.1], s.2.2.1, s.2.2.2)
    rw [plan_Of_r1]
    refine ⟨by rw [h1]; simp, fun k => ?_⟩
    rw [h2, mlk_mpu]
    unfold deadB
    rw [List.map_cons]
    by_cases e : k = d.1
    · rw [if_pos e]; simp [e]
    · rw [if_neg e, show decide (k ∈ d.1 :: D.map Prod.fst) = decide (k ∈ D.map Prod.fst) by rw [decide_eq_decide, List.mem_cons]; exact ⟨fun h => h.resolve_left e, .inr⟩]
theorem of_says (l : List Rl) (D : List Dh) (M : List (Int × Bool)) (hM : ∀ k, (mlk M k).getD false = deadB D k) (h : Hd) (p : Int) : plan_Of_2_m (mentL l h) M p = saysB l D h p := by
  unfold plan_Of_2_m saysB
  rw [LR.seq_go, cf_mention]
  refine congrArg (fun f => (mentL l h).any f) (funext fun m => ?_)
  unfold plan_Of_2_2_1_m
  rw [hM]
  cases deadB D m.1 <;> simp
theorem of_r2 (l : List Rl) (D : List Dh) (M : List (Int × Bool)) (hM : ∀ k, (mlk M k).getD false = deadB D k) : ∀ (xs : List Hd) (s : (List Int) × (List Hd) × (List Hd)), plan_Of_r2 M (xs.map (fun h => (h, mentL l h))) s = (s.1, s.2.1 ++ xs.filter (goneB l D), s.2.2 ++ xs.filter (refB l D))
  | [], s => by simp [plan_Of_r2]
  | h :: xs, s => by
    rw [List.map_cons, plan_Of_r2, hM]
    simp only [of_says l D M hM, LR.seq]
    have ih := of_r2 l D M hM xs
    rw [List.filter_cons, List.filter_cons]
    unfold goneB refB at *
    cases hd : deadB D h.1 with
    | true => rw [if_pos rfl, ih]; simp
    | false =>
      rw [if_neg Bool.false_ne_true]
      cases h2 : saysB l D h 2 with
      | true => simp [ih]
      | false =>
        cases h0 : saysB l D h 0 with
        | true => simp [ih]
        | false => simp [ih]
theorem pindex_iff (n : Int) : plan_index_m n = true ↔ 1 ≤ n ∧ n ≤ 1048578 := by
  unfold plan_index_m
  by_cases h : 1 ≤ n
  · rw [if_pos h, decide_eq_true_eq]; exact ⟨fun k => ⟨h, k⟩, fun k => k.2⟩
  · rw [if_neg h]; exact ⟨fun k => (by cases k), fun k => absurd k.1 h⟩
def idxOk (n : Int) : Prop := 1 ≤ n ∧ n ≤ 1048578
theorem of_first (first : List Int) : slices_ContainsFunc_int_m first (fun z0 => plan_Of_1_m z0) = false ↔ ∀ n ∈ first, idxOk n := by
  rw [cf_int, List.any_eq_false]
  constructor
  · intro h n hn
    have := h n hn
    unfold plan_Of_1_m at this
    exact (pindex_iff n).1 (by simpa using this)
  · intro h n hn
    unfold plan_Of_1_m
    simpa using (pindex_iff n).2 (h n hn)
/-- who dies -/
def diesD (l : List Rl) (held : List Hd) (first : List Int) : List Dh := plan_deaths_m (plan_killers_m l held) first
theorem of_eq {l : List Rl} {held : List Hd} {first : List Int} (hc : plan_Check_m l held = 0) (hi : ∀ n ∈ first, idxOk n) :
    plan_Of_m l held first = ((sortI ((diesD l held first).map Prod.fst), held.filter (goneB l (diesD l held first)), held.filter (refB l (diesD l held first))), 0) := by
  unfold plan_Of_m
  rw [hc, if_neg (fun k => k rfl), (of_first first).2 hi, if_neg Bool.false_ne_true]
  simp only [LR.seq]
  rw [show plan_deaths_m (plan_killers_m l held) first = diesD l held first from rfl]
  obtain ⟨h1, h2⟩ := of_r1 (diesD l held first) (([] : List (Int × Bool)), [], [], [])
  rw [ment_eq, of_r2 l (diesD l held first) _ (fun k => by rw [h2, mlk_nil]; simp), h1]
  rfl
theorem of_bad {l : List Rl} {held : List Hd} {first : List Int} (hc : plan_Check_m l held ≠ 0) : plan_Of_m l held first = (([], [], []), plan_Check_m l held) := by
  unfold plan_Of_m
  rw [if_pos hc]
theorem of_arg {l : List Rl} {held : List Hd} {first : List Int} (hc : plan_Check_m l held = 0) (hi : ¬ ∀ n ∈ first, idxOk n) : plan_Of_m l held first = (([], [], []), 2) := by
  unfold plan_Of_m
  rw [if_neg (fun k => k hc), if_pos]
  cases h : slices_ContainsFunc_int_m first (fun z0 => plan_Of_1_m z0) with
  | true => rfl
  | false => exact absurd ((of_first first).1 h) hi
theorem dies_law {l : List Rl} {held : List Hd} {first : List Int} (hh : held.length ≤ 100) (hf : first.length ≤ 100) : ∃ met, Dv first (plan_killers_m l held) met (diesD l held first) ∧ Bf first (plan_killers_m l held) (diesD l held first).length (diesD l held first) :=
  deaths_law first (plan_killers_m l held) (kill_by l held _ rfl hh) hf
theorem dies_len {l : List Rl} {held : List Hd} {first : List Int} (hh : held.length ≤ 100) (hf : first.length ≤ 100) : (diesD l held first).length ≤ first.length + held.length := by
  obtain ⟨met, h1, h2⟩ := dies_law (l := l) hh hf
  have := nodup_len (l2 := first ++ held.map Prod.fst) h1.nd (fun x hx => by
    rw [List.mem_append]
    rcases h1.s x hx with k | ⟨j, d, hd, rfl⟩
    · exact .inl k
    · rw [kill_eq] at hd
      exact .inr (List.mem_map_of_mem (List.mem_filter.1 hd).1))
  rwa [List.length_map, List.length_append, List.length_map] at this
theorem of_len (l : List Rl) (held : List Hd) (first : List Int) (r : ((List Int) × (List Hd) × (List Hd)) × Int) (e : r = plan_Of_m l held first) (hh : held.length ≤ 100) (hf : first.length ≤ 100) : r.1.1.length ≤ first.length + held.length ∧ r.1.2.1.length ≤ held.length ∧ r.1.2.2.length ≤ held.length := by
  subst e
  by_cases hc : plan_Check_m l held = 0
  · by_cases hi : ∀ n ∈ first, idxOk n
    · rw [of_eq hc hi]
      refine ⟨?_, List.length_filter_le _ _, List.length_filter_le _ _⟩
      show (sortI _).length ≤ _
      rw [(sortI_perm _).length_eq, List.length_map]
      exact dies_len hh hf
    · rw [of_arg hc hi]; simp
  · rw [of_bad hc]; simp
end Go.SX

set_option linter.unusedVariables false
set_option linter.unusedSimpArgs false
namespace Go.SX
open Go Go.Proofs

theorem small_len : windroselaw20_small_m.1.length = 3 ∧ windroselaw20_small_m.2.length = 4 := by
  unfold windroselaw20_small_m
  simp [LR.seq, windroselaw20_small_l1]
def windroselaw20_wakes_m  : Bool :=
  LR.seq (windroselaw20_small_m) (fun r12 => LR.seq (plan_Of_m r12.1 r12.2 [4]) (fun r19 => LR.seq (plan_Of_m r12.1 r12.2 [3]) (fun r26 => LR.seq (plan_Why_m r12.1 r12.2 4 6) (fun r32 => LR.seq (plan_Why_m r12.1 r12.2 4 7) (fun r38 => if r19.2 = 0 then (if r26.2 = 0 then (if r32.2 = 0 then (if r38.2 = 4 then (if r19.1.1 = [4, 5, 6] then (if r19.1.2.1 = (r12.2.drop 2) then (if r19.1.2.2 = (r12.2.drop 3) then (if r26.1.1 = [3, 8] then ((decide (r32.1 = (r12.2.take 2)))) else false) else false) else false) else false) else false) else false) else false) else false)))))
set_option maxHeartbeats 3200000 in
theorem windroselaw20_wakes_c (H : Heap) {tG0 : TypeId} (hG0 : H 0 = some (.cells #[.int .i64 1, .bool true, .bool true, .int .i64 0, .int .i64 1, .int .i64 2, .int .i64 2, .bool true, .bool false, .int .i64 0, .int .i64 0, .int .i64 2] tG0)) : Fv Tryz.prog (fnv 4) [] H (.bool windroselaw20_wakes_m) := by
  refine Fc.of_body (N := 87) Tryz.func4 rfl (by kernel_rfl) rfl rfl ?_
  intro w0
  refine T.seq ?_
  refine T.region ?_
  refine R.asE rfl (by conv => lhs; whnf) ?_
  refine TL.nil (Post.thnN ?_)
  refine T.seq ?_
  refine T.region ?_
  obtain ⟨r12, er12⟩ : ∃ r, r = windroselaw20_small_m := ⟨_, rfl⟩
  refine TL.call [] rfl rfl rfl (windroselaw20_small_c _ ) ?_
  intro v12 H12 L12 s12 q12
  rw [← er12] at q12
  obtain ⟨u12_0_0, u12_1_0, c12_0_0, c12_1_0, rfl, rfl, w12_0_0, w12_1_0⟩ := q12
  obtain ⟨A12_0_0, p12_0_0, rfl, m12_0_0, n12_0_0⟩ := OwnS.shape w12_0_0
  obtain ⟨A12_1_0, p12_1_0, rfl, m12_1_0, n12_1_0⟩ := OwnS.shape w12_1_0
  have tq12 : r12.1.length = 3 ∧ r12.2.length = 4 := by rw [er12]; exact small_len
  refine R.mvE rfl (by conv => lhs; whnf) ?_
  refine R.ext rfl rfl rfl ?_
  refine R.ext rfl rfl rfl ?_
  refine R.asE rfl (by conv => lhs; whnf) ?_
  refine R.asE rfl (by conv => lhs; whnf) ?_
  refine TL.nil (Post.thnN ?_)
  refine T.seq ?_
  refine T.region ?_
  refine R.mvE rfl (by conv => lhs; whnf) ?_
  refine R.mvE rfl (by conv => lhs; whnf) ?_
  refine R.bs rfl (run_buildSlice1 Tryz.underlying30 Tryz.sizeOf3 Tryz.zeroValue3 rfl rfl) ?_
  intro b18
  have w18 : OwnS (intE .i64) 3 H12 (.slice (some ⟨b18, 0, none⟩) 1 1) [4] [(b18, .cells #[.int .i64 4] 3)] := OwnS.lit (xs := [4]) (cellsOf_cons (a := [.int .i64 4]) rfl cellsOf_nil) (by show 1 ≤ maxLen; decide)
  refine TL.shut (.tl .hd) ?_
  intro HF12_0_0_1 sF12_0_0_1 qF12_0_0_1
  have fF12_0_0_1 := OwnS.read w12_0_0 sF12_0_0_1 qF12_0_0_1
  refine TL.shut (.tl .hd) ?_
  intro HF12_1_0_2 sF12_1_0_2 qF12_1_0_2
  have fF12_1_0_2 := OwnS.read (OwnS.mono w12_1_0 sF12_0_0_1) sF12_1_0_2 qF12_1_0_2
  refine TL.shut .hd ?_
  intro HF18_3 sF18_3 qF18_3
  have fF18_3 := OwnS.read (OwnS.mono w18 (sF12_0_0_1.trans sF12_1_0_2)) sF18_3 qF18_3
  obtain ⟨r19, er19⟩ : ∃ r, r = (plan_Of_m r12.1 r12.2 [4]) := ⟨_, rfl⟩
  refine TL.call [] rfl rfl rfl (plan_Of_c _ ((s12.trans (sF12_0_0_1.trans (sF12_1_0_2.trans sF18_3))) _ _ hG0) _ r12.1 (fF12_0_0_1.mono (sF12_1_0_2.trans sF18_3)) _ r12.2 (fF12_1_0_2.mono sF18_3) _ [4] fF18_3 (by first | omega | (simp; done) | (simp; omega) | (simp at *; omega)) (by first | omega | (simp; done) | (simp; omega) | (simp at *; omega)) (by first | omega | (simp; done) | (simp; omega) | (simp at *; omega))) ?_
  intro v19 H19 L19 s19 q19
  rw [← er19] at q19
  obtain ⟨u19_0_0, u19_0_1, u19_0_2, c19_0_0, c19_0_1, c19_0_2, rfl, rfl, w19_0_0, w19_0_1, w19_0_2⟩ := q19
  obtain ⟨A19_0_0, p19_0_0, rfl, m19_0_0, n19_0_0⟩ := OwnS.shape w19_0_0
  obtain ⟨A19_0_1, p19_0_1, rfl, m19_0_1, n19_0_1⟩ := OwnS.shape w19_0_1
  obtain ⟨A19_0_2, p19_0_2, rfl, m19_0_2, n19_0_2⟩ := OwnS.shape w19_0_2
  have to19 := of_len _ _ _ _ er19 (by first | omega | (simp; done) | (simp; omega) | (simp at *; omega)) (by first | omega | (simp; done) | (simp; omega) | (simp at *; omega))
  refine R.mvE rfl (by conv => lhs; whnf) ?_
  refine R.ext rfl rfl rfl ?_
  refine R.ext rfl rfl rfl ?_
  refine R.alloc Tryz.zeroValue33 rfl ?_
  intro b3
  refine R.stX (old := [.slice none 0 0, .slice none 0 0, .slice none 0 0]) (l := [.slice A19_0_0 r19.1.1.length p19_0_0, .slice A19_0_1 r19.1.2.1.length p19_0_1, .slice A19_0_2 r19.1.2.2.length p19_0_2]) (new := [.slice A19_0_0 r19.1.1.length p19_0_0, .slice A19_0_1 r19.1.2.1.length p19_0_1, .slice A19_0_2 r19.1.2.2.length p19_0_2]) (et := 33) Tryz.sizeOf33 rfl rfl rfl rfl rfl (by show 0 + 3 ≤ 3; decide) rfl (all_one rfl) .hd ?_
  refine R.asE rfl (by conv => lhs; whnf) ?_
  refine TL.shut (.tl .hd) ?_
  intro HF19_0_0_4 sF19_0_0_4 qF19_0_0_4
  have fF19_0_0_4 := OwnS.read w19_0_0 sF19_0_0_4 qF19_0_0_4
  refine TL.shut (.tl .hd) ?_
  intro HF19_0_1_5 sF19_0_1_5 qF19_0_1_5
  have fF19_0_1_5 := OwnS.read (OwnS.mono w19_0_1 sF19_0_0_4) sF19_0_1_5 qF19_0_1_5
  refine TL.shut (.tl .hd) ?_
  intro HF19_0_2_6 sF19_0_2_6 qF19_0_2_6
  have fF19_0_2_6 := OwnS.read (OwnS.mono w19_0_2 (sF19_0_0_4.trans sF19_0_1_5)) sF19_0_2_6 qF19_0_2_6
  refine TL.shut .hd ?_
  intro Hb3_7 sb3_7 qb3_7
  have hb3_7 : Hb3_7 b3 = some (.cells #[.slice A19_0_0 r19.1.1.length p19_0_0, .slice A19_0_1 r19.1.2.1.length p19_0_1, .slice A19_0_2 r19.1.2.2.length p19_0_2] 33) := shut1 qb3_7
  refine TL.nil (Post.thnN ?_)
  refine T.seq ?_
  refine T.region ?_
  refine R.mvE rfl (by conv => lhs; whnf) ?_
  refine R.mvE rfl (by conv => lhs; whnf) ?_
  refine R.bs rfl (run_buildSlice1 Tryz.underlying30 Tryz.sizeOf3 Tryz.zeroValue3 rfl rfl) ?_
  intro b25
  have w25 : OwnS (intE .i64) 3 Hb3_7 (.slice (some ⟨b25, 0, none⟩) 1 1) [3] [(b25, .cells #[.int .i64 3] 3)] := OwnS.lit (xs := [3]) (cellsOf_cons (a := [.int .i64 3]) rfl cellsOf_nil) (by show 1 ≤ maxLen; decide)
  refine TL.shut .hd ?_
  intro HF25_8 sF25_8 qF25_8
  have fF25_8 := OwnS.read w25 sF25_8 qF25_8
  obtain ⟨r26, er26⟩ : ∃ r, r = (plan_Of_m r12.1 r12.2 [3]) := ⟨_, rfl⟩
  refine TL.call [] rfl rfl rfl (plan_Of_c _ ((s12.trans (sF12_0_0_1.trans (sF12_1_0_2.trans (sF18_3.trans (s19.trans (sF19_0_0_4.trans (sF19_0_1_5.trans (sF19_0_2_6.trans (sb3_7.trans sF25_8))))))))) _ _ hG0) _ r12.1 (fF12_0_0_1.mono (sF12_1_0_2.trans (sF18_3.trans (s19.trans (sF19_0_0_4.trans (sF19_0_1_5.trans (sF19_0_2_6.trans (sb3_7.trans sF25_8)))))))) _ r12.2 (fF12_1_0_2.mono (sF18_3.trans (s19.trans (sF19_0_0_4.trans (sF19_0_1_5.trans (sF19_0_2_6.trans (sb3_7.trans sF25_8))))))) _ [3] fF25_8 (by first | omega | (simp; done) | (simp; omega) | (simp at *; omega)) (by first | omega | (simp; done) | (simp; omega) | (simp at *; omega)) (by first | omega | (simp; done) | (simp; omega) | (simp at *; omega))) ?_
  intro v26 H26 L26 s26 q26
  rw [← er26] at q26
  obtain ⟨u26_0_0, u26_0_1, u26_0_2, c26_0_0, c26_0_1, c26_0_2, rfl, rfl, w26_0_0, w26_0_1, w26_0_2⟩ := q26
  obtain ⟨A26_0_0, p26_0_0, rfl, m26_0_0, n26_0_0⟩ := OwnS.shape w26_0_0
  obtain ⟨A26_0_1, p26_0_1, rfl, m26_0_1, n26_0_1⟩ := OwnS.shape w26_0_1
  obtain ⟨A26_0_2, p26_0_2, rfl, m26_0_2, n26_0_2⟩ := OwnS.shape w26_0_2
  have to26 := of_len _ _ _ _ er26 (by first | omega | (simp; done) | (simp; omega) | (simp at *; omega)) (by first | omega | (simp; done) | (simp; omega) | (simp at *; omega))
  refine R.mvE rfl (by conv => lhs; whnf) ?_
  refine R.ext rfl rfl rfl ?_
  refine R.ext rfl rfl rfl ?_
  refine R.alloc Tryz.zeroValue33 rfl ?_
  intro b5
  refine R.stX (old := [.slice none 0 0, .slice none 0 0, .slice none 0 0]) (l := [.slice A26_0_0 r26.1.1.length p26_0_0, .slice A26_0_1 r26.1.2.1.length p26_0_1, .slice A26_0_2 r26.1.2.2.length p26_0_2]) (new := [.slice A26_0_0 r26.1.1.length p26_0_0, .slice A26_0_1 r26.1.2.1.length p26_0_1, .slice A26_0_2 r26.1.2.2.length p26_0_2]) (et := 33) Tryz.sizeOf33 rfl rfl rfl rfl rfl (by show 0 + 3 ≤ 3; decide) rfl (all_one rfl) .hd ?_
  refine R.asE rfl (by conv => lhs; whnf) ?_
  refine TL.shut (.tl .hd) ?_
  intro HF26_0_0_9 sF26_0_0_9 qF26_0_0_9
  have fF26_0_0_9 := OwnS.read w26_0_0 sF26_0_0_9 qF26_0_0_9
  refine TL.shut (.tl .hd) ?_
  intro HF26_0_1_10 sF26_0_1_10 qF26_0_1_10
  have fF26_0_1_10 := OwnS.read (OwnS.mono w26_0_1 sF26_0_0_9) sF26_0_1_10 qF26_0_1_10
  refine TL.shut (.tl .hd) ?_
  intro HF26_0_2_11 sF26_0_2_11 qF26_0_2_11
  have fF26_0_2_11 := OwnS.read (OwnS.mono w26_0_2 (sF26_0_0_9.trans sF26_0_1_10)) sF26_0_2_11 qF26_0_2_11
  refine TL.shut .hd ?_
  intro Hb5_12 sb5_12 qb5_12
  have hb5_12 : Hb5_12 b5 = some (.cells #[.slice A26_0_0 r26.1.1.length p26_0_0, .slice A26_0_1 r26.1.2.1.length p26_0_1, .slice A26_0_2 r26.1.2.2.length p26_0_2] 33) := shut1 qb5_12
  refine TL.nil (Post.thnN ?_)
  refine T.seq ?_
  refine T.region ?_
  refine R.mvE rfl (by conv => lhs; whnf) ?_
  refine R.mvE rfl (by conv => lhs; whnf) ?_
  obtain ⟨r32, er32⟩ : ∃ r, r = (plan_Why_m r12.1 r12.2 4 6) := ⟨_, rfl⟩
  refine TL.call [] rfl rfl rfl (plan_Why_c _ ((s12.trans (sF12_0_0_1.trans (sF12_1_0_2.trans (sF18_3.trans (s19.trans (sF19_0_0_4.trans (sF19_0_1_5.trans (sF19_0_2_6.trans (sb3_7.trans (sF25_8.trans (s26.trans (sF26_0_0_9.trans (sF26_0_1_10.trans (sF26_0_2_11.trans sb5_12)))))))))))))) _ _ hG0) _ r12.1 (fF12_0_0_1.mono (sF12_1_0_2.trans (sF18_3.trans (s19.trans (sF19_0_0_4.trans (sF19_0_1_5.trans (sF19_0_2_6.trans (sb3_7.trans (sF25_8.trans (s26.trans (sF26_0_0_9.trans (sF26_0_1_10.trans (sF26_0_2_11.trans sb5_12))))))))))))) _ r12.2 (fF12_1_0_2.mono (sF18_3.trans (s19.trans (sF19_0_0_4.trans (sF19_0_1_5.trans (sF19_0_2_6.trans (sb3_7.trans (sF25_8.trans (s26.trans (sF26_0_0_9.trans (sF26_0_1_10.trans (sF26_0_2_11.trans sb5_12)))))))))))) (4) (6) (by first | omega | (simp; done) | (simp; omega) | (simp at *; omega)) (by first | omega | (simp; done) | (simp; omega) | (simp at *; omega))) ?_
  intro v32 H32 L32 s32 q32
  rw [← er32] at q32
  obtain ⟨u32_0_0, c32_0_0, rfl, rfl, w32_0_0⟩ := q32
  obtain ⟨A32_0_0, p32_0_0, rfl, m32_0_0, n32_0_0⟩ := OwnS.shape w32_0_0
  refine R.mvE rfl (by conv => lhs; whnf) ?_
  refine R.ext rfl rfl rfl ?_
  refine R.ext rfl rfl rfl ?_
  refine R.asE rfl (by conv => lhs; whnf) ?_
  refine R.asE rfl (by conv => lhs; whnf) ?_
  refine TL.nil (Post.thnN ?_)
  refine T.seq ?_
  refine T.region ?_
  refine R.mvE rfl (by conv => lhs; whnf) ?_
  refine R.mvE rfl (by conv => lhs; whnf) ?_
  obtain ⟨r38, er38⟩ : ∃ r, r = (plan_Why_m r12.1 r12.2 4 7) := ⟨_, rfl⟩
  refine TL.call [] rfl rfl rfl (plan_Why_c _ ((s12.trans (sF12_0_0_1.trans (sF12_1_0_2.trans (sF18_3.trans (s19.trans (sF19_0_0_4.trans (sF19_0_1_5.trans (sF19_0_2_6.trans (sb3_7.trans (sF25_8.trans (s26.trans (sF26_0_0_9.trans (sF26_0_1_10.trans (sF26_0_2_11.trans (sb5_12.trans s32))))))))))))))) _ _ hG0) _ r12.1 (fF12_0_0_1.mono (sF12_1_0_2.trans (sF18_3.trans (s19.trans (sF19_0_0_4.trans (sF19_0_1_5.trans (sF19_0_2_6.trans (sb3_7.trans (sF25_8.trans (s26.trans (sF26_0_0_9.trans (sF26_0_1_10.trans (sF26_0_2_11.trans (sb5_12.trans s32)))))))))))))) _ r12.2 (fF12_1_0_2.mono (sF18_3.trans (s19.trans (sF19_0_0_4.trans (sF19_0_1_5.trans (sF19_0_2_6.trans (sb3_7.trans (sF25_8.trans (s26.trans (sF26_0_0_9.trans (sF26_0_1_10.trans (sF26_0_2_11.trans (sb5_12.trans s32))))))))))))) (4) (7) (by first | omega | (simp; done) | (simp; omega) | (simp at *; omega)) (by first | omega | (simp; done) | (simp; omega) | (simp at *; omega))) ?_
  intro v38 H38 L38 s38 q38
  rw [← er38] at q38
  obtain ⟨u38_0_0, c38_0_0, rfl, rfl, w38_0_0⟩ := q38
  obtain ⟨A38_0_0, p38_0_0, rfl, m38_0_0, n38_0_0⟩ := OwnS.shape w38_0_0
  refine R.mvE rfl (by conv => lhs; whnf) ?_
  refine R.ext rfl rfl rfl ?_
  refine R.ext rfl rfl rfl ?_
  refine R.asE rfl (by conv => lhs; whnf) ?_
  refine R.asE rfl (by conv => lhs; whnf) ?_
  refine TL.nil (Post.thnN ?_)
  refine T.seq ?_
  refine T.draw Tryz_mixed (by kernel_rfl) ?_
  refine Plan.v 0 [1, 2, 3, 4, 5, 6, 7, 8, 9, 10, 11, 12, 13, 14, 15, 16, 17, 18, 19, 20, 21, 22, 23, 24, 25, 26, 27, 28, 29, 30, 31, 32, 33, 34, 35, 36, 37, 38, 39, 40, 41, 42, 43, 44, 45, 46] (by kernel_rfl) (by kernel_rfl) (by kernel_rfl) (by kernel_rfl) rfl (fun _ _ h_ => R.mvE rfl (by conv => lhs; whnf) (TL.nil h_)) ?_
  refine Plan.v 1 [2, 3, 4, 5, 6, 7, 8, 9, 10, 11, 12, 13, 14, 15, 16, 17, 18, 19, 20, 21, 22, 23, 24, 25, 26, 27, 28, 29, 30, 31, 32, 33, 34, 35, 36, 37, 38, 39, 40, 41, 42, 43, 44, 45, 46] (by kernel_rfl) (by kernel_rfl) (by kernel_rfl) (by kernel_rfl) rfl (fun _ _ h_ => R.eql rfl rfl rfl (TL.nil h_)) ?_
  refine Plan.v 2 [3, 4, 5, 6, 7, 8, 9, 10, 11, 12, 13, 14, 15, 16, 17, 18, 19, 20, 21, 22, 23, 24, 25, 26, 27, 28, 29, 30, 31, 32, 33, 34, 35, 36, 37, 38, 39, 40, 41, 42, 43, 44, 45, 46] (by kernel_rfl) (by kernel_rfl) (by kernel_rfl) (by kernel_rfl) rfl (fun _ _ h_ => R.mvE rfl (by conv => lhs; whnf) (TL.nil h_)) ?_
  refine Plan.gsplitD 43 rfl (fun g43 => ?_) (fun g43 => ?_)
  · refine Plan.v 3 [4, 5, 6, 7, 8, 9, 10, 11, 12, 13, 14, 15, 16, 17, 18, 19, 20, 21, 22, 23, 24, 25, 26, 27, 28, 29, 30, 31, 32, 33, 34, 35, 36, 37, 38, 39, 40, 41, 42, 43, 44, 45, 46] (by kernel_rfl) (by kernel_rfl) (by kernel_rfl) (by kernel_rfl) rfl (fun _ _ h_ => R.mvE rfl (by conv => lhs; whnf) (TL.nil h_)) ?_
    refine Plan.v 4 [5, 6, 7, 8, 9, 10, 11, 12, 13, 14, 15, 16, 17, 18, 19, 20, 21, 22, 23, 24, 25, 26, 27, 28, 29, 30, 31, 32, 33, 34, 35, 36, 37, 38, 39, 40, 41, 42, 43, 44, 45, 46] (by kernel_rfl) (by kernel_rfl) (by kernel_rfl) (by kernel_rfl) rfl (fun _ _ h_ => R.eql rfl rfl rfl (TL.nil h_)) ?_
    refine Plan.v 5 [6, 7, 8, 9, 10, 11, 12, 13, 14, 15, 16, 17, 18, 19, 20, 21, 22, 23, 24, 25, 26, 27, 28, 29, 30, 31, 32, 33, 34, 35, 36, 37, 38, 39, 40, 41, 42, 43, 44, 45, 46] (by kernel_rfl) (by kernel_rfl) (by kernel_rfl) (by kernel_rfl) rfl (fun _ _ h_ => R.pkTE rfl rfl (by conv => lhs; whnf) (TL.nil h_)) ?_
    refine Plan.v 6 [7, 8, 9, 10, 11, 12, 13, 14, 15, 16, 17, 18, 19, 20, 21, 22, 23, 24, 25, 26, 27, 28, 29, 30, 31, 32, 33, 34, 35, 36, 37, 38, 39, 40, 41, 42, 43, 44, 45, 46] (by kernel_rfl) (by kernel_rfl) (by kernel_rfl) (by kernel_rfl) rfl (fun _ _ h_ => R.mvE rfl (by conv => lhs; whnf) (TL.nil h_)) ?_
    refine Plan.gsplitD 47 rfl (fun g47 => ?_) (fun g47 => ?_)
    · refine Plan.v 7 [8, 9, 10, 11, 12, 13, 14, 15, 16, 17, 18, 19, 20, 21, 22, 23, 24, 25, 26, 27, 28, 29, 30, 31, 32, 33, 34, 35, 36, 37, 38, 39, 40, 41, 42, 43, 44, 45, 46] (by kernel_rfl) (by kernel_rfl) (by kernel_rfl) (by kernel_rfl) rfl (fun _ _ h_ => R.mvE rfl (by conv => lhs; whnf) (TL.nil h_)) ?_
      refine Plan.v 8 [9, 10, 11, 12, 13, 14, 15, 16, 17, 18, 19, 20, 21, 22, 23, 24, 25, 26, 27, 28, 29, 30, 31, 32, 33, 34, 35, 36, 37, 38, 39, 40, 41, 42, 43, 44, 45, 46] (by kernel_rfl) (by kernel_rfl) (by kernel_rfl) (by kernel_rfl) rfl (fun _ _ h_ => R.eql rfl rfl rfl (TL.nil h_)) ?_
      refine Plan.v 9 [10, 11, 12, 13, 14, 15, 16, 17, 18, 19, 20, 21, 22, 23, 24, 25, 26, 27, 28, 29, 30, 31, 32, 33, 34, 35, 36, 37, 38, 39, 40, 41, 42, 43, 44, 45, 46] (by kernel_rfl) (by kernel_rfl) (by kernel_rfl) (by kernel_rfl) rfl (fun _ _ h_ => R.pkTE rfl rfl (by conv => lhs; whnf) (TL.nil h_)) ?_
      refine Plan.v 10 [11, 12, 13, 14, 15, 16, 17, 18, 19, 20, 21, 22, 23, 24, 25, 26, 27, 28, 29, 30, 31, 32, 33, 34, 35, 36, 37, 38, 39, 40, 41, 42, 43, 44, 45, 46] (by kernel_rfl) (by kernel_rfl) (by kernel_rfl) (by kernel_rfl) rfl (fun _ _ h_ => R.mvE rfl (by conv => lhs; whnf) (TL.nil h_)) ?_
      refine Plan.gsplitD 51 rfl (fun g51 => ?_) (fun g51 => ?_)
      · refine Plan.v 11 [12, 13, 14, 15, 16, 17, 18, 19, 20, 21, 22, 23, 24, 25, 26, 27, 28, 29, 30, 31, 32, 33, 34, 35, 36, 37, 38, 39, 40, 41, 42, 43, 44, 45, 46] (by kernel_rfl) (by kernel_rfl) (by kernel_rfl) (by kernel_rfl) rfl (fun _ _ h_ => R.mvE rfl (by conv => lhs; whnf) (TL.nil h_)) ?_
        refine Plan.v 12 [13, 14, 15, 16, 17, 18, 19, 20, 21, 22, 23, 24, 25, 26, 27, 28, 29, 30, 31, 32, 33, 34, 35, 36, 37, 38, 39, 40, 41, 42, 43, 44, 45, 46] (by kernel_rfl) (by kernel_rfl) (by kernel_rfl) (by kernel_rfl) rfl (fun _ _ h_ => R.eql rfl rfl rfl (TL.nil h_)) ?_
        refine Plan.v 13 [14, 15, 16, 17, 18, 19, 20, 21, 22, 23, 24, 25, 26, 27, 28, 29, 30, 31, 32, 33, 34, 35, 36, 37, 38, 39, 40, 41, 42, 43, 44, 45, 46] (by kernel_rfl) (by kernel_rfl) (by kernel_rfl) (by kernel_rfl) rfl (fun _ _ h_ => R.pkTE rfl rfl (by conv => lhs; whnf) (TL.nil h_)) ?_
        refine Plan.v 14 [15, 16, 17, 18, 19, 20, 21, 22, 23, 24, 25, 26, 27, 28, 29, 30, 31, 32, 33, 34, 35, 36, 37, 38, 39, 40, 41, 42, 43, 44, 45, 46] (by kernel_rfl) (by kernel_rfl) (by kernel_rfl) (by kernel_rfl) rfl (fun _ _ h_ => R.mvE rfl (by conv => lhs; whnf) (TL.nil h_)) ?_
        refine Plan.gsplitD 55 rfl (fun g55 => ?_) (fun g55 => ?_)
        · refine Plan.v 15 [16, 17, 18, 19, 20, 21, 22, 23, 24, 25, 26, 27, 28, 29, 30, 31, 32, 33, 34, 35, 36, 37, 38, 39, 40, 41, 42, 43, 44, 45, 46] (by kernel_rfl) (by kernel_rfl) (by kernel_rfl) (by kernel_rfl) rfl (fun _ _ h_ => R.fldA Tryz.underlying33 rfl Tryz.sizeOf30 (by decide) rfl rfl (TL.nil h_)) ?_
          refine Plan.v 16 [17, 18, 19, 20, 21, 22, 23, 24, 25, 26, 27, 28, 29, 30, 31, 32, 33, 34, 35, 36, 37, 38, 39, 40, 41, 42, 43, 44, 45, 46] (by kernel_rfl) (by kernel_rfl) (by kernel_rfl) (by kernel_rfl) rfl (fun _ _ h_ => R.ldH Tryz.isAgg30 rfl rfl ((sF25_8.trans (s26.trans (sF26_0_0_9.trans (sF26_0_1_10.trans (sF26_0_2_11.trans (sb5_12.trans (s32.trans s38))))))) _ _ hb3_7) rfl (TL.nil h_)) ?_
          refine Plan.s1 17 [18, 19, 20, 21, 22, 23, 24, 25, 26, 27, 28, 29, 30, 31, 32, 33, 34, 35, 36, 37, 38, 39, 40, 41, 42, 43, 44, 45, 46] (by kernel_rfl) (by kernel_rfl) rfl ?_
          refine R.bsN [.int .i64 4, .int .i64 5, .int .i64 6] rfl Tryz.underlying30 Tryz.sizeOf3 Tryz.zeroValue3 rfl rfl rfl rfl rfl rfl ?_
          intro b58
          have w58 : OwnS (intE .i64) 3 H38 (.slice (some ⟨b58, 0, none⟩) 3 3) [4, 5, 6] [(b58, .cells #[.int .i64 4, .int .i64 5, .int .i64 6] 3)] := OwnS.lit (xs := [4, 5, 6]) (cellsOf_cons (a := [.int .i64 4]) rfl (cellsOf_cons (a := [.int .i64 5]) rfl (cellsOf_cons (a := [.int .i64 6]) rfl cellsOf_nil))) (by show 3 ≤ maxLen; decide)
          refine TL.nil (Plan.e1 (HLe.refl _) ?_)
          refine Plan.s1 18 [19, 20, 21, 22, 23, 24, 25, 26, 27, 28, 29, 30, 31, 32, 33, 34, 35, 36, 37, 38, 39, 40, 41, 42, 43, 44, 45, 46] (by kernel_rfl) (by kernel_rfl) rfl ?_
          refine TL.shut .hd ?_
          intro HF58_14 sF58_14 qF58_14
          have fF58_14 := OwnS.read w58 sF58_14 qF58_14
          refine R.callv rfl rfl rfl (slices_Equal_int_d _ _ r19.1.1 (fF19_0_0_4.mono (sF19_0_1_5.trans (sF19_0_2_6.trans (sb3_7.trans (sF25_8.trans (s26.trans (sF26_0_0_9.trans (sF26_0_1_10.trans (sF26_0_2_11.trans (sb5_12.trans (s32.trans (s38.trans sF58_14)))))))))))) _ ([4, 5, 6]) fF58_14) ?_
          refine TL.nil (Plan.e1 (sF58_14) ?_)
          refine Plan.v 19 [20, 21, 22, 23, 24, 25, 26, 27, 28, 29, 30, 31, 32, 33, 34, 35, 36, 37, 38, 39, 40, 41, 42, 43, 44, 45, 46] (by kernel_rfl) (by kernel_rfl) (by kernel_rfl) (by kernel_rfl) rfl (fun _ _ h_ => R.pkTE rfl rfl (by conv => lhs; whnf) (TL.nil h_)) ?_
          refine Plan.v 20 [21, 22, 23, 24, 25, 26, 27, 28, 29, 30, 31, 32, 33, 34, 35, 36, 37, 38, 39, 40, 41, 42, 43, 44, 45, 46] (by kernel_rfl) (by kernel_rfl) (by kernel_rfl) (by kernel_rfl) rfl (fun _ _ h_ => R.mvE rfl (by conv => lhs; whnf) (TL.nil h_)) ?_
          refine Plan.gsplitD 61 rfl (fun g61 => ?_) (fun g61 => ?_)
          · refine Plan.v 21 [22, 23, 24, 25, 26, 27, 28, 29, 30, 31, 32, 33, 34, 35, 36, 37, 38, 39, 40, 41, 42, 43, 44, 45, 46] (by kernel_rfl) (by kernel_rfl) (by kernel_rfl) (by kernel_rfl) rfl (fun _ _ h_ => R.fldA Tryz.underlying33 rfl Tryz.sizeOf23 (by decide) rfl rfl (TL.nil h_)) ?_
            refine Plan.v 22 [23, 24, 25, 26, 27, 28, 29, 30, 31, 32, 33, 34, 35, 36, 37, 38, 39, 40, 41, 42, 43, 44, 45, 46] (by kernel_rfl) (by kernel_rfl) (by kernel_rfl) (by kernel_rfl) rfl (fun _ _ h_ => R.ldH Tryz.isAgg23 rfl rfl ((sF25_8.trans (s26.trans (sF26_0_0_9.trans (sF26_0_1_10.trans (sF26_0_2_11.trans (sb5_12.trans (s32.trans (s38.trans sF58_14)))))))) _ _ hb3_7) rfl (TL.nil h_)) ?_
            refine Plan.v 23 [24, 25, 26, 27, 28, 29, 30, 31, 32, 33, 34, 35, 36, 37, 38, 39, 40, 41, 42, 43, 44, 45, 46] (by kernel_rfl) (by kernel_rfl) (by kernel_rfl) (by kernel_rfl) rfl (fun _ _ h_ => R.mvE rfl (by conv => lhs; whnf) (TL.nil h_)) ?_
            have z65 := RdS.drop (fF12_1_0_2.mono (sF18_3.trans (s19.trans (sF19_0_0_4.trans (sF19_0_1_5.trans (sF19_0_2_6.trans (sb3_7.trans (sF25_8.trans (s26.trans (sF26_0_0_9.trans (sF26_0_1_10.trans (sF26_0_2_11.trans (sb5_12.trans (s32.trans (s38.trans sF58_14))))))))))))))) (i := 2) (by omega) (by omega)
            obtain ⟨x65, e65⟩ : ∃ x, x = (r12.2.drop 2) := ⟨_, rfl⟩
            rw [← e65] at z65
            obtain ⟨A65, p65, q65, m65, n65, r65⟩ := RdS.shape z65
            have t65 : x65.length ≤ r12.2.length := by rw [e65]; simp; try omega
            refine Plan.v 24 [25, 26, 27, 28, 29, 30, 31, 32, 33, 34, 35, 36, 37, 38, 39, 40, 41, 42, 43, 44, 45, 46] (by kernel_rfl) (by kernel_rfl) (by kernel_rfl) (by kernel_rfl) rfl (fun _ _ h_ => R.sL Tryz.underlying23 Tryz.sizeOf50 rfl rfl rfl (by omega) (by omega)  (TL.nil h_)) ?_
            refine Plan.set 65 (.slice A65 x65.length p65) (by first | exact q65 | (rw [← q65]; simp; done) | (rw [← q65]; rfl)) ?_
            refine Plan.v 25 [26, 27, 28, 29, 30, 31, 32, 33, 34, 35, 36, 37, 38, 39, 40, 41, 42, 43, 44, 45, 46] (by kernel_rfl) (by kernel_rfl) (by kernel_rfl) (by kernel_rfl) rfl (fun _ _ h_ => R.callv rfl rfl rfl (slices_Equal_Held_d _ _ r19.1.2.1 (fF19_0_1_5.mono (sF19_0_2_6.trans (sb3_7.trans (sF25_8.trans (s26.trans (sF26_0_0_9.trans (sF26_0_1_10.trans (sF26_0_2_11.trans (sb5_12.trans (s32.trans (s38.trans sF58_14))))))))))) _ x65 r65) (TL.nil h_)) ?_
            refine Plan.v 26 [27, 28, 29, 30, 31, 32, 33, 34, 35, 36, 37, 38, 39, 40, 41, 42, 43, 44, 45, 46] (by kernel_rfl) (by kernel_rfl) (by kernel_rfl) (by kernel_rfl) rfl (fun _ _ h_ => R.pkTE rfl rfl (by conv => lhs; whnf) (TL.nil h_)) ?_
            refine Plan.v 27 [28, 29, 30, 31, 32, 33, 34, 35, 36, 37, 38, 39, 40, 41, 42, 43, 44, 45, 46] (by kernel_rfl) (by kernel_rfl) (by kernel_rfl) (by kernel_rfl) rfl (fun _ _ h_ => R.mvE rfl (by conv => lhs; whnf) (TL.nil h_)) ?_
            refine Plan.gsplitD 68 rfl (fun g68 => ?_) (fun g68 => ?_)
            · refine Plan.v 28 [29, 30, 31, 32, 33, 34, 35, 36, 37, 38, 39, 40, 41, 42, 43, 44, 45, 46] (by kernel_rfl) (by kernel_rfl) (by kernel_rfl) (by kernel_rfl) rfl (fun _ _ h_ => R.fldA Tryz.underlying33 rfl Tryz.sizeOf23 (by decide) rfl rfl (TL.nil h_)) ?_
              refine Plan.v 29 [30, 31, 32, 33, 34, 35, 36, 37, 38, 39, 40, 41, 42, 43, 44, 45, 46] (by kernel_rfl) (by kernel_rfl) (by kernel_rfl) (by kernel_rfl) rfl (fun _ _ h_ => R.ldH Tryz.isAgg23 rfl rfl ((sF25_8.trans (s26.trans (sF26_0_0_9.trans (sF26_0_1_10.trans (sF26_0_2_11.trans (sb5_12.trans (s32.trans (s38.trans sF58_14)))))))) _ _ hb3_7) rfl (TL.nil h_)) ?_
              refine Plan.v 30 [31, 32, 33, 34, 35, 36, 37, 38, 39, 40, 41, 42, 43, 44, 45, 46] (by kernel_rfl) (by kernel_rfl) (by kernel_rfl) (by kernel_rfl) rfl (fun _ _ h_ => R.mvE rfl (by conv => lhs; whnf) (TL.nil h_)) ?_
              have z72 := RdS.drop (fF12_1_0_2.mono (sF18_3.trans (s19.trans (sF19_0_0_4.trans (sF19_0_1_5.trans (sF19_0_2_6.trans (sb3_7.trans (sF25_8.trans (s26.trans (sF26_0_0_9.trans (sF26_0_1_10.trans (sF26_0_2_11.trans (sb5_12.trans (s32.trans (s38.trans sF58_14))))))))))))))) (i := 3) (by omega) (by omega)
              obtain ⟨x72, e72⟩ : ∃ x, x = (r12.2.drop 3) := ⟨_, rfl⟩
              rw [← e72] at z72
              obtain ⟨A72, p72, q72, m72, n72, r72⟩ := RdS.shape z72
              have t72 : x72.length ≤ r12.2.length := by rw [e72]; simp; try omega
              refine Plan.v 31 [32, 33, 34, 35, 36, 37, 38, 39, 40, 41, 42, 43, 44, 45, 46] (by kernel_rfl) (by kernel_rfl) (by kernel_rfl) (by kernel_rfl) rfl (fun _ _ h_ => R.sL Tryz.underlying23 Tryz.sizeOf50 rfl rfl rfl (by omega) (by omega)  (TL.nil h_)) ?_
              refine Plan.set 72 (.slice A72 x72.length p72) (by first | exact q72 | (rw [← q72]; simp; done) | (rw [← q72]; rfl)) ?_
              refine Plan.v 32 [33, 34, 35, 36, 37, 38, 39, 40, 41, 42, 43, 44, 45, 46] (by kernel_rfl) (by kernel_rfl) (by kernel_rfl) (by kernel_rfl) rfl (fun _ _ h_ => R.callv rfl rfl rfl (slices_Equal_Held_d _ _ r19.1.2.2 (fF19_0_2_6.mono (sb3_7.trans (sF25_8.trans (s26.trans (sF26_0_0_9.trans (sF26_0_1_10.trans (sF26_0_2_11.trans (sb5_12.trans (s32.trans (s38.trans sF58_14)))))))))) _ x72 r72) (TL.nil h_)) ?_
              refine Plan.v 33 [34, 35, 36, 37, 38, 39, 40, 41, 42, 43, 44, 45, 46] (by kernel_rfl) (by kernel_rfl) (by kernel_rfl) (by kernel_rfl) rfl (fun _ _ h_ => R.pkTE rfl rfl (by conv => lhs; whnf) (TL.nil h_)) ?_
              refine Plan.v 34 [35, 36, 37, 38, 39, 40, 41, 42, 43, 44, 45, 46] (by kernel_rfl) (by kernel_rfl) (by kernel_rfl) (by kernel_rfl) rfl (fun _ _ h_ => R.mvE rfl (by conv => lhs; whnf) (TL.nil h_)) ?_
              refine Plan.gsplitD 75 rfl (fun g75 => ?_) (fun g75 => ?_)
              · refine Plan.v 35 [36, 37, 38, 39, 40, 41, 42, 43, 44, 45, 46] (by kernel_rfl) (by kernel_rfl) (by kernel_rfl) (by kernel_rfl) rfl (fun _ _ h_ => R.fldA Tryz.underlying33 rfl Tryz.sizeOf30 (by decide) rfl rfl (TL.nil h_)) ?_
                refine Plan.v 36 [37, 38, 39, 40, 41, 42, 43, 44, 45, 46] (by kernel_rfl) (by kernel_rfl) (by kernel_rfl) (by kernel_rfl) rfl (fun _ _ h_ => R.ldH Tryz.isAgg30 rfl rfl ((s32.trans (s38.trans sF58_14)) _ _ hb5_12) rfl (TL.nil h_)) ?_
                refine Plan.s1 37 [38, 39, 40, 41, 42, 43, 44, 45, 46] (by kernel_rfl) (by kernel_rfl) rfl ?_
                refine R.bsN [.int .i64 3, .int .i64 8] rfl Tryz.underlying30 Tryz.sizeOf3 Tryz.zeroValue3 rfl rfl rfl rfl rfl rfl ?_
                intro b78
                have w78 : OwnS (intE .i64) 3 HF58_14 (.slice (some ⟨b78, 0, none⟩) 2 2) [3, 8] [(b78, .cells #[.int .i64 3, .int .i64 8] 3)] := OwnS.lit (xs := [3, 8]) (cellsOf_cons (a := [.int .i64 3]) rfl (cellsOf_cons (a := [.int .i64 8]) rfl cellsOf_nil)) (by show 2 ≤ maxLen; decide)
                refine TL.nil (Plan.e1 (HLe.refl _) ?_)
                refine Plan.s1 38 [39, 40, 41, 42, 43, 44, 45, 46] (by kernel_rfl) (by kernel_rfl) rfl ?_
                refine TL.shut .hd ?_
                intro HF78_16 sF78_16 qF78_16
                have fF78_16 := OwnS.read w78 sF78_16 qF78_16
                refine R.callv rfl rfl rfl (slices_Equal_int_d _ _ r26.1.1 (fF26_0_0_9.mono (sF26_0_1_10.trans (sF26_0_2_11.trans (sb5_12.trans (s32.trans (s38.trans (sF58_14.trans sF78_16))))))) _ ([3, 8]) fF78_16) ?_
                refine TL.nil (Plan.e1 (sF78_16) ?_)
                refine Plan.v 39 [40, 41, 42, 43, 44, 45, 46] (by kernel_rfl) (by kernel_rfl) (by kernel_rfl) (by kernel_rfl) rfl (fun _ _ h_ => R.pkTE rfl rfl (by conv => lhs; whnf) (TL.nil h_)) ?_
                refine Plan.v 40 [41, 42, 43, 44, 45, 46] (by kernel_rfl) (by kernel_rfl) (by kernel_rfl) (by kernel_rfl) rfl (fun _ _ h_ => R.mvE rfl (by conv => lhs; whnf) (TL.nil h_)) ?_
                refine Plan.gsplitD 81 rfl (fun g81 => ?_) (fun g81 => ?_)
                · refine Plan.v 41 [42, 43, 44, 45, 46] (by kernel_rfl) (by kernel_rfl) (by kernel_rfl) (by kernel_rfl) rfl (fun _ _ h_ => R.mvE rfl (by conv => lhs; whnf) (TL.nil h_)) ?_
                  refine Plan.v 42 [43, 44, 45, 46] (by kernel_rfl) (by kernel_rfl) (by kernel_rfl) (by kernel_rfl) rfl (fun _ _ h_ => R.mvE rfl (by conv => lhs; whnf) (TL.nil h_)) ?_
                  have z84 := RdS.takeC (fF12_1_0_2.mono (sF18_3.trans (s19.trans (sF19_0_0_4.trans (sF19_0_1_5.trans (sF19_0_2_6.trans (sb3_7.trans (sF25_8.trans (s26.trans (sF26_0_0_9.trans (sF26_0_1_10.trans (sF26_0_2_11.trans (sb5_12.trans (s32.trans (s38.trans (sF58_14.trans sF78_16)))))))))))))))) (i := 2) (by omega) (by omega)
                  obtain ⟨x84, e84⟩ : ∃ x, x = (r12.2.take 2) := ⟨_, rfl⟩
                  rw [← e84] at z84
                  obtain ⟨A84, p84, q84, m84, n84, r84⟩ := RdS.shape z84
                  have t84 : x84.length ≤ r12.2.length := by rw [e84]; simp; try omega
                  have t84_ : x84.length = min 2 r12.2.length := by rw [e84]; simp
                  refine Plan.v 43 [44, 45, 46] (by kernel_rfl) (by kernel_rfl) (by kernel_rfl) (by kernel_rfl) rfl (fun _ _ h_ => R.sH Tryz.underlying23 Tryz.sizeOf50 rfl rfl rfl (by omega) (by omega)  (TL.nil h_)) ?_
                  refine Plan.set 84 (.slice A84 x84.length p84) (by first | exact q84 | (rw [← q84]; simp; done) | (rw [← q84]; rfl)) ?_
                  refine Plan.s1 44 [45, 46] (by kernel_rfl) (by kernel_rfl) rfl ?_
                  refine TL.shut (.tl .hd) ?_
                  intro HF32_0_0_18 sF32_0_0_18 qF32_0_0_18
                  have fF32_0_0_18 := OwnS.read (OwnS.mono w32_0_0 (s38.trans (sF58_14.trans sF78_16))) sF32_0_0_18 qF32_0_0_18
                  refine R.callv rfl rfl rfl (slices_Equal_Held_d _ _ r32.1 fF32_0_0_18 _ x84 (r84.mono sF32_0_0_18)) ?_
                  refine TL.nil (Plan.e1 (sF32_0_0_18) ?_)
                  refine Plan.v 45 [46] (by kernel_rfl) (by kernel_rfl) (by kernel_rfl) (by kernel_rfl) rfl (fun _ _ h_ => R.pkTE rfl rfl (by conv => lhs; whnf) (TL.nil h_)) ?_
                  refine Plan.v 46 [] (by kernel_rfl) (by kernel_rfl) (by kernel_rfl) (by kernel_rfl) rfl (fun _ _ h_ => R.asE rfl (by conv => lhs; whnf) (TL.nil h_)) ?_
                  refine Plan.done (Post.thnN ?_)
                  refine T.has Has.nil ?_
                  refine T.ret ?_
                  have hM : windroselaw20_wakes_m = (decide (r32.1 = x84)) := by subst e84; subst e72; subst e65; subst er38; subst er32; subst er26; subst er19; subst er12; rw [windroselaw20_wakes_m, LR.seq_go, LR.seq_go, LR.seq_go, LR.seq_go, LR.seq_go, if_pos g43, if_pos g47, if_pos g51, if_pos g55, if_pos g61, if_pos g68, if_pos g75, if_pos g81]
                  exact fin1L (v := .bool (decide (r32.1 = x84))) [] rfl rfl (List.Sublist.refl _) ⟨rfl, by first | rw [hM] | rfl⟩
                · refine Plan.v 41 [42, 43, 44, 45, 46] (by kernel_rfl) (by kernel_rfl) (by kernel_rfl) (by kernel_rfl) rfl (fun _ _ h_ => TL.off rfl rfl rfl (TL.nil h_)) ?_
                  refine Plan.v 42 [43, 44, 45, 46] (by kernel_rfl) (by kernel_rfl) (by kernel_rfl) (by kernel_rfl) rfl (fun _ _ h_ => TL.off rfl rfl rfl (TL.nil h_)) ?_
                  refine Plan.v 43 [44, 45, 46] (by kernel_rfl) (by kernel_rfl) (by kernel_rfl) (by kernel_rfl) rfl (fun _ _ h_ => TL.off rfl rfl rfl (TL.nil h_)) ?_
                  refine Plan.v 44 [45, 46] (by kernel_rfl) (by kernel_rfl) (by kernel_rfl) (by kernel_rfl) rfl (fun _ _ h_ => TL.off rfl rfl rfl (TL.nil h_)) ?_
                  refine Plan.v 45 [46] (by kernel_rfl) (by kernel_rfl) (by kernel_rfl) (by kernel_rfl) rfl (fun _ _ h_ => R.pkFE rfl rfl (by conv => lhs; whnf) (TL.nil h_)) ?_
                  refine Plan.v 46 [] (by kernel_rfl) (by kernel_rfl) (by kernel_rfl) (by kernel_rfl) rfl (fun _ _ h_ => R.asE rfl (by conv => lhs; whnf) (TL.nil h_)) ?_
                  refine Plan.done (Post.thnN ?_)
                  refine T.has Has.nil ?_
                  refine T.ret ?_
                  have hM : windroselaw20_wakes_m = false := by subst e72; subst e65; subst er38; subst er32; subst er26; subst er19; subst er12; rw [windroselaw20_wakes_m, LR.seq_go, LR.seq_go, LR.seq_go, LR.seq_go, LR.seq_go, if_pos g43, if_pos g47, if_pos g51, if_pos g55, if_pos g61, if_pos g68, if_pos g75, if_neg g81]
                  exact fin1L (v := .bool false) [] rfl rfl (List.Sublist.refl _) ⟨rfl, by first | rw [hM] | rfl⟩
              · refine Plan.v 35 [36, 37, 38, 39, 40, 41, 42, 43, 44, 45, 46] (by kernel_rfl) (by kernel_rfl) (by kernel_rfl) (by kernel_rfl) rfl (fun _ _ h_ => TL.off rfl rfl rfl (TL.nil h_)) ?_
                refine Plan.v 36 [37, 38, 39, 40, 41, 42, 43, 44, 45, 46] (by kernel_rfl) (by kernel_rfl) (by kernel_rfl) (by kernel_rfl) rfl (fun _ _ h_ => TL.off rfl rfl rfl (TL.nil h_)) ?_
                refine Plan.v 37 [38, 39, 40, 41, 42, 43, 44, 45, 46] (by kernel_rfl) (by kernel_rfl) (by kernel_rfl) (by kernel_rfl) rfl (fun _ _ h_ => TL.off rfl rfl rfl (TL.nil h_)) ?_
                refine Plan.v 38 [39, 40, 41, 42, 43, 44, 45, 46] (by kernel_rfl) (by kernel_rfl) (by kernel_rfl) (by kernel_rfl) rfl (fun _ _ h_ => TL.off rfl rfl rfl (TL.nil h_)) ?_
                refine Plan.v 39 [40, 41, 42, 43, 44, 45, 46] (by kernel_rfl) (by kernel_rfl) (by kernel_rfl) (by kernel_rfl) rfl (fun _ _ h_ => R.pkFE rfl rfl (by conv => lhs; whnf) (TL.nil h_)) ?_
                refine Plan.v 40 [41, 42, 43, 44, 45, 46] (by kernel_rfl) (by kernel_rfl) (by kernel_rfl) (by kernel_rfl) rfl (fun _ _ h_ => R.mvE rfl (by conv => lhs; whnf) (TL.nil h_)) ?_
                refine Plan.v 41 [42, 43, 44, 45, 46] (by kernel_rfl) (by kernel_rfl) (by kernel_rfl) (by kernel_rfl) rfl (fun _ _ h_ => TL.off rfl rfl rfl (TL.nil h_)) ?_
                refine Plan.v 42 [43, 44, 45, 46] (by kernel_rfl) (by kernel_rfl) (by kernel_rfl) (by kernel_rfl) rfl (fun _ _ h_ => TL.off rfl rfl rfl (TL.nil h_)) ?_
                refine Plan.v 43 [44, 45, 46] (by kernel_rfl) (by kernel_rfl) (by kernel_rfl) (by kernel_rfl) rfl (fun _ _ h_ => TL.off rfl rfl rfl (TL.nil h_)) ?_
                refine Plan.v 44 [45, 46] (by kernel_rfl) (by kernel_rfl) (by kernel_rfl) (by kernel_rfl) rfl (fun _ _ h_ => TL.off rfl rfl rfl (TL.nil h_)) ?_
                refine Plan.v 45 [46] (by kernel_rfl) (by kernel_rfl) (by kernel_rfl) (by kernel_rfl) rfl (fun _ _ h_ => R.pkFE rfl rfl (by conv => lhs; whnf) (TL.nil h_)) ?_
                refine Plan.v 46 [] (by kernel_rfl) (by kernel_rfl) (by kernel_rfl) (by kernel_rfl) rfl (fun _ _ h_ => R.asE rfl (by conv => lhs; whnf) (TL.nil h_)) ?_
                refine Plan.done (Post.thnN ?_)
                refine T.has Has.nil ?_
                refine T.ret ?_
                have hM : windroselaw20_wakes_m = false := by subst e72; subst e65; subst er38; subst er32; subst er26; subst er19; subst er12; rw [windroselaw20_wakes_m, LR.seq_go, LR.seq_go, LR.seq_go, LR.seq_go, LR.seq_go, if_pos g43, if_pos g47, if_pos g51, if_pos g55, if_pos g61, if_pos g68, if_neg g75]
                exact fin1L (v := .bool false) [] rfl rfl (List.Sublist.refl _) ⟨rfl, by first | rw [hM] | rfl⟩
            · refine Plan.v 28 [29, 30, 31, 32, 33, 34, 35, 36, 37, 38, 39, 40, 41, 42, 43, 44, 45, 46] (by kernel_rfl) (by kernel_rfl) (by kernel_rfl) (by kernel_rfl) rfl (fun _ _ h_ => TL.off rfl rfl rfl (TL.nil h_)) ?_
              refine Plan.v 29 [30, 31, 32, 33, 34, 35, 36, 37, 38, 39, 40, 41, 42, 43, 44, 45, 46] (by kernel_rfl) (by kernel_rfl) (by kernel_rfl) (by kernel_rfl) rfl (fun _ _ h_ => TL.off rfl rfl rfl (TL.nil h_)) ?_
              refine Plan.v 30 [31, 32, 33, 34, 35, 36, 37, 38, 39, 40, 41, 42, 43, 44, 45, 46] (by kernel_rfl) (by kernel_rfl) (by kernel_rfl) (by kernel_rfl) rfl (fun _ _ h_ => TL.off rfl rfl rfl (TL.nil h_)) ?_
              refine Plan.v 31 [32, 33, 34, 35, 36, 37, 38, 39, 40, 41, 42, 43, 44, 45, 46] (by kernel_rfl) (by kernel_rfl) (by kernel_rfl) (by kernel_rfl) rfl (fun _ _ h_ => TL.off rfl rfl rfl (TL.nil h_)) ?_
              refine Plan.v 32 [33, 34, 35, 36, 37, 38, 39, 40, 41, 42, 43, 44, 45, 46] (by kernel_rfl) (by kernel_rfl) (by kernel_rfl) (by kernel_rfl) rfl (fun _ _ h_ => TL.off rfl rfl rfl (TL.nil h_)) ?_
              refine Plan.v 33 [34, 35, 36, 37, 38, 39, 40, 41, 42, 43, 44, 45, 46] (by kernel_rfl) (by kernel_rfl) (by kernel_rfl) (by kernel_rfl) rfl (fun _ _ h_ => R.pkFE rfl rfl (by conv => lhs; whnf) (TL.nil h_)) ?_
              refine Plan.v 34 [35, 36, 37, 38, 39, 40, 41, 42, 43, 44, 45, 46] (by kernel_rfl) (by kernel_rfl) (by kernel_rfl) (by kernel_rfl) rfl (fun _ _ h_ => R.mvE rfl (by conv => lhs; whnf) (TL.nil h_)) ?_
              refine Plan.v 35 [36, 37, 38, 39, 40, 41, 42, 43, 44, 45, 46] (by kernel_rfl) (by kernel_rfl) (by kernel_rfl) (by kernel_rfl) rfl (fun _ _ h_ => TL.off rfl rfl rfl (TL.nil h_)) ?_
              refine Plan.v 36 [37, 38, 39, 40, 41, 42, 43, 44, 45, 46] (by kernel_rfl) (by kernel_rfl) (by kernel_rfl) (by kernel_rfl) rfl (fun _ _ h_ => TL.off rfl rfl rfl (TL.nil h_)) ?_
              refine Plan.v 37 [38, 39, 40, 41, 42, 43, 44, 45, 46] (by kernel_rfl) (by kernel_rfl) (by kernel_rfl) (by kernel_rfl) rfl (fun _ _ h_ => TL.off rfl rfl rfl (TL.nil h_)) ?_
              refine Plan.v 38 [39, 40, 41, 42, 43, 44, 45, 46] (by kernel_rfl) (by kernel_rfl) (by kernel_rfl) (by kernel_rfl) rfl (fun _ _ h_ => TL.off rfl rfl rfl (TL.nil h_)) ?_
              refine Plan.v 39 [40, 41, 42, 43, 44, 45, 46] (by kernel_rfl) (by kernel_rfl) (by kernel_rfl) (by kernel_rfl) rfl (fun _ _ h_ => R.pkFE rfl rfl (by conv => lhs; whnf) (TL.nil h_)) ?_
              refine Plan.v 40 [41, 42, 43, 44, 45, 46] (by kernel_rfl) (by kernel_rfl) (by kernel_rfl) (by kernel_rfl) rfl (fun _ _ h_ => R.mvE rfl (by conv => lhs; whnf) (TL.nil h_)) ?_
              refine Plan.v 41 [42, 43, 44, 45, 46] (by kernel_rfl) (by kernel_rfl) (by kernel_rfl) (by kernel_rfl) rfl (fun _ _ h_ => TL.off rfl rfl rfl (TL.nil h_)) ?_
              refine Plan.v 42 [43, 44, 45, 46] (by kernel_rfl) (by kernel_rfl) (by kernel_rfl) (by kernel_rfl) rfl (fun _ _ h_ => TL.off rfl rfl rfl (TL.nil h_)) ?_
              refine Plan.v 43 [44, 45, 46] (by kernel_rfl) (by kernel_rfl) (by kernel_rfl) (by kernel_rfl) rfl (fun _ _ h_ => TL.off rfl rfl rfl (TL.nil h_)) ?_
              refine Plan.v 44 [45, 46] (by kernel_rfl) (by kernel_rfl) (by kernel_rfl) (by kernel_rfl) rfl (fun _ _ h_ => TL.off rfl rfl rfl (TL.nil h_)) ?_
              refine Plan.v 45 [46] (by kernel_rfl) (by kernel_rfl) (by kernel_rfl) (by kernel_rfl) rfl (fun _ _ h_ => R.pkFE rfl rfl (by conv => lhs; whnf) (TL.nil h_)) ?_
              refine Plan.v 46 [] (by kernel_rfl) (by kernel_rfl) (by kernel_rfl) (by kernel_rfl) rfl (fun _ _ h_ => R.asE rfl (by conv => lhs; whnf) (TL.nil h_)) ?_
              refine Plan.done (Post.thnN ?_)
              refine T.has Has.nil ?_
              refine T.ret ?_
              have hM : windroselaw20_wakes_m = false := by subst e65; subst er38; subst er32; subst er26; subst er19; subst er12; rw [windroselaw20_wakes_m, LR.seq_go, LR.seq_go, LR.seq_go, LR.seq_go, LR.seq_go, if_pos g43, if_pos g47, if_pos g51, if_pos g55, if_pos g61, if_neg g68]
              exact fin1L (v := .bool false) [] rfl rfl (List.Sublist.refl _) ⟨rfl, by first | rw [hM] | rfl⟩
          · refine Plan.v 21 [22, 23, 24, 25, 26, 27, 28, 29, 30, 31, 32, 33, 34, 35, 36, 37, 38, 39, 40, 41, 42, 43, 44, 45, 46] (by kernel_rfl) (by kernel_rfl) (by kernel_rfl) (by kernel_rfl) rfl (fun _ _ h_ => TL.off rfl rfl rfl (TL.nil h_)) ?_
            refine Plan.v 22 [23, 24, 25, 26, 27, 28, 29, 30, 31, 32, 33, 34, 35, 36, 37, 38, 39, 40, 41, 42, 43, 44, 45, 46] (by kernel_rfl) (by kernel_rfl) (by kernel_rfl) (by kernel_rfl) rfl (fun _ _ h_ => TL.off rfl rfl rfl (TL.nil h_)) ?_
            refine Plan.v 23 [24, 25, 26, 27, 28, 29, 30, 31, 32, 33, 34, 35, 36, 37, 38, 39, 40, 41, 42, 43, 44, 45, 46] (by kernel_rfl) (by kernel_rfl) (by kernel_rfl) (by kernel_rfl) rfl (fun _ _ h_ => TL.off rfl rfl rfl (TL.nil h_)) ?_
            refine Plan.v 24 [25, 26, 27, 28, 29, 30, 31, 32, 33, 34, 35, 36, 37, 38, 39, 40, 41, 42, 43, 44, 45, 46] (by kernel_rfl) (by kernel_rfl) (by kernel_rfl) (by kernel_rfl) rfl (fun _ _ h_ => TL.off rfl rfl rfl (TL.nil h_)) ?_
            refine Plan.v 25 [26, 27, 28, 29, 30, 31, 32, 33, 34, 35, 36, 37, 38, 39, 40, 41, 42, 43, 44, 45, 46] (by kernel_rfl) (by kernel_rfl) (by kernel_rfl) (by kernel_rfl) rfl (fun _ _ h_ => TL.off rfl rfl rfl (TL.nil h_)) ?_
            refine Plan.v 26 [27, 28, 29, 30, 31, 32, 33, 34, 35, 36, 37, 38, 39, 40, 41, 42, 43, 44, 45, 46] (by kernel_rfl) (by kernel_rfl) (by kernel_rfl) (by kernel_rfl) rfl (fun _ _ h_ => R.pkFE rfl rfl (by conv => lhs; whnf) (TL.nil h_)) ?_
            refine Plan.v 27 [28, 29, 30, 31, 32, 33, 34, 35, 36, 37, 38, 39, 40, 41, 42, 43, 44, 45, 46] (by kernel_rfl) (by kernel_rfl) (by kernel_rfl) (by kernel_rfl) rfl (fun _ _ h_ => R.mvE rfl (by conv => lhs; whnf) (TL.nil h_)) ?_
            refine Plan.v 28 [29, 30, 31, 32, 33, 34, 35, 36, 37, 38, 39, 40, 41, 42, 43, 44, 45, 46] (by kernel_rfl) (by kernel_rfl) (by kernel_rfl) (by kernel_rfl) rfl (fun _ _ h_ => TL.off rfl rfl rfl (TL.nil h_)) ?_
            refine Plan.v 29 [30, 31, 32, 33, 34, 35, 36, 37, 38, 39, 40, 41, 42, 43, 44, 45, 46] (by kernel_rfl) (by kernel_rfl) (by kernel_rfl) (by kernel_rfl) rfl (fun _ _ h_ => TL.off rfl rfl rfl (TL.nil h_)) ?_
            refine Plan.v 30 [31, 32, 33, 34, 35, 36, 37, 38, 39, 40, 41, 42, 43, 44, 45, 46] (by kernel_rfl) (by kernel_rfl) (by kernel_rfl) (by kernel_rfl) rfl (fun _ _ h_ => TL.off rfl rfl rfl (TL.nil h_)) ?_
            refine Plan.v 31 [32, 33, 34, 35, 36, 37, 38, 39, 40, 41, 42, 43, 44, 45, 46] (by kernel_rfl) (by kernel_rfl) (by kernel_rfl) (by kernel_rfl) rfl (fun _ _ h_ => TL.off rfl rfl rfl (TL.nil h_)) ?_
            refine Plan.v 32 [33, 34, 35, 36, 37, 38, 39, 40, 41, 42, 43, 44, 45, 46] (by kernel_rfl) (by kernel_rfl) (by kernel_rfl) (by kernel_rfl) rfl (fun _ _ h_ => TL.off rfl rfl rfl (TL.nil h_)) ?_
            refine Plan.v 33 [34, 35, 36, 37, 38, 39, 40, 41, 42, 43, 44, 45, 46] (by kernel_rfl) (by kernel_rfl) (by kernel_rfl) (by kernel_rfl) rfl (fun _ _ h_ => R.pkFE rfl rfl (by conv => lhs; whnf) (TL.nil h_)) ?_
            refine Plan.v 34 [35, 36, 37, 38, 39, 40, 41, 42, 43, 44, 45, 46] (by kernel_rfl) (by kernel_rfl) (by kernel_rfl) (by kernel_rfl) rfl (fun _ _ h_ => R.mvE rfl (by conv => lhs; whnf) (TL.nil h_)) ?_
            refine Plan.v 35 [36, 37, 38, 39, 40, 41, 42, 43, 44, 45, 46] (by kernel_rfl) (by kernel_rfl) (by kernel_rfl) (by kernel_rfl) rfl (fun _ _ h_ => TL.off rfl rfl rfl (TL.nil h_)) ?_
            refine Plan.v 36 [37, 38, 39, 40, 41, 42, 43, 44, 45, 46] (by kernel_rfl) (by kernel_rfl) (by kernel_rfl) (by kernel_rfl) rfl (fun _ _ h_ => TL.off rfl rfl rfl (TL.nil h_)) ?_
            refine Plan.v 37 [38, 39, 40, 41, 42, 43, 44, 45, 46] (by kernel_rfl) (by kernel_rfl) (by kernel_rfl) (by kernel_rfl) rfl (fun _ _ h_ => TL.off rfl rfl rfl (TL.nil h_)) ?_
            refine Plan.v 38 [39, 40, 41, 42, 43, 44, 45, 46] (by kernel_rfl) (by kernel_rfl) (by kernel_rfl) (by kernel_rfl) rfl (fun _ _ h_ => TL.off rfl rfl rfl (TL.nil h_)) ?_
            refine Plan.v 39 [40, 41, 42, 43, 44, 45, 46] (by kernel_rfl) (by kernel_rfl) (by kernel_rfl) (by kernel_rfl) rfl (fun _ _ h_ => R.pkFE rfl rfl (by conv => lhs; whnf) (TL.nil h_)) ?_
            refine Plan.v 40 [41, 42, 43, 44, 45, 46] (by kernel_rfl) (by kernel_rfl) (by kernel_rfl) (by kernel_rfl) rfl (fun _ _ h_ => R.mvE rfl (by conv => lhs; whnf) (TL.nil h_)) ?_
            refine Plan.v 41 [42, 43, 44, 45, 46] (by kernel_rfl) (by kernel_rfl) (by kernel_rfl) (by kernel_rfl) rfl (fun _ _ h_ => TL.off rfl rfl rfl (TL.nil h_)) ?_
            refine Plan.v 42 [43, 44, 45, 46] (by kernel_rfl) (by kernel_rfl) (by kernel_rfl) (by kernel_rfl) rfl (fun _ _ h_ => TL.off rfl rfl rfl (TL.nil h_)) ?_
            refine Plan.v 43 [44, 45, 46] (by kernel_rfl) (by kernel_rfl) (by kernel_rfl) (by kernel_rfl) rfl (fun _ _ h_ => TL.off rfl rfl rfl (TL.nil h_)) ?_
            refine Plan.v 44 [45, 46] (by kernel_rfl) (by kernel_rfl) (by kernel_rfl) (by kernel_rfl) rfl (fun _ _ h_ => TL.off rfl rfl rfl (TL.nil h_)) ?_
            refine Plan.v 45 [46] (by kernel_rfl) (by kernel_rfl) (by kernel_rfl) (by kernel_rfl) rfl (fun _ _ h_ => R.pkFE rfl rfl (by conv => lhs; whnf) (TL.nil h_)) ?_
            refine Plan.v 46 [] (by kernel_rfl) (by kernel_rfl) (by kernel_rfl) (by kernel_rfl) rfl (fun _ _ h_ => R.asE rfl (by conv => lhs; whnf) (TL.nil h_)) ?_
            refine Plan.done (Post.thnN ?_)
            refine T.has Has.nil ?_
            refine T.ret ?_
            have hM : windroselaw20_wakes_m = false := by subst er38; subst er32; subst er26; subst er19; subst er12; rw [windroselaw20_wakes_m, LR.seq_go, LR.seq_go, LR.seq_go, LR.seq_go, LR.seq_go, if_pos g43, if_pos g47, if_pos g51, if_pos g55, if_neg g61]
            exact fin1L (v := .bool false) [] rfl rfl (List.Sublist.refl _) ⟨rfl, by first | rw [hM] | rfl⟩
        · refine Plan.v 15 [16, 17, 18, 19, 20, 21, 22, 23, 24, 25, 26, 27, 28, 29, 30, 31, 32, 33, 34, 35, 36, 37, 38, 39, 40, 41, 42, 43, 44, 45, 46] (by kernel_rfl) (by kernel_rfl) (by kernel_rfl) (by kernel_rfl) rfl (fun _ _ h_ => TL.off rfl rfl rfl (TL.nil h_)) ?_
          refine Plan.v 16 [17, 18, 19, 20, 21, 22, 23, 24, 25, 26, 27, 28, 29, 30, 31, 32, 33, 34, 35, 36, 37, 38, 39, 40, 41, 42, 43, 44, 45, 46] (by kernel_rfl) (by kernel_rfl) (by kernel_rfl) (by kernel_rfl) rfl (fun _ _ h_ => TL.off rfl rfl rfl (TL.nil h_)) ?_
          refine Plan.v 17 [18, 19, 20, 21, 22, 23, 24, 25, 26, 27, 28, 29, 30, 31, 32, 33, 34, 35, 36, 37, 38, 39, 40, 41, 42, 43, 44, 45, 46] (by kernel_rfl) (by kernel_rfl) (by kernel_rfl) (by kernel_rfl) rfl (fun _ _ h_ => TL.off rfl rfl rfl (TL.nil h_)) ?_
          refine Plan.v 18 [19, 20, 21, 22, 23, 24, 25, 26, 27, 28, 29, 30, 31, 32, 33, 34, 35, 36, 37, 38, 39, 40, 41, 42, 43, 44, 45, 46] (by kernel_rfl) (by kernel_rfl) (by kernel_rfl) (by kernel_rfl) rfl (fun _ _ h_ => TL.off rfl rfl rfl (TL.nil h_)) ?_
          refine Plan.v 19 [20, 21, 22, 23, 24, 25, 26, 27, 28, 29, 30, 31, 32, 33, 34, 35, 36, 37, 38, 39, 40, 41, 42, 43, 44, 45, 46] (by kernel_rfl) (by kernel_rfl) (by kernel_rfl) (by kernel_rfl) rfl (fun _ _ h_ => R.pkFE rfl rfl (by conv => lhs; whnf) (TL.nil h_)) ?_
          refine Plan.v 20 [21, 22, 23, 24, 25, 26, 27, 28, 29, 30, 31, 32, 33, 34, 35, 36, 37, 38, 39, 40, 41, 42, 43, 44, 45, 46] (by kernel_rfl) (by kernel_rfl) (by kernel_rfl) (by kernel_rfl) rfl (fun _ _ h_ => R.mvE rfl (by conv => lhs; whnf) (TL.nil h_)) ?_
          refine Plan.v 21 [22, 23, 24, 25, 26, 27, 28, 29, 30, 31, 32, 33, 34, 35, 36, 37, 38, 39, 40, 41, 42, 43, 44, 45, 46] (by kernel_rfl) (by kernel_rfl) (by kernel_rfl) (by kernel_rfl) rfl (fun _ _ h_ => TL.off rfl rfl rfl (TL.nil h_)) ?_
          refine Plan.v 22 [23, 24, 25, 26, 27, 28, 29, 30, 31, 32, 33, 34, 35, 36, 37, 38, 39, 40, 41, 42, 43, 44, 45, 46] (by kernel_rfl) (by kernel_rfl) (by kernel_rfl) (by kernel_rfl) rfl (fun _ _ h_ => TL.off rfl rfl rfl (TL.nil h_)) ?_
          refine Plan.v 23 [24, 25, 26, 27, 28, 29, 30, 31, 32, 33, 34, 35, 36, 37, 38, 39, 40, 41, 42, 43, 44, 45, 46] (by kernel_rfl) (by kernel_rfl) (by kernel_rfl) (by kernel_rfl) rfl (fun _ _ h_ => TL.off rfl rfl rfl (TL.nil h_)) ?_
          refine Plan.v 24 [25, 26, 27, 28, 29, 30, 31, 32, 33, 34, 35, 36, 37, 38, 39, 40, 41, 42, 43, 44, 45, 46] (by kernel_rfl) (by kernel_rfl) (by kernel_rfl) (by kernel_rfl) rfl (fun _ _ h_ => TL.off rfl rfl rfl (TL.nil h_)) ?_
          refine Plan.v 25 [26, 27, 28, 29, 30, 31, 32, 33, 34, 35, 36, 37, 38, 39, 40, 41, 42, 43, 44, 45, 46] (by kernel_rfl) (by kernel_rfl) (by kernel_rfl) (by kernel_rfl) rfl (fun _ _ h_ => TL.off rfl rfl rfl (TL.nil h_)) ?_
          refine Plan.v 26 [27, 28, 29, 30, 31, 32, 33, 34, 35, 36, 37, 38, 39, 40, 41, 42, 43, 44, 45, 46] (by kernel_rfl) (by kernel_rfl) (by kernel_rfl) (by kernel_rfl) rfl (fun _ _ h_ => R.pkFE rfl rfl (by conv => lhs; whnf) (TL.nil h_)) ?_
          refine Plan.v 27 [28, 29, 30, 31, 32, 33, 34, 35, 36, 37, 38, 39, 40, 41, 42, 43, 44, 45, 46] (by kernel_rfl) (by kernel_rfl) (by kernel_rfl) (by kernel_rfl) rfl (fun _ _ h_ => R.mvE rfl (by conv => lhs; whnf) (TL.nil h_)) ?_
          refine Plan.v 28 [29, 30, 31, 32, 33, 34, 35, 36, 37, 38, 39, 40, 41, 42, 43, 44, 45, 46] (by kernel_rfl) (by kernel_rfl) (by kernel_rfl) (by kernel_rfl) rfl (fun _ _ h_ => TL.off rfl rfl rfl (TL.nil h_)) ?_
          refine Plan.v 29 [30, 31, 32, 33, 34, 35, 36, 37, 38, 39, 40, 41, 42, 43, 44, 45, 46] (by kernel_rfl) (by kernel_rfl) (by kernel_rfl) (by kernel_rfl) rfl (fun _ _ h_ => TL.off rfl rfl rfl (TL.nil h_)) ?_
          refine Plan.v 30 [31, 32, 33, 34, 35, 36, 37, 38, 39, 40, 41, 42, 43, 44, 45, 46] (by kernel_rfl) (by kernel_rfl) (by kernel_rfl) (by kernel_rfl) rfl (fun _ _ h_ => TL.off rfl rfl rfl (TL.nil h_)) ?_
          refine Plan.v 31 [32, 33, 34, 35, 36, 37, 38, 39, 40, 41, 42, 43, 44, 45, 46] (by kernel_rfl) (by kernel_rfl) (by kernel_rfl) (by kernel_rfl) rfl (fun _ _ h_ => TL.off rfl rfl rfl (TL.nil h_)) ?_
          refine Plan.v 32 [33, 34, 35, 36, 37, 38, 39, 40, 41, 42, 43, 44, 45, 46] (by kernel_rfl) (by kernel_rfl) (by kernel_rfl) (by kernel_rfl) rfl (fun _ _ h_ => TL.off rfl rfl rfl (TL.nil h_)) ?_
          refine Plan.v 33 [34, 35, 36, 37, 38, 39, 40, 41, 42, 43, 44, 45, 46] (by kernel_rfl) (by kernel_rfl) (by kernel_rfl) (by kernel_rfl) rfl (fun _ _ h_ => R.pkFE rfl rfl (by conv => lhs; whnf) (TL.nil h_)) ?_
          refine Plan.v 34 [35, 36, 37, 38, 39, 40, 41, 42, 43, 44, 45, 46] (by kernel_rfl) (by kernel_rfl) (by kernel_rfl) (by kernel_rfl) rfl (fun _ _ h_ => R.mvE rfl (by conv => lhs; whnf) (TL.nil h_)) ?_
          refine Plan.v 35 [36, 37, 38, 39, 40, 41, 42, 43, 44, 45, 46] (by kernel_rfl) (by kernel_rfl) (by kernel_rfl) (by kernel_rfl) rfl (fun _ _ h_ => TL.off rfl rfl rfl (TL.nil h_)) ?_
          refine Plan.v 36 [37, 38, 39, 40, 41, 42, 43, 44, 45, 46] (by kernel_rfl) (by kernel_rfl) (by kernel_rfl) (by kernel_rfl) rfl (fun _ _ h_ => TL.off rfl rfl rfl (TL.nil h_)) ?_
          refine Plan.v 37 [38, 39, 40, 41, 42, 43, 44, 45, 46] (by kernel_rfl) (by kernel_rfl) (by kernel_rfl) (by kernel_rfl) rfl (fun _ _ h_ => TL.off rfl rfl rfl (TL.nil h_)) ?_
          refine Plan.v 38 [39, 40, 41, 42, 43, 44, 45, 46] (by kernel_rfl) (by kernel_rfl) (by kernel_rfl) (by kernel_rfl) rfl (fun _ _ h_ => TL.off rfl rfl rfl (TL.nil h_)) ?_
          refine Plan.v 39 [40, 41, 42, 43, 44, 45, 46] (by kernel_rfl) (by kernel_rfl) (by kernel_rfl) (by kernel_rfl) rfl (fun _ _ h_ => R.pkFE rfl rfl (by conv => lhs; whnf) (TL.nil h_)) ?_
          refine Plan.v 40 [41, 42, 43, 44, 45, 46] (by kernel_rfl) (by kernel_rfl) (by kernel_rfl) (by kernel_rfl) rfl (fun _ _ h_ => R.mvE rfl (by conv => lhs; whnf) (TL.nil h_)) ?_
          refine Plan.v 41 [42, 43, 44, 45, 46] (by kernel_rfl) (by kernel_rfl) (by kernel_rfl) (by kernel_rfl) rfl (fun _ _ h_ => TL.off rfl rfl rfl (TL.nil h_)) ?_
          refine Plan.v 42 [43, 44, 45, 46] (by kernel_rfl) (by kernel_rfl) (by kernel_rfl) (by kernel_rfl) rfl (fun _ _ h_ => TL.off rfl rfl rfl (TL.nil h_)) ?_
          refine Plan.v 43 [44, 45, 46] (by kernel_rfl) (by kernel_rfl) (by kernel_rfl) (by kernel_rfl) rfl (fun _ _ h_ => TL.off rfl rfl rfl (TL.nil h_)) ?_
          refine Plan.v 44 [45, 46] (by kernel_rfl) (by kernel_rfl) (by kernel_rfl) (by kernel_rfl) rfl (fun _ _ h_ => TL.off rfl rfl rfl (TL.nil h_)) ?_
          refine Plan.v 45 [46] (by kernel_rfl) (by kernel_rfl) (by kernel_rfl) (by kernel_rfl) rfl (fun _ _ h_ => R.pkFE rfl rfl (by conv => lhs; whnf) (TL.nil h_)) ?_
          refine Plan.v 46 [] (by kernel_rfl) (by kernel_rfl) (by kernel_rfl) (by kernel_rfl) rfl (fun _ _ h_ => R.asE rfl (by conv => lhs; whnf) (TL.nil h_)) ?_
          refine Plan.done (Post.thnN ?_)
          refine T.has Has.nil ?_
          refine T.ret ?_
          have hM : windroselaw20_wakes_m = false := by subst er38; subst er32; subst er26; subst er19; subst er12; rw [windroselaw20_wakes_m, LR.seq_go, LR.seq_go, LR.seq_go, LR.seq_go, LR.seq_go, if_pos g43, if_pos g47, if_pos g51, if_neg g55]
          exact fin1L (v := .bool false) [] rfl rfl (List.Sublist.refl _) ⟨rfl, by first | rw [hM] | rfl⟩
      · refine Plan.v 11 [12, 13, 14, 15, 16, 17, 18, 19, 20, 21, 22, 23, 24, 25, 26, 27, 28, 29, 30, 31, 32, 33, 34, 35, 36, 37, 38, 39, 40, 41, 42, 43, 44, 45, 46] (by kernel_rfl) (by kernel_rfl) (by kernel_rfl) (by kernel_rfl) rfl (fun _ _ h_ => TL.off rfl rfl rfl (TL.nil h_)) ?_
        refine Plan.v 12 [13, 14, 15, 16, 17, 18, 19, 20, 21, 22, 23, 24, 25, 26, 27, 28, 29, 30, 31, 32, 33, 34, 35, 36, 37, 38, 39, 40, 41, 42, 43, 44, 45, 46] (by kernel_rfl) (by kernel_rfl) (by kernel_rfl) (by kernel_rfl) rfl (fun _ _ h_ => TL.off rfl rfl rfl (TL.nil h_)) ?_
        refine Plan.v 13 [14, 15, 16, 17, 18, 19, 20, 21, 22, 23, 24, 25, 26, 27, 28, 29, 30, 31, 32, 33, 34, 35, 36, 37, 38, 39, 40, 41, 42, 43, 44, 45, 46] (by kernel_rfl) (by kernel_rfl) (by kernel_rfl) (by kernel_rfl) rfl (fun _ _ h_ => R.pkFE rfl rfl (by conv => lhs; whnf) (TL.nil h_)) ?_
        refine Plan.v 14 [15, 16, 17, 18, 19, 20, 21, 22, 23, 24, 25, 26, 27, 28, 29, 30, 31, 32, 33, 34, 35, 36, 37, 38, 39, 40, 41, 42, 43, 44, 45, 46] (by kernel_rfl) (by kernel_rfl) (by kernel_rfl) (by kernel_rfl) rfl (fun _ _ h_ => R.mvE rfl (by conv => lhs; whnf) (TL.nil h_)) ?_
        refine Plan.v 15 [16, 17, 18, 19, 20, 21, 22, 23, 24, 25, 26, 27, 28, 29, 30, 31, 32, 33, 34, 35, 36, 37, 38, 39, 40, 41, 42, 43, 44, 45, 46] (by kernel_rfl) (by kernel_rfl) (by kernel_rfl) (by kernel_rfl) rfl (fun _ _ h_ => TL.off rfl rfl rfl (TL.nil h_)) ?_
        refine Plan.v 16 [17, 18, 19, 20, 21, 22, 23, 24, 25, 26, 27, 28, 29, 30, 31, 32, 33, 34, 35, 36, 37, 38, 39, 40, 41, 42, 43, 44, 45, 46] (by kernel_rfl) (by kernel_rfl) (by kernel_rfl) (by kernel_rfl) rfl (fun _ _ h_ => TL.off rfl rfl rfl (TL.nil h_)) ?_
        refine Plan.v 17 [18, 19, 20, 21, 22, 23, 24, 25, 26, 27, 28, 29, 30, 31, 32, 33, 34, 35, 36, 37, 38, 39, 40, 41, 42, 43, 44, 45, 46] (by kernel_rfl) (by kernel_rfl) (by kernel_rfl) (by kernel_rfl) rfl (fun _ _ h_ => TL.off rfl rfl rfl (TL.nil h_)) ?_
        refine Plan.v 18 [19, 20, 21, 22, 23, 24, 25, 26, 27, 28, 29, 30, 31, 32, 33, 34, 35, 36, 37, 38, 39, 40, 41, 42, 43, 44, 45, 46] (by kernel_rfl) (by kernel_rfl) (by kernel_rfl) (by kernel_rfl) rfl (fun _ _ h_ => TL.off rfl rfl rfl (TL.nil h_)) ?_
        refine Plan.v 19 [20, 21, 22, 23, 24, 25, 26, 27, 28, 29, 30, 31, 32, 33, 34, 35, 36, 37, 38, 39, 40, 41, 42, 43, 44, 45, 46] (by kernel_rfl) (by kernel_rfl) (by kernel_rfl) (by kernel_rfl) rfl (fun _ _ h_ => R.pkFE rfl rfl (by conv => lhs; whnf) (TL.nil h_)) ?_
        refine Plan.v 20 [21, 22, 23, 24, 25, 26, 27, 28, 29, 30, 31, 32, 33, 34, 35, 36, 37, 38, 39, 40, 41, 42, 43, 44, 45, 46] (by kernel_rfl) (by kernel_rfl) (by kernel_rfl) (by kernel_rfl) rfl (fun _ _ h_ => R.mvE rfl (by conv => lhs; whnf) (TL.nil h_)) ?_
        refine Plan.v 21 [22, 23, 24, 25, 26, 27, 28, 29, 30, 31, 32, 33, 34, 35, 36, 37, 38, 39, 40, 41, 42, 43, 44, 45, 46] (by kernel_rfl) (by kernel_rfl) (by kernel_rfl) (by kernel_rfl) rfl (fun _ _ h_ => TL.off rfl rfl rfl (TL.nil h_)) ?_
        refine Plan.v 22 [23, 24, 25, 26, 27, 28, 29, 30, 31, 32, 33, 34, 35, 36, 37, 38, 39, 40, 41, 42, 43, 44, 45, 46] (by kernel_rfl) (by kernel_rfl) (by kernel_rfl) (by kernel_rfl) rfl (fun _ _ h_ => TL.off rfl rfl rfl (TL.nil h_)) ?_
        refine Plan.v 23 [24, 25, 26, 27, 28, 29, 30, 31, 32, 33, 34, 35, 36, 37, 38, 39, 40, 41, 42, 43, 44, 45, 46] (by kernel_rfl) (by kernel_rfl) (by kernel_rfl) (by kernel_rfl) rfl (fun _ _ h_ => TL.off rfl rfl rfl (TL.nil h_)) ?_
        refine Plan.v 24 [25, 26, 27, 28, 29, 30, 31, 32, 33, 34, 35, 36, 37, 38, 39, 40, 41, 42, 43, 44, 45, 46] (by kernel_rfl) (by kernel_rfl) (by kernel_rfl) (by kernel_rfl) rfl (fun _ _ h_ => TL.off rfl rfl rfl (TL.nil h_)) ?_
        refine Plan.v 25 [26, 27, 28, 29, 30, 31, 32, 33, 34, 35, 36, 37, 38, 39, 40, 41, 42, 43, 44, 45, 46] (by kernel_rfl) (by kernel_rfl) (by kernel_rfl) (by kernel_rfl) rfl (fun _ _ h_ => TL.off rfl rfl rfl (TL.nil h_)) ?_
        refine Plan.v 26 [27, 28, 29, 30, 31, 32, 33, 34, 35, 36, 37, 38, 39, 40, 41, 42, 43, 44, 45, 46] (by kernel_rfl) (by kernel_rfl) (by kernel_rfl) (by kernel_rfl) rfl (fun _ _ h_ => R.pkFE rfl rfl (by conv => lhs; whnf) (TL.nil h_)) ?_
        refine Plan.v 27 [28, 29, 30, 31, 32, 33, 34, 35, 36, 37, 38, 39, 40, 41, 42, 43, 44, 45, 46] (by kernel_rfl) (by kernel_rfl) (by kernel_rfl) (by kernel_rfl) rfl (fun _ _ h_ => R.mvE rfl (by conv => lhs; whnf) (TL.nil h_)) ?_
        refine Plan.v 28 [29, 30, 31, 32, 33, 34, 35, 36, 37, 38, 39, 40, 41, 42, 43, 44, 45, 46] (by kernel_rfl) (by kernel_rfl) (by kernel_rfl) (by kernel_rfl) rfl (fun _ _ h_ => TL.off rfl rfl rfl (TL.nil h_)) ?_
        refine Plan.v 29 [30, 31, 32, 33, 34, 35, 36, 37, 38, 39, 40, 41, 42, 43, 44, 45, 46] (by kernel_rfl) (by kernel_rfl) (by kernel_rfl) (by kernel_rfl) rfl (fun _ _ h_ => TL.off rfl rfl rfl (TL.nil h_)) ?_
        refine Plan.v 30 [31, 32, 33, 34, 35, 36, 37, 38, 39, 40, 41, 42, 43, 44, 45, 46] (by kernel_rfl) (by kernel_rfl) (by kernel_rfl) (by kernel_rfl) rfl (fun _ _ h_ => TL.off rfl rfl rfl (TL.nil h_)) ?_
        refine Plan.v 31 [32, 33, 34, 35, 36, 37, 38, 39, 40, 41, 42, 43, 44, 45, 46] (by kernel_rfl) (by kernel_rfl) (by kernel_rfl) (by kernel_rfl) rfl (fun _ _ h_ => TL.off rfl rfl rfl (TL.nil h_)) ?_
        refine Plan.v 32 [33, 34, 35, 36, 37, 38, 39, 40, 41, 42, 43, 44, 45, 46] (by kernel_rfl) (by kernel_rfl) (by kernel_rfl) (by kernel_rfl) rfl (fun _ _ h_ => TL.off rfl rfl rfl (TL.nil h_)) ?_
        refine Plan.v 33 [34, 35, 36, 37, 38, 39, 40, 41, 42, 43, 44, 45, 46] (by kernel_rfl) (by kernel_rfl) (by kernel_rfl) (by kernel_rfl) rfl (fun _ _ h_ => R.pkFE rfl rfl (by conv => lhs; whnf) (TL.nil h_)) ?_
        refine Plan.v 34 [35, 36, 37, 38, 39, 40, 41, 42, 43, 44, 45, 46] (by kernel_rfl) (by kernel_rfl) (by kernel_rfl) (by kernel_rfl) rfl (fun _ _ h_ => R.mvE rfl (by conv => lhs; whnf) (TL.nil h_)) ?_
        refine Plan.v 35 [36, 37, 38, 39, 40, 41, 42, 43, 44, 45, 46] (by kernel_rfl) (by kernel_rfl) (by kernel_rfl) (by kernel_rfl) rfl (fun _ _ h_ => TL.off rfl rfl rfl (TL.nil h_)) ?_
        refine Plan.v 36 [37, 38, 39, 40, 41, 42, 43, 44, 45, 46] (by kernel_rfl) (by kernel_rfl) (by kernel_rfl) (by kernel_rfl) rfl (fun _ _ h_ => TL.off rfl rfl rfl (TL.nil h_)) ?_
        refine Plan.v 37 [38, 39, 40, 41, 42, 43, 44, 45, 46] (by kernel_rfl) (by kernel_rfl) (by kernel_rfl) (by kernel_rfl) rfl (fun _ _ h_ => TL.off rfl rfl rfl (TL.nil h_)) ?_
        refine Plan.v 38 [39, 40, 41, 42, 43, 44, 45, 46] (by kernel_rfl) (by kernel_rfl) (by kernel_rfl) (by kernel_rfl) rfl (fun _ _ h_ => TL.off rfl rfl rfl (TL.nil h_)) ?_
        refine Plan.v 39 [40, 41, 42, 43, 44, 45, 46] (by kernel_rfl) (by kernel_rfl) (by kernel_rfl) (by kernel_rfl) rfl (fun _ _ h_ => R.pkFE rfl rfl (by conv => lhs; whnf) (TL.nil h_)) ?_
        refine Plan.v 40 [41, 42, 43, 44, 45, 46] (by kernel_rfl) (by kernel_rfl) (by kernel_rfl) (by kernel_rfl) rfl (fun _ _ h_ => R.mvE rfl (by conv => lhs; whnf) (TL.nil h_)) ?_
        refine Plan.v 41 [42, 43, 44, 45, 46] (by kernel_rfl) (by kernel_rfl) (by kernel_rfl) (by kernel_rfl) rfl (fun _ _ h_ => TL.off rfl rfl rfl (TL.nil h_)) ?_
        refine Plan.v 42 [43, 44, 45, 46] (by kernel_rfl) (by kernel_rfl) (by kernel_rfl) (by kernel_rfl) rfl (fun _ _ h_ => TL.off rfl rfl rfl (TL.nil h_)) ?_
        refine Plan.v 43 [44, 45, 46] (by kernel_rfl) (by kernel_rfl) (by kernel_rfl) (by kernel_rfl) rfl (fun _ _ h_ => TL.off rfl rfl rfl (TL.nil h_)) ?_
        refine Plan.v 44 [45, 46] (by kernel_rfl) (by kernel_rfl) (by kernel_rfl) (by kernel_rfl) rfl (fun _ _ h_ => TL.off rfl rfl rfl (TL.nil h_)) ?_
        refine Plan.v 45 [46] (by kernel_rfl) (by kernel_rfl) (by kernel_rfl) (by kernel_rfl) rfl (fun _ _ h_ => R.pkFE rfl rfl (by conv => lhs; whnf) (TL.nil h_)) ?_
        refine Plan.v 46 [] (by kernel_rfl) (by kernel_rfl) (by kernel_rfl) (by kernel_rfl) rfl (fun _ _ h_ => R.asE rfl (by conv => lhs; whnf) (TL.nil h_)) ?_
        refine Plan.done (Post.thnN ?_)
        refine T.has Has.nil ?_
        refine T.ret ?_
        have hM : windroselaw20_wakes_m = false := by subst er38; subst er32; subst er26; subst er19; subst er12; rw [windroselaw20_wakes_m, LR.seq_go, LR.seq_go, LR.seq_go, LR.seq_go, LR.seq_go, if_pos g43, if_pos g47, if_neg g51]
        exact fin1L (v := .bool false) [] rfl rfl (List.Sublist.refl _) ⟨rfl, by first | rw [hM] | rfl⟩
    · refine Plan.v 7 [8, 9, 10, 11, 12, 13, 14, 15, 16, 17, 18, 19, 20, 21, 22, 23, 24, 25, 26, 27, 28, 29, 30, 31, 32, 33, 34, 35, 36, 37, 38, 39, 40, 41, 42, 43, 44, 45, 46] (by kernel_rfl) (by kernel_rfl) (by kernel_rfl) (by kernel_rfl) rfl (fun _ _ h_ => TL.off rfl rfl rfl (TL.nil h_)) ?_
      refine Plan.v 8 [9, 10, 11, 12, 13, 14, 15, 16, 17, 18, 19, 20, 21, 22, 23, 24, 25, 26, 27, 28, 29, 30, 31, 32, 33, 34, 35, 36, 37, 38, 39, 40, 41, 42, 43, 44, 45, 46] (by kernel_rfl) (by kernel_rfl) (by kernel_rfl) (by kernel_rfl) rfl (fun _ _ h_ => TL.off rfl rfl rfl (TL.nil h_)) ?_
      refine Plan.v 9 [10, 11, 12, 13, 14, 15, 16, 17, 18, 19, 20, 21, 22, 23, 24, 25, 26, 27, 28, 29, 30, 31, 32, 33, 34, 35, 36, 37, 38, 39, 40, 41, 42, 43, 44, 45, 46] (by kernel_rfl) (by kernel_rfl) (by kernel_rfl) (by kernel_rfl) rfl (fun _ _ h_ => R.pkFE rfl rfl (by conv => lhs; whnf) (TL.nil h_)) ?_
      refine Plan.v 10 [11, 12, 13, 14, 15, 16, 17, 18, 19, 20, 21, 22, 23, 24, 25, 26, 27, 28, 29, 30, 31, 32, 33, 34, 35, 36, 37, 38, 39, 40, 41, 42, 43, 44, 45, 46] (by kernel_rfl) (by kernel_rfl) (by kernel_rfl) (by kernel_rfl) rfl (fun _ _ h_ => R.mvE rfl (by conv => lhs; whnf) (TL.nil h_)) ?_
      refine Plan.v 11 [12, 13, 14, 15, 16, 17, 18, 19, 20, 21, 22, 23, 24, 25, 26, 27, 28, 29, 30, 31, 32, 33, 34, 35, 36, 37, 38, 39, 40, 41, 42, 43, 44, 45, 46] (by kernel_rfl) (by kernel_rfl) (by kernel_rfl) (by kernel_rfl) rfl (fun _ _ h_ => TL.off rfl rfl rfl (TL.nil h_)) ?_
      refine Plan.v 12 [13, 14, 15, 16, 17, 18, 19, 20, 21, 22, 23, 24, 25, 26, 27, 28, 29, 30, 31, 32, 33, 34, 35, 36, 37, 38, 39, 40, 41, 42, 43, 44, 45, 46] (by kernel_rfl) (by kernel_rfl) (by kernel_rfl) (by kernel_rfl) rfl (fun _ _ h_ => TL.off rfl rfl rfl (TL.nil h_)) ?_
      refine Plan.v 13 [14, 15, 16, 17, 18, 19, 20, 21, 22, 23, 24, 25, 26, 27, 28, 29, 30, 31, 32, 33, 34, 35, 36, 37, 38, 39, 40, 41, 42, 43, 44, 45, 46] (by kernel_rfl) (by kernel_rfl) (by kernel_rfl) (by kernel_rfl) rfl (fun _ _ h_ => R.pkFE rfl rfl (by conv => lhs; whnf) (TL.nil h_)) ?_
      refine Plan.v 14 [15, 16, 17, 18, 19, 20, 21, 22, 23, 24, 25, 26, 27, 28, 29, 30, 31, 32, 33, 34, 35, 36, 37, 38, 39, 40, 41, 42, 43, 44, 45, 46] (by kernel_rfl) (by kernel_rfl) (by kernel_rfl) (by kernel_rfl) rfl (fun _ _ h_ => R.mvE rfl (by conv => lhs; whnf) (TL.nil h_)) ?_
      refine Plan.v 15 [16, 17, 18, 19, 20, 21, 22, 23, 24, 25, 26, 27, 28, 29, 30, 31, 32, 33, 34, 35, 36, 37, 38, 39, 40, 41, 42, 43, 44, 45, 46] (by kernel_rfl) (by kernel_rfl) (by kernel_rfl) (by kernel_rfl) rfl (fun _ _ h_ => TL.off rfl rfl rfl (TL.nil h_)) ?_
      refine Plan.v 16 [17, 18, 19, 20, 21, 22, 23, 24, 25, 26, 27, 28, 29, 30, 31, 32, 33, 34, 35, 36, 37, 38, 39, 40, 41, 42, 43, 44, 45, 46] (by kernel_rfl) (by kernel_rfl) (by kernel_rfl) (by kernel_rfl) rfl (fun _ _ h_ => TL.off rfl rfl rfl (TL.nil h_)) ?_
      refine Plan.v 17 [18, 19, 20, 21, 22, 23, 24, 25, 26, 27, 28, 29, 30, 31, 32, 33, 34, 35, 36, 37, 38, 39, 40, 41, 42, 43, 44, 45, 46] (by kernel_rfl) (by kernel_rfl) (by kernel_rfl) (by kernel_rfl) rfl (fun _ _ h_ => TL.off rfl rfl rfl (TL.nil h_)) ?_
      refine Plan.v 18 [19, 20, 21, 22, 23, 24, 25, 26, 27, 28, 29, 30, 31, 32, 33, 34, 35, 36, 37, 38, 39, 40, 41, 42, 43, 44, 45, 46] (by kernel_rfl) (by kernel_rfl) (by kernel_rfl) (by kernel_rfl) rfl (fun _ _ h_ => TL.off rfl rfl rfl (TL.nil h_)) ?_
      refine Plan.v 19 [20, 21, 22, 23, 24, 25, 26, 27, 28, 29, 30, 31, 32, 33, 34, 35, 36, 37, 38, 39, 40, 41, 42, 43, 44, 45, 46] (by kernel_rfl) (by kernel_rfl) (by kernel_rfl) (by kernel_rfl) rfl (fun _ _ h_ => R.pkFE rfl rfl (by conv => lhs; whnf) (TL.nil h_)) ?_
      refine Plan.v 20 [21, 22, 23, 24, 25, 26, 27, 28, 29, 30, 31, 32, 33, 34, 35, 36, 37, 38, 39, 40, 41, 42, 43, 44, 45, 46] (by kernel_rfl) (by kernel_rfl) (by kernel_rfl) (by kernel_rfl) rfl (fun _ _ h_ => R.mvE rfl (by conv => lhs; whnf) (TL.nil h_)) ?_
      refine Plan.v 21 [22, 23, 24, 25, 26, 27, 28, 29, 30, 31, 32, 33, 34, 35, 36, 37, 38, 39, 40, 41, 42, 43, 44, 45, 46] (by kernel_rfl) (by kernel_rfl) (by kernel_rfl) (by kernel_rfl) rfl (fun _ _ h_ => TL.off rfl rfl rfl (TL.nil h_)) ?_
      refine Plan.v 22 [23, 24, 25, 26, 27, 28, 29, 30, 31, 32, 33, 34, 35, 36, 37, 38, 39, 40, 41, 42, 43, 44, 45, 46] (by kernel_rfl) (by kernel_rfl) (by kernel_rfl) (by kernel_rfl) rfl (fun _ _ h_ => TL.off rfl rfl rfl (TL.nil h_)) ?_
      refine Plan.v 23 [24, 25, 26, 27, 28, 29, 30, 31, 32, 33, 34, 35, 36, 37, 38, 39, 40, 41, 42, 43, 44, 45, 46] (by kernel_rfl) (by kernel_rfl) (by kernel_rfl) (by kernel_rfl) rfl (fun _ _ h_ => TL.off rfl rfl rfl (TL.nil h_)) ?_
      refine Plan.v 24 [25, 26, 27, 28, 29, 30, 31, 32, 33, 34, 35, 36, 37, 38, 39, 40, 41, 42, 43, 44, 45, 46] (by kernel_rfl) (by kernel_rfl) (by kernel_rfl) (by kernel_rfl) rfl (fun _ _ h_ => TL.off rfl rfl rfl (TL.nil h_)) ?_
      refine Plan.v 25 [26, 27, 28, 29, 30, 31, 32, 33, 34, 35, 36, 37, 38, 39, 40, 41, 42, 43, 44, 45, 46] (by kernel_rfl) (by kernel_rfl) (by kernel_rfl) (by kernel_rfl) rfl (fun _ _ h_ => TL.off rfl rfl rfl (TL.nil h_)) ?_
      refine Plan.v 26 [27, 28, 29, 30, 31, 32, 33, 34, 35, 36, 37, 38, 39, 40, 41, 42, 43, 44, 45, 46] (by kernel_rfl) (by kernel_rfl) (by kernel_rfl) (by kernel_rfl) rfl (fun _ _ h_ => R.pkFE rfl rfl (by conv => lhs; whnf) (TL.nil h_)) ?_
      refine Plan.v 27 [28, 29, 30, 31, 32, 33, 34, 35, 36, 37, 38, 39, 40, 41, 42, 43, 44, 45, 46] (by kernel_rfl) (by kernel_rfl) (by kernel_rfl) (by kernel_rfl) rfl (fun _ _ h_ => R.mvE rfl (by conv => lhs; whnf) (TL.nil h_)) ?_
      refine Plan.v 28 [29, 30, 31, 32, 33, 34, 35, 36, 37, 38, 39, 40, 41, 42, 43, 44, 45, 46] (by kernel_rfl) (by kernel_rfl) (by kernel_rfl) (by kernel_rfl) rfl (fun _ _ h_ => TL.off rfl rfl rfl (TL.nil h_)) ?_
      refine Plan.v 29 [30, 31, 32, 33, 34, 35, 36, 37, 38, 39, 40, 41, 42, 43, 44, 45, 46] (by kernel_rfl) (by kernel_rfl) (by kernel_rfl) (by kernel_rfl) rfl (fun _ _ h_ => TL.off rfl rfl rfl (TL.nil h_)) ?_
      refine Plan.v 30 [31, 32, 33, 34, 35, 36, 37, 38, 39, 40, 41, 42, 43, 44, 45, 46] (by kernel_rfl) (by kernel_rfl) (by kernel_rfl) (by kernel_rfl) rfl (fun _ _ h_ => TL.off rfl rfl rfl (TL.nil h_)) ?_
      refine Plan.v 31 [32, 33, 34, 35, 36, 37, 38, 39, 40, 41, 42, 43, 44, 45, 46] (by kernel_rfl) (by kernel_rfl) (by kernel_rfl) (by kernel_rfl) rfl (fun _ _ h_ => TL.off rfl rfl rfl (TL.nil h_)) ?_
      refine Plan.v 32 [33, 34, 35, 36, 37, 38, 39, 40, 41, 42, 43, 44, 45, 46] (by kernel_rfl) (by kernel_rfl) (by kernel_rfl) (by kernel_rfl) rfl (fun _ _ h_ => TL.off rfl rfl rfl (TL.nil h_)) ?_
      refine Plan.v 33 [34, 35, 36, 37, 38, 39, 40, 41, 42, 43, 44, 45, 46] (by kernel_rfl) (by kernel_rfl) (by kernel_rfl) (by kernel_rfl) rfl (fun _ _ h_ => R.pkFE rfl rfl (by conv => lhs; whnf) (TL.nil h_)) ?_
      refine Plan.v 34 [35, 36, 37, 38, 39, 40, 41, 42, 43, 44, 45, 46] (by kernel_rfl) (by kernel_rfl) (by kernel_rfl) (by kernel_rfl) rfl (fun _ _ h_ => R.mvE rfl (by conv => lhs; whnf) (TL.nil h_)) ?_
      refine Plan.v 35 [36, 37, 38, 39, 40, 41, 42, 43, 44, 45, 46] (by kernel_rfl) (by kernel_rfl) (by kernel_rfl) (by kernel_rfl) rfl (fun _ _ h_ => TL.off rfl rfl rfl (TL.nil h_)) ?_
      refine Plan.v 36 [37, 38, 39, 40, 41, 42, 43, 44, 45, 46] (by kernel_rfl) (by kernel_rfl) (by kernel_rfl) (by kernel_rfl) rfl (fun _ _ h_ => TL.off rfl rfl rfl (TL.nil h_)) ?_
      refine Plan.v 37 [38, 39, 40, 41, 42, 43, 44, 45, 46] (by kernel_rfl) (by kernel_rfl) (by kernel_rfl) (by kernel_rfl) rfl (fun _ _ h_ => TL.off rfl rfl rfl (TL.nil h_)) ?_
      refine Plan.v 38 [39, 40, 41, 42, 43, 44, 45, 46] (by kernel_rfl) (by kernel_rfl) (by kernel_rfl) (by kernel_rfl) rfl (fun _ _ h_ => TL.off rfl rfl rfl (TL.nil h_)) ?_
      refine Plan.v 39 [40, 41, 42, 43, 44, 45, 46] (by kernel_rfl) (by kernel_rfl) (by kernel_rfl) (by kernel_rfl) rfl (fun _ _ h_ => R.pkFE rfl rfl (by conv => lhs; whnf) (TL.nil h_)) ?_
      refine Plan.v 40 [41, 42, 43, 44, 45, 46] (by kernel_rfl) (by kernel_rfl) (by kernel_rfl) (by kernel_rfl) rfl (fun _ _ h_ => R.mvE rfl (by conv => lhs; whnf) (TL.nil h_)) ?_
      refine Plan.v 41 [42, 43, 44, 45, 46] (by kernel_rfl) (by kernel_rfl) (by kernel_rfl) (by kernel_rfl) rfl (fun _ _ h_ => TL.off rfl rfl rfl (TL.nil h_)) ?_
      refine Plan.v 42 [43, 44, 45, 46] (by kernel_rfl) (by kernel_rfl) (by kernel_rfl) (by kernel_rfl) rfl (fun _ _ h_ => TL.off rfl rfl rfl (TL.nil h_)) ?_
      refine Plan.v 43 [44, 45, 46] (by kernel_rfl) (by kernel_rfl) (by kernel_rfl) (by kernel_rfl) rfl (fun _ _ h_ => TL.off rfl rfl rfl (TL.nil h_)) ?_
      refine Plan.v 44 [45, 46] (by kernel_rfl) (by kernel_rfl) (by kernel_rfl) (by kernel_rfl) rfl (fun _ _ h_ => TL.off rfl rfl rfl (TL.nil h_)) ?_
      refine Plan.v 45 [46] (by kernel_rfl) (by kernel_rfl) (by kernel_rfl) (by kernel_rfl) rfl (fun _ _ h_ => R.pkFE rfl rfl (by conv => lhs; whnf) (TL.nil h_)) ?_
      refine Plan.v 46 [] (by kernel_rfl) (by kernel_rfl) (by kernel_rfl) (by kernel_rfl) rfl (fun _ _ h_ => R.asE rfl (by conv => lhs; whnf) (TL.nil h_)) ?_
      refine Plan.done (Post.thnN ?_)
      refine T.has Has.nil ?_
      refine T.ret ?_
      have hM : windroselaw20_wakes_m = false := by subst er38; subst er32; subst er26; subst er19; subst er12; rw [windroselaw20_wakes_m, LR.seq_go, LR.seq_go, LR.seq_go, LR.seq_go, LR.seq_go, if_pos g43, if_neg g47]
      exact fin1L (v := .bool false) [] rfl rfl (List.Sublist.refl _) ⟨rfl, by first | rw [hM] | rfl⟩
  · refine Plan.v 3 [4, 5, 6, 7, 8, 9, 10, 11, 12, 13, 14, 15, 16, 17, 18, 19, 20, 21, 22, 23, 24, 25, 26, 27, 28, 29, 30, 31, 32, 33, 34, 35, 36, 37, 38, 39, 40, 41, 42, 43, 44, 45, 46] (by kernel_rfl) (by kernel_rfl) (by kernel_rfl) (by kernel_rfl) rfl (fun _ _ h_ => TL.off rfl rfl rfl (TL.nil h_)) ?_
    refine Plan.v 4 [5, 6, 7, 8, 9, 10, 11, 12, 13, 14, 15, 16, 17, 18, 19, 20, 21, 22, 23, 24, 25, 26, 27, 28, 29, 30, 31, 32, 33, 34, 35, 36, 37, 38, 39, 40, 41, 42, 43, 44, 45, 46] (by kernel_rfl) (by kernel_rfl) (by kernel_rfl) (by kernel_rfl) rfl (fun _ _ h_ => TL.off rfl rfl rfl (TL.nil h_)) ?_
    refine Plan.v 5 [6, 7, 8, 9, 10, 11, 12, 13, 14, 15, 16, 17, 18, 19, 20, 21, 22, 23, 24, 25, 26, 27, 28, 29, 30, 31, 32, 33, 34, 35, 36, 37, 38, 39, 40, 41, 42, 43, 44, 45, 46] (by kernel_rfl) (by kernel_rfl) (by kernel_rfl) (by kernel_rfl) rfl (fun _ _ h_ => R.pkFE rfl rfl (by conv => lhs; whnf) (TL.nil h_)) ?_
    refine Plan.v 6 [7, 8, 9, 10, 11, 12, 13, 14, 15, 16, 17, 18, 19, 20, 21, 22, 23, 24, 25, 26, 27, 28, 29, 30, 31, 32, 33, 34, 35, 36, 37, 38, 39, 40, 41, 42, 43, 44, 45, 46] (by kernel_rfl) (by kernel_rfl) (by kernel_rfl) (by kernel_rfl) rfl (fun _ _ h_ => R.mvE rfl (by conv => lhs; whnf) (TL.nil h_)) ?_
    refine Plan.v 7 [8, 9, 10, 11, 12, 13, 14, 15, 16, 17, 18, 19, 20, 21, 22, 23, 24, 25, 26, 27, 28, 29, 30, 31, 32, 33, 34, 35, 36, 37, 38, 39, 40, 41, 42, 43, 44, 45, 46] (by kernel_rfl) (by kernel_rfl) (by kernel_rfl) (by kernel_rfl) rfl (fun _ _ h_ => TL.off rfl rfl rfl (TL.nil h_)) ?_
    refine Plan.v 8 [9, 10, 11, 12, 13, 14, 15, 16, 17, 18, 19, 20, 21, 22, 23, 24, 25, 26, 27, 28, 29, 30, 31, 32, 33, 34, 35, 36, 37, 38, 39, 40, 41, 42, 43, 44, 45, 46] (by kernel_rfl) (by kernel_rfl) (by kernel_rfl) (by kernel_rfl) rfl (fun _ _ h_ => TL.off rfl rfl rfl (TL.nil h_)) ?_
    refine Plan.v 9 [10, 11, 12, 13, 14, 15, 16, 17, 18, 19, 20, 21, 22, 23, 24, 25, 26, 27, 28, 29, 30, 31, 32, 33, 34, 35, 36, 37, 38, 39, 40, 41, 42, 43, 44, 45, 46] (by kernel_rfl) (by kernel_rfl) (by kernel_rfl) (by kernel_rfl) rfl (fun _ _ h_ => R.pkFE rfl rfl (by conv => lhs; whnf) (TL.nil h_)) ?_
    refine Plan.v 10 [11, 12, 13, 14, 15, 16, 17, 18, 19, 20, 21, 22, 23, 24, 25, 26, 27, 28, 29, 30, 31, 32, 33, 34, 35, 36, 37, 38, 39, 40, 41, 42, 43, 44, 45, 46] (by kernel_rfl) (by kernel_rfl) (by kernel_rfl) (by kernel_rfl) rfl (fun _ _ h_ => R.mvE rfl (by conv => lhs; whnf) (TL.nil h_)) ?_
    refine Plan.v 11 [12, 13, 14, 15, 16, 17, 18, 19, 20, 21, 22, 23, 24, 25, 26, 27, 28, 29, 30, 31, 32, 33, 34, 35, 36, 37, 38, 39, 40, 41, 42, 43, 44, 45, 46] (by kernel_rfl) (by kernel_rfl) (by kernel_rfl) (by kernel_rfl) rfl (fun _ _ h_ => TL.off rfl rfl rfl (TL.nil h_)) ?_
    refine Plan.v 12 [13, 14, 15, 16, 17, 18, 19, 20, 21, 22, 23, 24, 25, 26, 27, 28, 29, 30, 31, 32, 33, 34, 35, 36, 37, 38, 39, 40, 41, 42, 43, 44, 45, 46] (by kernel_rfl) (by kernel_rfl) (by kernel_rfl) (by kernel_rfl) rfl (fun _ _ h_ => TL.off rfl rfl rfl (TL.nil h_)) ?_
    refine Plan.v 13 [14, 15, 16, 17, 18, 19, 20, 21, 22, 23, 24, 25, 26, 27, 28, 29, 30, 31, 32, 33, 34, 35, 36, 37, 38, 39, 40, 41, 42, 43, 44, 45, 46] (by kernel_rfl) (by kernel_rfl) (by kernel_rfl) (by kernel_rfl) rfl (fun _ _ h_ => R.pkFE rfl rfl (by conv => lhs; whnf) (TL.nil h_)) ?_
    refine Plan.v 14 [15, 16, 17, 18, 19, 20, 21, 22, 23, 24, 25, 26, 27, 28, 29, 30, 31, 32, 33, 34, 35, 36, 37, 38, 39, 40, 41, 42, 43, 44, 45, 46] (by kernel_rfl) (by kernel_rfl) (by kernel_rfl) (by kernel_rfl) rfl (fun _ _ h_ => R.mvE rfl (by conv => lhs; whnf) (TL.nil h_)) ?_
    refine Plan.v 15 [16, 17, 18, 19, 20, 21, 22, 23, 24, 25, 26, 27, 28, 29, 30, 31, 32, 33, 34, 35, 36, 37, 38, 39, 40, 41, 42, 43, 44, 45, 46] (by kernel_rfl) (by kernel_rfl) (by kernel_rfl) (by kernel_rfl) rfl (fun _ _ h_ => TL.off rfl rfl rfl (TL.nil h_)) ?_
    refine Plan.v 16 [17, 18, 19, 20, 21, 22, 23, 24, 25, 26, 27, 28, 29, 30, 31, 32, 33, 34, 35, 36, 37, 38, 39, 40, 41, 42, 43, 44, 45, 46] (by kernel_rfl) (by kernel_rfl) (by kernel_rfl) (by kernel_rfl) rfl (fun _ _ h_ => TL.off rfl rfl rfl (TL.nil h_)) ?_
    refine Plan.v 17 [18, 19, 20, 21, 22, 23, 24, 25, 26, 27, 28, 29, 30, 31, 32, 33, 34, 35, 36, 37, 38, 39, 40, 41, 42, 43, 44, 45, 46] (by kernel_rfl) (by kernel_rfl) (by kernel_rfl) (by kernel_rfl) rfl (fun _ _ h_ => TL.off rfl rfl rfl (TL.nil h_)) ?_
    refine Plan.v 18 [19, 20, 21, 22, 23, 24, 25, 26, 27, 28, 29, 30, 31, 32, 33, 34, 35, 36, 37, 38, 39, 40, 41, 42, 43, 44, 45, 46] (by kernel_rfl) (by kernel_rfl) (by kernel_rfl) (by kernel_rfl) rfl (fun _ _ h_ => TL.off rfl rfl rfl (TL.nil h_)) ?_
    refine Plan.v 19 [20, 21, 22, 23, 24, 25, 26, 27, 28, 29, 30, 31, 32, 33, 34, 35, 36, 37, 38, 39, 40, 41, 42, 43, 44, 45, 46] (by kernel_rfl) (by kernel_rfl) (by kernel_rfl) (by kernel_rfl) rfl (fun _ _ h_ => R.pkFE rfl rfl (by conv => lhs; whnf) (TL.nil h_)) ?_
    refine Plan.v 20 [21, 22, 23, 24, 25, 26, 27, 28, 29, 30, 31, 32, 33, 34, 35, 36, 37, 38, 39, 40, 41, 42, 43, 44, 45, 46] (by kernel_rfl) (by kernel_rfl) (by kernel_rfl) (by kernel_rfl) rfl (fun _ _ h_ => R.mvE rfl (by conv => lhs; whnf) (TL.nil h_)) ?_
    refine Plan.v 21 [22, 23, 24, 25, 26, 27, 28, 29, 30, 31, 32, 33, 34, 35, 36, 37, 38, 39, 40, 41, 42, 43, 44, 45, 46] (by kernel_rfl) (by kernel_rfl) (by kernel_rfl) (by kernel_rfl) rfl (fun _ _ h_ => TL.off rfl rfl rfl (TL.nil h_)) ?_
    refine Plan.v 22 [23, 24, 25, 26, 27, 28, 29, 30, 31, 32, 33, 34, 35, 36, 37, 38, 39, 40, 41, 42, 43, 44, 45, 46] (by kernel_rfl) (by kernel_rfl) (by kernel_rfl) (by kernel_rfl) rfl (fun _ _ h_ => TL.off rfl rfl rfl (TL.nil h_)) ?_
    refine Plan.v 23 [24, 25, 26, 27, 28, 29, 30, 31, 32, 33, 34, 35, 36, 37, 38, 39, 40, 41, 42, 43, 44, 45, 46] (by kernel_rfl) (by kernel_rfl) (by kernel_rfl) (by kernel_rfl) rfl (fun _ _ h_ => TL.off rfl rfl rfl (TL.nil h_)) ?_
    refine Plan.v 24 [25, 26, 27, 28, 29, 30, 31, 32, 33, 34, 35, 36, 37, 38, 39, 40, 41, 42, 43, 44, 45, 46] (by kernel_rfl) (by kernel_rfl) (by kernel_rfl) (by kernel_rfl) rfl (fun _ _ h_ => TL.off rfl rfl rfl (TL.nil h_)) ?_
    refine Plan.v 25 [26, 27, 28, 29, 30, 31, 32, 33, 34, 35, 36, 37, 38, 39, 40, 41, 42, 43, 44, 45, 46] (by kernel_rfl) (by kernel_rfl) (by kernel_rfl) (by kernel_rfl) rfl (fun _ _ h_ => TL.off rfl rfl rfl (TL.nil h_)) ?_
    refine Plan.v 26 [27, 28, 29, 30, 31, 32, 33, 34, 35, 36, 37, 38, 39, 40, 41, 42, 43, 44, 45, 46] (by kernel_rfl) (by kernel_rfl) (by kernel_rfl) (by kernel_rfl) rfl (fun _ _ h_ => R.pkFE rfl rfl (by conv => lhs; whnf) (TL.nil h_)) ?_
    refine Plan.v 27 [28, 29, 30, 31, 32, 33, 34, 35, 36, 37, 38, 39, 40, 41, 42, 43, 44, 45, 46] (by kernel_rfl) (by kernel_rfl) (by kernel_rfl) (by kernel_rfl) rfl (fun _ _ h_ => R.mvE rfl (by conv => lhs; whnf) (TL.nil h_)) ?_
    refine Plan.v 28 [29, 30, 31, 32, 33, 34, 35, 36, 37, 38, 39, 40, 41, 42, 43, 44, 45, 46] (by kernel_rfl) (by kernel_rfl) (by kernel_rfl) (by kernel_rfl) rfl (fun _ _ h_ => TL.off rfl rfl rfl (TL.nil h_)) ?_
    refine Plan.v 29 [30, 31, 32, 33, 34, 35, 36, 37, 38, 39, 40, 41, 42, 43, 44, 45, 46] (by kernel_rfl) (by kernel_rfl) (by kernel_rfl) (by kernel_rfl) rfl (fun _ _ h_ => TL.off rfl rfl rfl (TL.nil h_)) ?_
    refine Plan.v 30 [31, 32, 33, 34, 35, 36, 37, 38, 39, 40, 41, 42, 43, 44, 45, 46] (by kernel_rfl) (by kernel_rfl) (by kernel_rfl) (by kernel_rfl) rfl (fun _ _ h_ => TL.off rfl rfl rfl (TL.nil h_)) ?_
    refine Plan.v 31 [32, 33, 34, 35, 36, 37, 38, 39, 40, 41, 42, 43, 44, 45, 46] (by kernel_rfl) (by kernel_rfl) (by kernel_rfl) (by kernel_rfl) rfl (fun _ _ h_ => TL.off rfl rfl rfl (TL.nil h_)) ?_
    refine Plan.v 32 [33, 34, 35, 36, 37, 38, 39, 40, 41, 42, 43, 44, 45, 46] (by kernel_rfl) (by kernel_rfl) (by kernel_rfl) (by kernel_rfl) rfl (fun _ _ h_ => TL.off rfl rfl rfl (TL.nil h_)) ?_
    refine Plan.v 33 [34, 35, 36, 37, 38, 39, 40, 41, 42, 43, 44, 45, 46] (by kernel_rfl) (by kernel_rfl) (by kernel_rfl) (by kernel_rfl) rfl (fun _ _ h_ => R.pkFE rfl rfl (by conv => lhs; whnf) (TL.nil h_)) ?_
    refine Plan.v 34 [35, 36, 37, 38, 39, 40, 41, 42, 43, 44, 45, 46] (by kernel_rfl) (by kernel_rfl) (by kernel_rfl) (by kernel_rfl) rfl (fun _ _ h_ => R.mvE rfl (by conv => lhs; whnf) (TL.nil h_)) ?_
    refine Plan.v 35 [36, 37, 38, 39, 40, 41, 42, 43, 44, 45, 46] (by kernel_rfl) (by kernel_rfl) (by kernel_rfl) (by kernel_rfl) rfl (fun _ _ h_ => TL.off rfl rfl rfl (TL.nil h_)) ?_
    refine Plan.v 36 [37, 38, 39, 40, 41, 42, 43, 44, 45, 46] (by kernel_rfl) (by kernel_rfl) (by kernel_rfl) (by kernel_rfl) rfl (fun _ _ h_ => TL.off rfl rfl rfl (TL.nil h_)) ?_
    refine Plan.v 37 [38, 39, 40, 41, 42, 43, 44, 45, 46] (by kernel_rfl) (by kernel_rfl) (by kernel_rfl) (by kernel_rfl) rfl (fun _ _ h_ => TL.off rfl rfl rfl (TL.nil h_)) ?_
    refine Plan.v 38 [39, 40, 41, 42, 43, 44, 45, 46] (by kernel_rfl) (by kernel_rfl) (by kernel_rfl) (by kernel_rfl) rfl (fun _ _ h_ => TL.off rfl rfl rfl (TL.nil h_)) ?_
    refine Plan.v 39 [40, 41, 42, 43, 44, 45, 46] (by kernel_rfl) (by kernel_rfl) (by kernel_rfl) (by kernel_rfl) rfl (fun _ _ h_ => R.pkFE rfl rfl (by conv => lhs; whnf) (TL.nil h_)) ?_
    refine Plan.v 40 [41, 42, 43, 44, 45, 46] (by kernel_rfl) (by kernel_rfl) (by kernel_rfl) (by kernel_rfl) rfl (fun _ _ h_ => R.mvE rfl (by conv => lhs; whnf) (TL.nil h_)) ?_
    refine Plan.v 41 [42, 43, 44, 45, 46] (by kernel_rfl) (by kernel_rfl) (by kernel_rfl) (by kernel_rfl) rfl (fun _ _ h_ => TL.off rfl rfl rfl (TL.nil h_)) ?_
    refine Plan.v 42 [43, 44, 45, 46] (by kernel_rfl) (by kernel_rfl) (by kernel_rfl) (by kernel_rfl) rfl (fun _ _ h_ => TL.off rfl rfl rfl (TL.nil h_)) ?_
    refine Plan.v 43 [44, 45, 46] (by kernel_rfl) (by kernel_rfl) (by kernel_rfl) (by kernel_rfl) rfl (fun _ _ h_ => TL.off rfl rfl rfl (TL.nil h_)) ?_
    refine Plan.v 44 [45, 46] (by kernel_rfl) (by kernel_rfl) (by kernel_rfl) (by kernel_rfl) rfl (fun _ _ h_ => TL.off rfl rfl rfl (TL.nil h_)) ?_
    refine Plan.v 45 [46] (by kernel_rfl) (by kernel_rfl) (by kernel_rfl) (by kernel_rfl) rfl (fun _ _ h_ => R.pkFE rfl rfl (by conv => lhs; whnf) (TL.nil h_)) ?_
    refine Plan.v 46 [] (by kernel_rfl) (by kernel_rfl) (by kernel_rfl) (by kernel_rfl) rfl (fun _ _ h_ => R.asE rfl (by conv => lhs; whnf) (TL.nil h_)) ?_
    refine Plan.done (Post.thnN ?_)
    refine T.has Has.nil ?_
    refine T.ret ?_
    have hM : windroselaw20_wakes_m = false := by subst er38; subst er32; subst er26; subst er19; subst er12; rw [windroselaw20_wakes_m, LR.seq_go, LR.seq_go, LR.seq_go, LR.seq_go, LR.seq_go, if_neg g43]
    exact fin1L (v := .bool false) [] rfl rfl (List.Sublist.refl _) ⟨rfl, by first | rw [hM] | rfl⟩

def windroselaw20_own_m (a0 : List (Int × (Bool × Bool × Int × Int × Int))) (a1 : List (Int × Int)) : (List (Int × (Bool × Bool × Int × Int × Int))) × (List (Int × Int)) :=
  ((a0.take ((min a0.length 12))), (a1.take ((min a1.length 16))))
set_option maxHeartbeats 3200000 in
theorem windroselaw20_own_c (H : Heap) (va0 : Value) (a0 : List (Int × (Bool × Bool × Int × Int × Int))) (ha0 : RdS relationE H va0 a0) (va1 : Value) (a1 : List (Int × Int)) (ha1 : RdS heldE H va1 a1) : Fc Tryz.prog (fnv 5) [va0, va1] H [] (fun v' H' L' => ∃ u0_0 u1_0 c0_0 c1_0, v' = .tuple #[u0_0, u1_0] ∧ L' = [c0_0, c1_0] ∧ OwnS relationE 55 H' u0_0 (windroselaw20_own_m a0 a1).1 c0_0 ∧ OwnS heldE 50 H' u1_0 (windroselaw20_own_m a0 a1).2 c1_0) := by
  refine Fc.of_body (N := 18) Tryz.func5 rfl (by kernel_rfl) rfl rfl ?_
  intro w0
  obtain ⟨Aa0, ca0, rfl, hca0, hda0, ha0⟩ := ha0.shape
  obtain ⟨Aa1, ca1, rfl, hca1, hda1, ha1⟩ := ha1.shape
  refine T.seq ?_
  refine T.region ?_
  refine R.asE rfl (by conv => lhs; whnf) ?_
  refine R.asE rfl (by conv => lhs; whnf) ?_
  refine TL.nil (Post.thnN ?_)
  refine T.seq ?_
  refine T.draw Tryz_mixed (by kernel_rfl) ?_
  refine Plan.v 0 [1, 2, 3, 4, 5, 6, 7, 8, 9, 10, 11, 12, 13] (by kernel_rfl) (by kernel_rfl) (by kernel_rfl) (by kernel_rfl) rfl (fun _ _ h_ => R.mvE rfl (by conv => lhs; whnf) (TL.nil h_)) ?_
  refine Plan.v 1 [2, 3, 4, 5, 6, 7, 8, 9, 10, 11, 12, 13] (by kernel_rfl) (by kernel_rfl) (by kernel_rfl) (by kernel_rfl) rfl (fun _ _ h_ => R.mvE rfl (by conv => lhs; whnf) (TL.nil h_)) ?_
  refine Plan.v 2 [3, 4, 5, 6, 7, 8, 9, 10, 11, 12, 13] (by kernel_rfl) (by kernel_rfl) (by kernel_rfl) (by kernel_rfl) rfl (fun _ _ h_ => R.len Tryz.underlying22 rfl rfl (TL.nil h_)) ?_
  refine Plan.v 3 [4, 5, 6, 7, 8, 9, 10, 11, 12, 13] (by kernel_rfl) (by kernel_rfl) (by kernel_rfl) (by kernel_rfl) rfl (fun _ _ h_ => R.min2 rfl rfl rfl (TL.nil h_)) ?_
  refine Plan.set 9 (.int .i64 ((min a0.length 12 : Nat) : Int)) (congrArg (Value.int .i64) (by split <;> omega)) ?_
  have z10 := RdS.takeC ha0 (i := (min a0.length 12)) (by omega) (by omega)
  obtain ⟨x10, e10⟩ : ∃ x, x = (a0.take ((min a0.length 12))) := ⟨_, rfl⟩
  rw [← e10] at z10
  obtain ⟨A10, p10, q10, m10, n10, r10⟩ := RdS.shape z10
  have t10 : x10.length ≤ a0.length := by rw [e10]; simp; try omega
  have t10_ : x10.length = min ((min a0.length 12)) a0.length := by rw [e10]; simp
  refine Plan.v 4 [5, 6, 7, 8, 9, 10, 11, 12, 13] (by kernel_rfl) (by kernel_rfl) (by kernel_rfl) (by kernel_rfl) rfl (fun _ _ h_ => R.sH Tryz.underlying22 Tryz.sizeOf55 rfl rfl rfl (by omega) (by omega)  (TL.nil h_)) ?_
  refine Plan.set 10 (.slice A10 x10.length p10) (by first | exact q10 | (rw [← q10]; simp; done) | (rw [← q10]; rfl)) ?_
  refine Plan.v 6 [5, 7, 8, 9, 10, 11, 12, 13] (by kernel_rfl) (by kernel_rfl) (by kernel_rfl) (by kernel_rfl) rfl (fun _ _ h_ => R.mvE rfl (by conv => lhs; whnf) (TL.nil h_)) ?_
  refine Plan.v 7 [5, 8, 9, 10, 11, 12, 13] (by kernel_rfl) (by kernel_rfl) (by kernel_rfl) (by kernel_rfl) rfl (fun _ _ h_ => R.mvE rfl (by conv => lhs; whnf) (TL.nil h_)) ?_
  refine Plan.v 8 [5, 9, 10, 11, 12, 13] (by kernel_rfl) (by kernel_rfl) (by kernel_rfl) (by kernel_rfl) rfl (fun _ _ h_ => R.len Tryz.underlying23 rfl rfl (TL.nil h_)) ?_
  refine Plan.v 9 [5, 10, 11, 12, 13] (by kernel_rfl) (by kernel_rfl) (by kernel_rfl) (by kernel_rfl) rfl (fun _ _ h_ => R.min2 rfl rfl rfl (TL.nil h_)) ?_
  refine Plan.set 15 (.int .i64 ((min a1.length 16 : Nat) : Int)) (congrArg (Value.int .i64) (by split <;> omega)) ?_
  have z16 := RdS.takeC ha1 (i := (min a1.length 16)) (by omega) (by omega)
  obtain ⟨x16, e16⟩ : ∃ x, x = (a1.take ((min a1.length 16))) := ⟨_, rfl⟩
  rw [← e16] at z16
  obtain ⟨A16, p16, q16, m16, n16, r16⟩ := RdS.shape z16
  have t16 : x16.length ≤ a1.length := by rw [e16]; simp; try omega
  have t16_ : x16.length = min ((min a1.length 16)) a1.length := by rw [e16]; simp
  refine Plan.v 10 [5, 11, 12, 13] (by kernel_rfl) (by kernel_rfl) (by kernel_rfl) (by kernel_rfl) rfl (fun _ _ h_ => R.sH Tryz.underlying23 Tryz.sizeOf50 rfl rfl rfl (by omega) (by omega)  (TL.nil h_)) ?_
  refine Plan.set 16 (.slice A16 x16.length p16) (by first | exact q16 | (rw [← q16]; simp; done) | (rw [← q16]; rfl)) ?_
  refine Plan.s1 5 [11, 12, 13] (by kernel_rfl) (by kernel_rfl) rfl ?_
  refine TL.call [] rfl rfl rfl (clone22_c _ _ x10 r10 (by first | omega | (simp; done) | (simp; omega) | (simp at *; omega))) ?_
  intro v11 H11 L11 s11 q11
  obtain ⟨c11, rfl, w11⟩ := q11
  obtain ⟨x11, e11⟩ : ∃ x, x = x10 := ⟨_, rfl⟩
  rw [← e11] at w11
  obtain ⟨A11, p11, rfl, m11, n11⟩ := OwnS.shape w11
  have t11 : x11.length = x10.length := by rw [e11]
  refine TL.nil (Plan.e1 (s11) ?_)
  refine Plan.s1 11 [12, 13] (by kernel_rfl) (by kernel_rfl) rfl ?_
  refine TL.call [] rfl rfl rfl (clone23_c _ _ x16 (r16.mono s11) (by first | omega | (simp; done) | (simp; omega) | (simp at *; omega))) ?_
  intro v17 H17 L17 s17 q17
  obtain ⟨c17, rfl, w17⟩ := q17
  obtain ⟨x17, e17⟩ : ∃ x, x = x16 := ⟨_, rfl⟩
  rw [← e17] at w17
  obtain ⟨A17, p17, rfl, m17, n17⟩ := OwnS.shape w17
  have t17 : x17.length = x16.length := by rw [e17]
  refine TL.nil (Plan.e1 (s17) ?_)
  refine Plan.v 12 [13] (by kernel_rfl) (by kernel_rfl) (by kernel_rfl) (by kernel_rfl) rfl (fun _ _ h_ => R.asE rfl (by conv => lhs; whnf) (TL.nil h_)) ?_
  refine Plan.v 13 [] (by kernel_rfl) (by kernel_rfl) (by kernel_rfl) (by kernel_rfl) rfl (fun _ _ h_ => R.asE rfl (by conv => lhs; whnf) (TL.nil h_)) ?_
  refine Plan.done (Post.thnN ?_)
  refine T.has (Has.cons (.tl .hd) (Has.cons .hd Has.nil)) ?_
  refine T.ret ?_
  have hM : windroselaw20_own_m a0 a1 = (x11, x17) := by subst e17; subst e11; subst e16; subst e10; rw [windroselaw20_own_m]
  exact fin2L (v := .slice A11 x11.length p11) (v' := .slice A17 x17.length p17) [c11, c17] rfl rfl rfl (List.Sublist.refl _) ⟨.slice A11 x11.length p11, .slice A17 x17.length p17, c11, c17, by first | rw [hM] | rfl, rfl, by rw [hM]; exact (OwnS.mono w11 s17), by rw [hM]; exact w17⟩

def windroselaw20_few_m (a0 : List Int) : (List Int) :=
  (a0.take ((min a0.length 6)))
set_option maxHeartbeats 3200000 in
theorem windroselaw20_few_c (H : Heap) (va0 : Value) (a0 : List Int) (ha0 : RdS (intE .i64) H va0 a0) : Fc Tryz.prog (fnv 8) [va0] H [] (fun v' H' L' => ∃ u0_0 c0_0, v' = u0_0 ∧ L' = [c0_0] ∧ OwnS (intE .i64) 3 H' u0_0 (windroselaw20_few_m a0) c0_0) := by
  refine Fc.of_body (N := 9) Tryz.func8 rfl (by kernel_rfl) rfl rfl ?_
  intro w0
  obtain ⟨Aa0, ca0, rfl, hca0, hda0, ha0⟩ := ha0.shape
  refine T.seq ?_
  refine T.region ?_
  refine R.asE rfl (by conv => lhs; whnf) ?_
  refine TL.nil (Post.thnN ?_)
  refine T.seq ?_
  refine T.region ?_
  refine R.mvE rfl (by conv => lhs; whnf) ?_
  refine R.mvE rfl (by conv => lhs; whnf) ?_
  refine R.len Tryz.underlying30 rfl rfl ?_
  refine R.min2 rfl rfl rfl ?_
  refine TL.set 6 (.int .i64 ((min a0.length 6 : Nat) : Int)) (congrArg (Value.int .i64) (by split <;> omega)) ?_
  have z7 := RdS.takeC ha0 (i := (min a0.length 6)) (by omega) (by omega)
  obtain ⟨x7, e7⟩ : ∃ x, x = (a0.take ((min a0.length 6))) := ⟨_, rfl⟩
  rw [← e7] at z7
  obtain ⟨A7, p7, q7, m7, n7, r7⟩ := RdS.shape z7
  have t7 : x7.length ≤ a0.length := by rw [e7]; simp; try omega
  have t7_ : x7.length = min ((min a0.length 6)) a0.length := by rw [e7]; simp
  refine R.sH Tryz.underlying30 Tryz.sizeOf3 rfl rfl rfl (by omega) (by omega)  ?_
  refine TL.set 7 (.slice A7 x7.length p7) (by first | exact q7 | (rw [← q7]; simp; done) | (rw [← q7]; rfl)) ?_
  refine TL.call [] rfl rfl rfl (clone30_c _ _ x7 r7 (by first | omega | (simp; done) | (simp; omega) | (simp at *; omega))) ?_
  intro v8 H8 L8 s8 q8
  obtain ⟨c8, rfl, w8⟩ := q8
  obtain ⟨x8, e8⟩ : ∃ x, x = x7 := ⟨_, rfl⟩
  rw [← e8] at w8
  obtain ⟨A8, p8, rfl, m8, n8⟩ := OwnS.shape w8
  have t8 : x8.length = x7.length := by rw [e8]
  refine R.asE rfl (by conv => lhs; whnf) ?_
  refine TL.nil (Post.thnN ?_)
  refine T.has (Has.cons .hd Has.nil) ?_
  refine T.ret ?_
  have hM : windroselaw20_few_m a0 = x8 := by subst e8; subst e7; rw [windroselaw20_few_m]
  exact fin1L (v := .slice A8 x8.length p8) [c8] rfl rfl (List.Sublist.refl _) ⟨.slice A8 x8.length p8, c8, by first | rw [hM] | rfl, rfl, by rw [hM]; exact w8⟩

end Go.SX

set_option linter.unusedVariables false
set_option linter.unusedSimpArgs false
namespace Go.SX
open Go
abbrev smL : List Rl := [(1, (true, true, 0, 1, 2)), (2, (true, false, 0, 0, 2)), (3, (false, false, 0, 2, 1))]
theorem small_1 : windroselaw20_small_m.1 = smL := by unfold windroselaw20_small_m; simp [LR.seq]
def pairI (r t : Int) : Int := (ident_Pair_m r t).1
abbrev smH : List Hd := [(5, pairI 1 4), (6, pairI 1 5), (7, pairI 2 5), (8, pairI 3 6)]
theorem small_2 : windroselaw20_small_m.2 = smH := by unfold windroselaw20_small_m; simp [LR.seq, windroselaw20_small_l1, pairI]; try decide
theorem sm_check : plan_Check_m smL smH = 0 := by kernel_rfl
theorem sm_dies : diesD smL smH [4] = [(4, []), (5, [(5, pairI 1 4)]), (6, [(5, pairI 1 4), (6, pairI 1 5)])] := by kernel_rfl
theorem sm_dies3 : diesD smL smH [3] = [(3, []), (8, [(8, pairI 3 6)])] := by kernel_rfl
end Go.SX

set_option linter.unusedVariables false
set_option linter.unusedSimpArgs false
namespace Go.SX
open Go
theorem policy_no {l : List Rl} {id n : Int} (hn : ¬ (n = (ident_Parts_m id).1 ∨ n = (ident_Parts_m id).2)) : trait_Policy_m l id n = (0, false) := by
  unfold trait_Policy_m
  rw [LR.seq_go, LR.seq_go, LR.seq_go, if_pos]
  by_cases h1 : kindG id ≠ 3
  · rw [if_pos h1]
  · rw [if_neg h1]
    cases (trait_Find_m l (ident_Parts_m id).1).2 with
    | false => rfl
    | true =>
      rw [Bool.not_true, if_neg Bool.false_ne_true, if_pos (fun k => hn (.inl k))]
      exact decide_eq_true (fun k => hn (.inr k))
/-- What may be held of relations. -/
def HeldOk (l : List Rl) (h : Hd) : Prop := (trait_Find_m l (ident_Parts_m h.2).1).2 = true ∧ idxOk h.1 ∧ kindG h.2 = 3
def stepOk (held : List Hd) (k : Nat) (h : Hd) : Prop := (0 : Int) < (k : Int) → plan_compare_m (held.getD (((k : Int) - 1)).toNat (((0, 0) : Int × Int) : Int × Int)) h < 0
theorem check_l1 (l : List Rl) (held : List Hd) : ∀ (xs : List Hd) (k : Nat), (plan_Check_l1 l held xs k () = .go () ∧ ∀ (i : Nat) (h : Hd), xs[i]? = some h → HeldOk l h ∧ stepOk held (k + i) h) ∨ (plan_Check_l1 l held xs k () = .ret 300 ∧ ∃ (i : Nat) (h : Hd), xs[i]? = some h ∧ ¬ (HeldOk l h ∧ stepOk held (k + i) h))
  | [], k => .inl ⟨rfl, fun i h hi => by simp at hi⟩
  | y :: ys, k => by
    rw [plan_Check_l1, LR.seq_go, LR.seq_go]
    have hiff : (if (!(trait_Find_m l (ident_Parts_m y.2).1).2) = true then true else (if (!(plan_index_m y.1)) = true then true else (if ((kindG y.2) : Int) ≠ 3 then true else (if (0 : Int) < (k : Int) then ((decide ((0 : Int) ≤ (plan_compare_m (held.getD ((((k : Int) - 1)).toNat) (((0, 0) : Int × Int) : Int × Int)) y)))) else false)))) = false ↔ HeldOk l y ∧ stepOk held k y := by
      unfold HeldOk stepOk idxOk
      rw [or_f, or_f, or_f, and_f, Bool.not_eq_true', Bool.not_eq_true', decide_eq_false_iff_not, ← pindex_iff]
      constructor
      · rintro ⟨h1, h2, h3, h4⟩
        refine ⟨⟨by simpa using h1, by simpa using h2, by omega⟩, fun h5 => ?_⟩
        rcases h4 with h4 | h4
        · exact absurd h5 h4
        · omega
      · rintro ⟨⟨h1, h2, h3⟩, h4⟩
        refine ⟨by simpa using h1, by simpa using h2, by omega, ?_⟩
        by_cases h5 : (0 : Int) < (k : Int)
        · have := h4 h5; exact .inr (by omega)
        · exact .inl h5
    rw [LR.seq_go]
    cases hb : (if (!(trait_Find_m l (ident_Parts_m y.2).1).2) = true then true else (if (!(plan_index_m y.1)) = true then true else (if ((kindG y.2) : Int) ≠ 3 then true else (if (0 : Int) < (k : Int) then ((decide ((0 : Int) ≤ (plan_compare_m (held.getD ((((k : Int) - 1)).toNat) (((0, 0) : Int × Int) : Int × Int)) y)))) else false)))) with
    | true =>
      rw [if_pos rfl]
      refine .inr ⟨rfl, 0, y, rfl, fun h => ?_⟩
      have := hiff.2 (by simpa using h)
      rw [hb] at this; cases this
    | false =>
      rw [if_neg Bool.false_ne_true]
      have hy := hiff.1 hb
      rcases check_l1 l held ys (k + 1) with ⟨h1, h2⟩ | ⟨h1, i, h, h2, h3⟩
      · refine .inl ⟨h1, fun i h hi => ?_⟩
        cases i with
        | zero => simp at hi; subst hi; simpa using hy
        | succ i => have := h2 i h (by simpa using hi); rwa [show k + 1 + i = k + (i + 1) by omega] at this
      · exact .inr ⟨h1, i + 1, h, by simpa using h2, by rwa [show k + (i + 1) = k + 1 + i by omega]⟩
theorem pcheck_iff (l : List Rl) (held : List Hd) : (plan_Check_m l held = 0 ↔ RelOk l ∧ ∀ (i : Nat) (h : Hd), held[i]? = some h → HeldOk l h ∧ stepOk held i h) ∧ (RelOk l → plan_Check_m l held = 0 ∨ plan_Check_m l held = 300) ∧ (¬ RelOk l → plan_Check_m l held = 230) := by
  unfold plan_Check_m
  have ht := tcheck_iff l
  by_cases hr : RelOk l
  · rw [ht.1.2 hr, if_neg (fun k => k rfl)]
    rcases check_l1 l held held 0 with ⟨h1, h2⟩ | ⟨h1, i, h, h2, h3⟩
    · rw [h1, LR.on_go]
      exact ⟨⟨fun _ => ⟨hr, fun i h hi => by simpa using h2 i h hi⟩, fun _ => rfl⟩, fun _ => .inl rfl, fun k => absurd hr k⟩
    · rw [h1, LR.on_ret]
      exact ⟨⟨fun k => (by cases k), fun k => absurd (k.2 i h h2) (by simpa using h3)⟩, fun _ => .inr rfl, fun k => absurd hr k⟩
  · have h1 : trait_Check_m l ≠ 0 := fun k => hr (ht.1.1 k)
    rw [if_pos h1]
    exact ⟨⟨fun k => (by cases k), fun k => absurd k.1 hr⟩, fun k => absurd k hr, fun _ => rfl⟩
theorem says_iff (l : List Rl) (D : List Dh) (h : Hd) (p : Int) : saysB l D h p = true ↔ ∃ n, (n, p) ∈ mentL l h ∧ n ∈ D.map Prod.fst := by
  unfold saysB deadB
  rw [List.any_eq_true]
  constructor
  · rintro ⟨m, h1, h2⟩
    rw [Bool.and_eq_true, decide_eq_true_eq, decide_eq_true_eq] at h2
    exact ⟨m.1, by rw [← h2.2]; exact h1, h2.1⟩
  · rintro ⟨n, h1, h2⟩
    exact ⟨(n, p), h1, by rw [Bool.and_eq_true, decide_eq_true_eq, decide_eq_true_eq]; exact ⟨h2, rfl⟩⟩
/-- Whoever holds what kills dies too. -/
theorem dies_closed {l : List Rl} {held : List Hd} {first : List Int} (hh : held.length ≤ 100) (hf : first.length ≤ 100) {n : Int} (hn : n ∈ (diesD l held first).map Prod.fst) {h : Hd} (hm : h ∈ held) (hk : (n, 1) ∈ mentL l h) : h.1 ∈ (diesD l held first).map Prod.fst := by
  obtain ⟨met, h1, h2⟩ := dies_law (l := l) hh hf
  obtain ⟨d, hd, rfl⟩ := List.mem_map.1 hn
  obtain ⟨j, hj⟩ := List.mem_iff_getElem?.1 hd
  refine h2.cl j d (List.getElem?_eq_some_iff.1 hj).1 hj h ?_
  rw [kill_eq, List.mem_filter]
  exact ⟨hm, decide_eq_true hk⟩
theorem dies_first {l : List Rl} {held : List Hd} {first : List Int} (hh : held.length ≤ 100) (hf : first.length ≤ 100) {n : Int} (hn : n ∈ first) : n ∈ (diesD l held first).map Prod.fst := by
  obtain ⟨met, h1, h2⟩ := dies_law (l := l) hh hf
  exact h2.all n hn
/-- Nobody else dies. -/
theorem dies_least {l : List Rl} {held : List Hd} {first : List Int} (hh : held.length ≤ 100) (hf : first.length ≤ 100) {P : Int → Prop} (h0 : ∀ n ∈ first, P n) (hs : ∀ n h, P n → h ∈ held → (n, 1) ∈ mentL l h → P h.1) : ∀ n ∈ (diesD l held first).map Prod.fst, P n := by
  obtain ⟨met, h1, h2⟩ := dies_law (l := l) hh hf
  have key : ∀ (k n : Nat) (d : Dh), n < k → (diesD l held first)[n]? = some d → P d.1 := by
    intro k
    induction k with
    | zero => intro n d hn; omega
    | succ k ih =>
      intro n d hn hd
      rcases h2.par n d hd with ⟨h3, _⟩ | ⟨m, p, h, h3, _, h4, h5, rfl⟩
      · exact h0 _ h3
      · rw [kill_eq, List.mem_filter] at h5
        exact hs p.1 h (ih m p (by omega) h4) h5.1 (of_decide_eq_true h5.2)
  intro n hn
  obtain ⟨d, hd, rfl⟩ := List.mem_map.1 hn
  obtain ⟨j, hj⟩ := List.mem_iff_getElem?.1 hd
  exact key (j + 1) j d (by omega) hj
theorem sortI_eq {a b : List Int} (ha : a.Nodup) (hb : b.Nodup) (h : ∀ x, x ∈ a ↔ x ∈ b) : sortI a = sortI b := by
  refine List.Perm.eq_of_pairwise (le := (· ≤ ·)) (fun x y _ _ h1 h2 => by omega) (sortI_sorted _) (sortI_sorted _) ?_
  exact ((sortI_perm a).trans ((List.perm_ext_iff_of_nodup ha hb).2 h)).trans (sortI_perm b).symm
theorem sortI_self {a : List Int} (h : a.Pairwise (· ≤ ·)) : sortI a = a :=
  List.Perm.eq_of_pairwise (le := (· ≤ ·)) (fun x y _ _ h1 h2 => by omega) (sortI_sorted _) h (sortI_perm a)
theorem mem_sortI {a : List Int} {x : Int} : x ∈ sortI a ↔ x ∈ a := (sortI_perm a).mem_iff
theorem dies_nodup {l : List Rl} {held : List Hd} {first : List Int} (hh : held.length ≤ 100) (hf : first.length ≤ 100) : ((diesD l held first).map Prod.fst).Nodup := by
  obtain ⟨met, h1, h2⟩ := dies_law (l := l) hh hf
  exact h1.nd
theorem deadB_iff (D : List Dh) (k : Int) : deadB D k = true ↔ k ∈ D.map Prod.fst := by unfold deadB; rw [decide_eq_true_eq]
/-! the layer does something -/
theorem sm_why : plan_Why_m smL smH 4 6 = ([(5, pairI 1 4), (6, pairI 1 5)], 0) := by kernel_rfl
theorem sm_why7 : plan_Why_m smL smH 4 7 = ([], 4) := by kernel_rfl
theorem wakes20_true : windroselaw20_wakes_m = true := by
  have e0 : windroselaw20_small_m = (smL, smH) := Prod.ext small_1 small_2
  have e1 : plan_Of_m smL smH [4] = (([4, 5, 6], smH.drop 2, smH.drop 3), 0) := by
    rw [of_eq sm_check (fun n hn => by rw [List.mem_singleton.1 hn]; unfold idxOk; omega), sm_dies]
    have e2 : sortI (([(4, []), (5, [(5, pairI 1 4)]), (6, [(5, pairI 1 4), (6, pairI 1 5)])] : List Dh).map Prod.fst) = [4, 5, 6] := sortI_self (by simp)
    rw [e2]
    have e3 : smH.filter (goneB smL ([(4, []), (5, [(5, pairI 1 4)]), (6, [(5, pairI 1 4), (6, pairI 1 5)])] : List Dh)) = smH.drop 2 := by kernel_rfl
    have e4 : smH.filter (refB smL ([(4, []), (5, [(5, pairI 1 4)]), (6, [(5, pairI 1 4), (6, pairI 1 5)])] : List Dh)) = smH.drop 3 := by kernel_rfl
    rw [e3, e4]
  have e5 : (plan_Of_m smL smH [3]).1.1 = [3, 8] ∧ (plan_Of_m smL smH [3]).2 = 0 := by
    rw [of_eq sm_check (fun n hn => by rw [List.mem_singleton.1 hn]; unfold idxOk; omega), sm_dies3]
    exact ⟨sortI_self (by simp), rfl⟩
  unfold windroselaw20_wakes_m
  simp only [LR.seq]
  rw [e0, e1, e5.1, e5.2, sm_why, sm_why7]
  simp
end Go.SX

set_option linter.unusedVariables false
set_option linter.unusedSimpArgs false
namespace Go.SX
open Go
theorem halves_i {x : Int} (h : U x) : ident_halves_m x = (hA x, hB x) := by unfold ident_halves_m; rw [halfA_eq h, halfB_eq h]
theorem halves_r {x : Int} (h : U x) : windroseref01_Halves_m x = (hA x, hB x) := by unfold windroseref01_Halves_m; rw [halfA_ref h, halfB_ref h]
theorem packed_i {m a b : Int} (hm : m = 0 ∨ m = 4611686018427387904 ∨ m = 9223372036854775808) (ha : 0 ≤ a ∧ a < 1073741824) (hb : 0 ≤ b ∧ b < 1073741824) : ident_packed_m m a b = made m a b := by unfold ident_packed_m; exact pack_eq hm ha hb
theorem made_r {m a b : Int} (hm : m = 0 ∨ m = 4611686018427387904 ∨ m = 9223372036854775808) (ha : 0 ≤ a ∧ a < 1073741824) (hb : 0 ≤ b ∧ b < 1073741824) : windroseref01_Made_m m a b = made m a b := by unfold windroseref01_Made_m; exact made_ref hm ha hb
theorem is_r (a lo hi : Int) : windroseref01_Is_m a lo hi = withinB lo hi [a] := by
  unfold windroseref01_Is_m withinB
  by_cases h : lo ≤ a <;> simp [h]
theorem within2_B (lo hi a b : Int) : withinB lo hi [a, b] = (withinB lo hi [a] && withinB lo hi [b]) := by simp [withinB]
theorem ite_d {p : Prop} [Decidable p] (b : Bool) : (if p then b else false) = (decide p && b) := by by_cases h : p <;> simp [h]
theorem ite_b (a b : Bool) : (if a = true then b else false) = (a && b) := by cases a <;> simp
theorem kind_i {x : Int} (h : U x) : kindG x = kindI x := by
  have hA' := hA_rng x
  have hB' := hB_rng x
  have e1 : kbG x 1 = kb x 1 := by
    unfold kbG kb identKind1_m
    rw [halves_i h]
    simp only
    rw [packed_i (.inl rfl) hA' hB', within_eq, within_eq, ite_b, ite_d, Bool.and_assoc]
  have e2 : kbG x 2 = kb x 2 := by
    unfold kbG kb identKind2_m
    rw [halves_i h]
    simp only
    rw [packed_i (.inr (.inl rfl)) ⟨by omega, by omega⟩ hB', within_eq, ite_d]
  have e3 : kbG x 3 = kb x 3 := by
    unfold kbG kb identKind3_m
    rw [halves_i h]
    simp only
    rw [packed_i (.inr (.inr rfl)) hA' hB', within_eq, ite_d]
  have e4 : kbG x 4 = kb x 4 := by
    unfold kbG kb identKind4_m
    rw [halves_i h]
    simp only
    rw [packed_i (.inr (.inr rfl)) hA' hB', within_eq, ite_d]
  unfold kindG kindI
  rw [e1, e2, e3, e4]
theorem kind_r {x : Int} (h : U x) : windroseref01_Kind_m x = kindI x := by
  have hA' := hA_rng x
  have hB' := hB_rng x
  unfold windroseref01_Kind_m kindI kb
  rw [halves_r h]
  simp only [LR.seq]
  rw [made_r (.inl rfl) hA' hB', made_r (.inr (.inl rfl)) ⟨by omega, by omega⟩ hB', made_r (.inr (.inr rfl)) hA' hB']
  simp only [is_r, ite_b, ite_d, within2_B, Bool.and_assoc, Bool.decide_eq_true]
theorem parts_i {x : Int} (h : U x) : ident_Parts_m x = partsI x := by
  unfold ident_Parts_m partsI
  rw [halves_i h, kind_i h]
  simp only [LR.seq]
  by_cases h1 : kindI x = 1
  · simp [h1]
  · by_cases h2 : kindI x = 2
    · simp [h2]
    · by_cases h3 : kindI x = 3
      · simp [h3]
      · by_cases h4 : kindI x = 4
        · simp [h4]
        · simp [h1, h2, h3, h4]
theorem parts_r {x : Int} (h : U x) : windroseref01_Parts_m x = partsI x := by
  have hk := kind_rng x
  unfold windroseref01_Parts_m partsI
  rw [halves_r h, kind_r h]
  simp only [LR.seq]
  by_cases h0 : kindI x = 0
  · simp [h0, LR.on]
  · by_cases h1 : kindI x = 1
    · simp [h1, LR.on]
    · by_cases h2 : kindI x = 2
      · simp [h2, LR.on]
      · have : kindI x = 3 ∨ kindI x = 4 := by omega
        simp [h0, h1, h2, this, LR.on]
theorem parts_rng {x : Int} (h : U x) : (0 ≤ (ident_Parts_m x).1 ∧ (ident_Parts_m x).1 < 1073741824) ∧ (0 ≤ (ident_Parts_m x).2 ∧ (ident_Parts_m x).2 < 1073741824) := by
  have hA' := hA_rng x
  have hB' := hB_rng x
  rw [parts_i h]
  unfold partsI
  split
  · exact ⟨hB', hA'⟩
  · split
    · exact ⟨hA', hB'⟩
    · simp
end Go.SX

set_option linter.unusedVariables false
set_option linter.unusedSimpArgs false
namespace Go.SX
open Go
theorem relUp {l : List Rl} (h : RelOk l) : ∀ (d i : Nat), i + d < l.length → (l.getD i rl0).1 + d ≤ (l.getD (i + d) rl0).1
  | 0, i, hi => by simp
  | d + 1, i, hi => by
    have h1 := relUp h d i (by omega)
    have h2 := h.up (i + d) (by omega)
    rw [show i + d + 1 = i + (d + 1) by omega] at h2
    omega
theorem rel_at {l : List Rl} (h : RelOk l) {i : Nat} (hi : i < l.length) : (1 ≤ (l.getD i rl0).1 ∧ (l.getD i rl0).1 ≤ 1048578) ∧ MayT (l.getD i rl0).2 := h.idx i _ (getD_get hi)
theorem find13_l1 (n : Int) : ∀ (l : List Rl), (∃ (i : Nat) (r : Rl), l[i]? = some r ∧ r.1 = n ∧ windroseref13_Find_l1 n l () = .ret (r.2, true)) ∨ ((∀ r ∈ l, r.1 ≠ n) ∧ windroseref13_Find_l1 n l () = .go ())
  | [] => .inr ⟨fun r h => (by cases h), rfl⟩
  | y :: ys => by
    rw [windroseref13_Find_l1]
    by_cases e : y.1 = n
    · rw [if_pos e]; exact .inl ⟨0, y, rfl, e, rfl⟩
    · rw [if_neg e]
      rcases find13_l1 n ys with ⟨i, r, h1, h2, h3⟩ | ⟨h1, h2⟩
      · exact .inl ⟨i + 1, r, by simpa using h1, h2, h3⟩
      · refine .inr ⟨fun r hr => ?_, h2⟩
        rcases List.mem_cons.1 hr with rfl | hr
        · exact e
        · exact h1 r hr
theorem find13_eq {l : List Rl} (h : RelOk l) {n : Int} (hn : 0 ≤ n ∧ n < 1073741824) : windroseref13_Find_m l n = trait_Find_m l n := by
  have hl : l.length ≤ 2000000 := by have := h.n2; omega
  have hf : ∀ p : Nat, p < l.length → trait_find_1_m (l.getD p rl0) n = (l.getD p rl0).1 - n := fun p hp => by
    have := (rel_at h hp).1
    unfold trait_find_1_m
    exact wrap_i64 (by omega) (by omega)
  obtain ⟨k, e, k1, k2, k3, k4⟩ := bs_l1 (a := l) (n := n) (f := fun z0 z1 => trait_find_1_m z0 z1) hl (fun p q hpq hq hlt => by
    have e1 : trait_find_1_m (l.getD p rl0) n = _ := hf p (by omega)
    have e2 : trait_find_1_m (l.getD q rl0) n = _ := hf q hq
    show trait_find_1_m (l.getD p rl0) n < 0
    have hlt' : trait_find_1_m (l.getD q rl0) n < 0 := hlt
    rw [e1]; rw [e2] at hlt'
    have := relUp h (q - p) p (by omega)
    rw [show p + (q - p) = q by omega] at this
    omega) (((l.length : Int) - 0).toNat + 1) 0 l.length (by omega) (by omega) (by omega) (by omega)
  have hfind : trait_find_m l n = if k < (l.length : Int) then (k, decide ((l.getD k.toNat rl0).1 = n)) else (k, false) := by
    unfold trait_find_m slices_BinarySearchFunc_Relation_int_m
    simp only [LR.seq]
    rw [e]
    simp only
    by_cases c : k < (l.length : Int)
    · rw [if_pos c, if_pos c]
      have := hf k.toNat (by omega)
      refine Prod.ext rfl ?_
      show decide (trait_find_1_m (l.getD k.toNat rl0) n = 0) = _
      rw [this, decide_eq_decide]; omega
    · rw [if_neg c, if_neg c]
  have hT : trait_Find_m l n = if (trait_find_m l n).2 = true then ((l.getD (trait_find_m l n).1.toNat rl0).2, true) else (((false, false, 0, 0, 0) : Tr), false) := by
    unfold trait_Find_m
    rw [LR.seq_go, (tcheck_iff l).1.2 h, LR.seq_go]
    cases (trait_find_m l n).2 with
    | true => simp
    | false => simp
  rw [hT, hfind]
  unfold windroseref13_Find_m
  rcases find13_l1 n l with ⟨i, r, h1, h2, h3⟩ | ⟨h1, h2⟩
  · rw [h3, LR.on_ret]
    have hi := (List.getElem?_eq_some_iff.1 h1).1
    have hr : l.getD i rl0 = r := by rw [List.getD_eq_getElem?_getD, h1]; rfl
    have hk : k = i := by
      rcases Int.lt_trichotomy k i with c | c | c
      · exfalso
        have a1 := k4 k.toNat (by omega) (by omega)
        have a2 : ¬ trait_find_1_m (l.getD k.toNat rl0) n < 0 := a1
        rw [hf k.toNat (by omega)] at a2
        have := relUp h (i - k.toNat) k.toNat (by omega)
        rw [show k.toNat + (i - k.toNat) = i by omega, hr] at this
        omega
      · exact c
      · exfalso
        have a1 : trait_find_1_m (l.getD i rl0) n < 0 := k3 i (by omega) c
        rw [hf i hi, hr] at a1
        omega
    have hkl : k < (l.length : Int) := by omega
    have hkt : k.toNat = i := by omega
    rw [if_pos hkl]
    simp only [hkt, hr, h2, decide_true, if_true]
  · rw [h2, LR.on_go]
    by_cases c : k < (l.length : Int)
    · rw [if_pos c]
      have hm := h1 (l.getD k.toNat rl0) (List.mem_of_getElem? (getD_get (by omega)))
      simp only [hm, decide_false, Bool.false_eq_true, if_false]
    · rw [if_neg c]
      simp only [Bool.false_eq_true, if_false]
theorem policy13_eq {l : List Rl} (h : RelOk l) {id : Int} (hu : U id) (n : Int) : windroseref13_Policy_m l id n = trait_Policy_m l id n := by
  have hr := parts_rng hu
  have hf := find13_eq h (n := (ident_Parts_m id).1) hr.1
  have hp := find_pol l (ident_Parts_m id).1 _ rfl (by have := h.n2; omega)
  unfold windroseref13_Policy_m trait_Policy_m
  rw [parts_r hu, ← parts_i hu, kind_r hu, ← kind_i hu]
  simp only [LR.seq]
  rw [hf]
  clear hf hr
  generalize trait_Find_m l (ident_Parts_m id).1 = F at *
  generalize ident_Parts_m id = P at *
  generalize kindG id = K at *
  obtain ⟨⟨b1, b2, w, t, r⟩, is⟩ := F
  obtain ⟨pr, pt⟩ := P
  simp only at *
  by_cases hk : K = 3
  rotate_left
  · simp [hk, LR.seq]
  subst hk
  cases is with
  | false => simp [LR.seq]
  | true =>
    obtain ⟨p1, p2⟩ := hp rfl
    have ht : t = 0 ∨ t = 1 ∨ t = 2 := by omega
    have hr' : r = 0 ∨ r = 1 ∨ r = 2 := by omega
    by_cases e1 : n = pr
    · by_cases e2 : n = pt
      · subst e1; subst e2
        rcases ht with rfl | rfl | rfl <;> rcases hr' with rfl | rfl | rfl <;> simp [LR.on] <;> rfl
      · subst e1
        rcases ht with rfl | rfl | rfl <;> rcases hr' with rfl | rfl | rfl <;> simp [LR.seq, LR.on, e2] <;> rfl
    · by_cases e2 : n = pt
      · subst e2
        rcases ht with rfl | rfl | rfl <;> rcases hr' with rfl | rfl | rfl <;> simp [LR.seq, LR.on, e1] <;> rfl
      · simp [LR.seq, e1, e2]
end Go.SX

set_option linter.unusedVariables false
set_option linter.unusedSimpArgs false
namespace Go.SX
open Go
theorem within1B (lo hi a : Int) : withinB lo hi [a] = true ↔ lo ≤ a ∧ a ≤ hi := by simp [withinB]
theorem rtraits_iff (t : Tr) : windroseref13_RightTraits_m t = 0 ↔ MayT t := by
  unfold windroseref13_RightTraits_m MayT
  simp only [is_r, LR.seq]
  have h1 := within1B 0 4 t.2.2.1
  have h2 := within1B 0 2 t.2.2.2.1
  have h3 := within1B 0 2 t.2.2.2.2
  cases e1 : withinB 0 4 [t.2.2.1] with
  | false =>
    rw [Bool.not_false, if_pos rfl]
    refine ⟨fun k => (by cases k), fun k => ?_⟩
    have := h1.2 ⟨k.1, k.2.1⟩; rw [e1] at this; cases this
  | true =>
    rw [Bool.not_true, if_neg Bool.false_ne_true]
    cases e2 : withinB 0 2 [t.2.2.2.1] with
    | false =>
      rw [Bool.not_false, if_pos rfl, if_pos rfl]
      refine ⟨fun k => (by cases k), fun k => ?_⟩
      have := h2.2 k.2.2.1; rw [e2] at this; cases this
    | true =>
      rw [Bool.not_true, if_neg Bool.false_ne_true]
      cases e3 : withinB 0 2 [t.2.2.2.2] with
      | false =>
        rw [Bool.not_false, if_pos rfl]
        refine ⟨fun k => (by cases k), fun k => ?_⟩
        have := h3.2 k.2.2.2; rw [e3] at this; cases this
      | true =>
        rw [Bool.not_true, if_neg Bool.false_ne_true]
        exact ⟨fun _ => ⟨(h1.1 e1).1, (h1.1 e1).2, h2.1 e2, h3.1 e3⟩, fun _ => rfl⟩
def rStep (l : List Rl) (k : Nat) (y : Rl) : Prop := MayT y.2 ∧ (1 ≤ y.1 ∧ y.1 ≤ 1048578) ∧ ((0 : Int) < (k : Int) → (l.getD (((k : Int) - 1)).toNat rl0).1 < y.1)
theorem right_l2 (l : List Rl) : ∀ (xs : List Rl) (k : Nat), (windroseref13_Right_l2 l xs k () = .go () ∧ ∀ (i : Nat) (y : Rl), xs[i]? = some y → rStep l (k + i) y) ∨ (windroseref13_Right_l2 l xs k () = .ret false ∧ ∃ (i : Nat) (y : Rl), xs[i]? = some y ∧ ¬ rStep l (k + i) y)
  | [], k => .inl ⟨rfl, fun i y h => by simp at h⟩
  | y :: ys, k => by
    rw [windroseref13_Right_l2, LR.seq_go]
    have hiff : (if ((windroseref13_RightTraits_m y.2) : Int) ≠ 0 then true else (if (!(windroseref01_Is_m y.1 1 1048578)) = true then true else (if (0 : Int) < (k : Int) then ((decide (y.1 ≤ (l.getD ((((k : Int) - 1)).toNat) (((0, (false, false, 0, 0, 0)) : Int × (Bool × Bool × Int × Int × Int)) : Int × (Bool × Bool × Int × Int × Int))).1))) else false))) = false ↔ rStep l k y := by
      unfold rStep
      rw [or_f, or_f, and_f, is_r, Bool.not_eq_true', decide_eq_false_iff_not, ← rtraits_iff, ← within1B]
      constructor
      · rintro ⟨h1, h2, h3⟩
        refine ⟨by omega, by simpa using h2, fun h4 => ?_⟩
        rcases h3 with h3 | h3
        · exact absurd h4 h3
        · have h7 : ¬ y.1 ≤ (l.getD (((k : Int) - 1)).toNat rl0).1 := h3
          omega
      · rintro ⟨h1, h2, h3⟩
        refine ⟨by omega, by simpa using h2, ?_⟩
        by_cases h5 : (0 : Int) < (k : Int)
        · have h6 := h3 h5
          refine .inr ?_
          have h7 : (l.getD (((k : Int) - 1)).toNat (0, false, false, 0, 0, 0)).1 < y.1 := h6
          omega
        · exact .inl h5
    cases hb : (if ((windroseref13_RightTraits_m y.2) : Int) ≠ 0 then true else (if (!(windroseref01_Is_m y.1 1 1048578)) = true then true else (if (0 : Int) < (k : Int) then ((decide (y.1 ≤ (l.getD ((((k : Int) - 1)).toNat) (((0, (false, false, 0, 0, 0)) : Int × (Bool × Bool × Int × Int × Int)) : Int × (Bool × Bool × Int × Int × Int))).1))) else false))) with
    | true =>
      rw [if_pos rfl]
      refine .inr ⟨rfl, 0, y, rfl, fun h => ?_⟩
      have := hiff.2 (by simpa using h)
      rw [hb] at this; cases this
    | false =>
      rw [if_neg Bool.false_ne_true]
      have hy := hiff.1 hb
      rcases right_l2 l ys (k + 1) with ⟨h1, h2⟩ | ⟨h1, i, h, h2, h3⟩
      · refine .inl ⟨h1, fun i h hi => ?_⟩
        cases i with
        | zero => simp at hi; subst hi; simpa using hy
        | succ i => have := h2 i h (by simpa using hi); rwa [show k + 1 + i = k + (i + 1) by omega] at this
      · exact .inr ⟨h1, i + 1, h, by simpa using h2, by rwa [show k + (i + 1) = k + 1 + i by omega]⟩
theorem right13_iff (l : List Rl) : windroseref13_Right_m l = true ↔ RelOk l := by
  unfold windroseref13_Right_m windroseref13_New_m
  change LR.seq (if (l.length : Int) < 2 then true else if (200 : Int) < (l.length : Int) then true else if (l.getD 0 rl0) ≠ ((1, (true, true, 0, 1, 2)) : Rl) then true else decide ((l.getD 1 rl0) ≠ ((2, (true, false, 0, 0, 2)) : Rl))) _ = true ↔ _
  by_cases h1 : (l.length : Int) < 2
  · rw [if_pos h1, LR.seq_go, if_pos rfl]; exact ⟨fun k => (by cases k), fun k => by have := k.n1; omega⟩
  rw [if_neg h1]
  by_cases h2 : (200 : Int) < (l.length : Int)
  · rw [if_pos h2, LR.seq_go, if_pos rfl]; exact ⟨fun k => (by cases k), fun k => by have := k.n2; omega⟩
  rw [if_neg h2]
  by_cases h3 : l.getD 0 rl0 = (1, (true, true, 0, 1, 2))
  rotate_left
  · rw [if_pos h3, LR.seq_go, if_pos rfl]
    exact ⟨fun k => (by cases k), fun k => absurd k.f0 h3⟩
  rw [if_neg (fun k => k h3)]
  by_cases h4 : l.getD 1 rl0 = (2, (true, false, 0, 0, 2))
  rotate_left
  · rw [decide_eq_true h4, LR.seq_go, if_pos rfl]
    exact ⟨fun k => (by cases k), fun k => absurd k.f1 h4⟩
  rw [decide_eq_false (fun k => k h4), LR.seq_go, if_neg Bool.false_ne_true]
  rcases right_l2 l l 0 with ⟨e, hs⟩ | ⟨e, i, y, hi, hn⟩
  · rw [e, LR.on_go]
    refine ⟨fun _ => ⟨by omega, by omega, h3, h4, fun i r hi => ⟨(hs i r hi).2.1, (hs i r hi).1⟩, fun i hi => ?_⟩, fun _ => rfl⟩
    have := (hs (i + 1) _ (getD_get (z := rl0) hi)).2.2 (by omega)
    rwa [show ((((0 + (i + 1) : Nat) : Int)) - 1).toNat = i by omega] at this
  · rw [e, LR.on_ret]
    refine ⟨fun k => (by cases k), fun k => absurd ?_ hn⟩
    have hlt := (List.getElem?_eq_some_iff.1 hi).1
    refine ⟨(k.idx i y hi).2, (k.idx i y hi).1, fun h0 => ?_⟩
    obtain ⟨j, rfl⟩ : ∃ j, i = j + 1 := ⟨i - 1, by omega⟩
    have := k.up j hlt
    rw [show l.getD (j + 1) rl0 = y by rw [List.getD_eq_getElem?_getD, hi]; rfl] at this
    rwa [show ((((0 + (j + 1) : Nat) : Int)) - 1).toNat = j by omega]
/-- how what is held stands -/
def ltH (a b : Hd) : Prop := a.1 < b.1 ∨ (a.1 = b.1 ∧ a.2 < b.2)
theorem cmpI20 (a b : Int) : cmp_Compare_int_m a b = if a < b then -1 else if b < a then 1 else 0 := by
  unfold cmp_Compare_int_m cmp_isNaN_int_m; simp
theorem cmpId20 (a b : Int) : cmp_Compare_Id_m a b = if a < b then -1 else if b < a then 1 else 0 := by
  unfold cmp_Compare_Id_m cmp_isNaN_Id_m; simp
theorem pcompare_iff (a b : Hd) : plan_compare_m a b < 0 ↔ ltH a b := by
  unfold plan_compare_m ltH
  rw [LR.seq_go, cmpI20, cmpId20]
  unfold cmp_Or_int_m
  rw [cmp_Or_int_l1, cmp_Or_int_l1, cmp_Or_int_l1]
  have hc : ∀ (x y : Int), (x < y ∧ (if x < y then (-1 : Int) else if y < x then 1 else 0) = -1) ∨ (x = y ∧ (if x < y then (-1 : Int) else if y < x then 1 else 0) = 0) ∨ (y < x ∧ (if x < y then (-1 : Int) else if y < x then 1 else 0) = 1) := fun x y => by
    rcases Int.lt_trichotomy x y with h | h | h
    · exact .inl ⟨h, by rw [if_pos h]⟩
    · subst h; exact .inr (.inl ⟨rfl, by rw [if_neg (Int.lt_irrefl x), if_neg (Int.lt_irrefl x)]⟩)
    · exact .inr (.inr ⟨h, by rw [if_neg (by omega), if_pos h]⟩)
  rcases hc a.1 b.1 with ⟨h, e⟩ | ⟨h, e⟩ | ⟨h, e⟩
  · rw [e]; simp [LR.on, h]
  · rw [e]
    rcases hc a.2 b.2 with ⟨h2, e2⟩ | ⟨h2, e2⟩ | ⟨h2, e2⟩
    · rw [e2]; simp [LR.on, h, h2]
    · rw [e2]; simp [LR.on]; omega
    · rw [e2]; simp [LR.on]; omega
  · rw [e]; simp [LR.on]; omega
theorem ahead_iff (a b : Hd) : windroseref15_Ahead_m a b = true ↔ ltH a b := by
  unfold windroseref15_Ahead_m ltH
  rw [or_t, and_t, decide_eq_true_eq]
theorem may15_iff {h : Hd} (hu : U h.2) : windroseref15_May_m h = true ↔ kindG h.2 = 3 ∧ idxOk h.1 := by
  unfold windroseref15_May_m idxOk
  rw [kind_r hu, ← kind_i hu, is_r, and_t, within1B]
theorem held_l1 {l : List Rl} (hr : RelOk l) (held : List Hd) : ∀ (xs : List Hd) (k : Nat), (∀ h ∈ xs, U h.2) → (windroseref20_Held_l1 l held xs k () = .go () ∧ ∀ (i : Nat) (h : Hd), xs[i]? = some h → HeldOk l h ∧ stepOk held (k + i) h) ∨ (windroseref20_Held_l1 l held xs k () = .ret false ∧ ∃ (i : Nat) (h : Hd), xs[i]? = some h ∧ ¬ (HeldOk l h ∧ stepOk held (k + i) h))
  | [], k, _ => .inl ⟨rfl, fun i h hi => by simp at hi⟩
  | y :: ys, k, hu => by
    have hy := hu y (List.mem_cons_self ..)
    rw [windroseref20_Held_l1, LR.seq_go, halfA_ref hy]
    have hiff : (if (!(windroseref15_May_m y)) = true then true else (if (0 : Int) < (k : Int) then ((!(windroseref15_Ahead_m (held.getD ((((k : Int) - 1)).toNat) (((0, 0) : Int × Int) : Int × Int)) y))) else false)) = false ↔ (kindG y.2 = 3 ∧ idxOk y.1) ∧ stepOk held k y := by
      unfold stepOk
      rw [or_f, and_f, ← may15_iff hy, pcompare_iff, ← ahead_iff, Bool.not_eq_true']
      constructor
      · rintro ⟨h1, h2⟩
        refine ⟨by simpa using h1, fun h3 => ?_⟩
        rcases h2 with h2 | h2
        · exact absurd h3 h2
        · simpa using h2
      · rintro ⟨h1, h2⟩
        refine ⟨by simpa using h1, ?_⟩
        by_cases h3 : (0 : Int) < (k : Int)
        · exact .inr (by simpa using h2 h3)
        · exact .inl h3
    have hA : kindG y.2 = 3 → (ident_Parts_m y.2).1 = hA y.2 := fun h => by
      rw [kind_i hy] at h
      rw [parts_i hy]; unfold partsI; simp [h]
    cases hb : (if (!(windroseref15_May_m y)) = true then true else (if (0 : Int) < (k : Int) then ((!(windroseref15_Ahead_m (held.getD ((((k : Int) - 1)).toNat) (((0, 0) : Int × Int) : Int × Int)) y))) else false)) with
    | true =>
      rw [if_pos rfl]
      refine .inr ⟨rfl, 0, y, rfl, fun h => ?_⟩
      have := hiff.2 ⟨⟨h.1.2.2, h.1.2.1⟩, by simpa using h.2⟩
      rw [hb] at this; cases this
    | false =>
      rw [if_neg Bool.false_ne_true, LR.seq_go]
      obtain ⟨⟨k1, k2⟩, k3⟩ := hiff.1 hb
      rw [find13_eq hr (hA_rng y.2), ← hA k1]
      cases hf : (trait_Find_m l (ident_Parts_m y.2).1).2 with
      | false =>
        rw [Bool.not_false, if_pos rfl]
        refine .inr ⟨rfl, 0, y, rfl, fun h => ?_⟩
        have := h.1.1; rw [hf] at this; cases this
      | true =>
        rw [Bool.not_true, if_neg Bool.false_ne_true]
        rcases held_l1 hr held ys (k + 1) (fun h hh => hu h (List.mem_cons_of_mem _ hh)) with ⟨h1, h2⟩ | ⟨h1, i, h, h2, h3⟩
        · refine .inl ⟨h1, fun i h hi => ?_⟩
          cases i with
          | zero => simp at hi; subst hi; exact ⟨⟨hf, k2, k1⟩, by simpa using k3⟩
          | succ i => have := h2 i h (by simpa using hi); rwa [show k + 1 + i = k + (i + 1) by omega] at this
        · exact .inr ⟨h1, i + 1, h, by simpa using h2, by rwa [show k + (i + 1) = k + 1 + i by omega]⟩
theorem check20_eq {l : List Rl} {held : List Hd} (hu : ∀ h ∈ held, U h.2) : windroseref20_Check_m l held = plan_Check_m l held := by
  obtain ⟨c1, c2, c3⟩ := pcheck_iff l held
  unfold windroseref20_Check_m windroseref20_Held_m
  by_cases hr : RelOk l
  · rw [(right13_iff l).2 hr, Bool.not_true, if_neg Bool.false_ne_true]
    rcases held_l1 hr held held 0 hu with ⟨e, h2⟩ | ⟨e, i, h, h2, h3⟩
    · rw [e, LR.on_go, Bool.not_true, if_neg Bool.false_ne_true]
      exact (c1.2 ⟨hr, fun i h hi => by simpa using h2 i h hi⟩).symm
    · rw [e, LR.on_ret, Bool.not_false, if_pos rfl]
      rcases c2 hr with k | k
      · exact absurd (by simpa using (c1.1 k).2 i h h2) h3
      · exact k.symm
  · have : windroseref13_Right_m l = false := by
      cases e : windroseref13_Right_m l with
      | false => rfl
      | true => exact absurd ((right13_iff l).1 e) hr
    rw [this, Bool.not_false, if_pos rfl, c3 hr]
end Go.SX

set_option linter.unusedVariables false
set_option linter.unusedSimpArgs false
namespace Go.SX
open Go
theorem closed_l1 (ds : List Int) (by_ : Int → List Hd) : ∀ (xs : List Int), ((∀ n ∈ xs, ∀ h ∈ by_ n, h.1 ∈ ds) ∧ plan_Closed_l1 ds by_ xs () = .go ()) ∨ ((∃ n ∈ xs, ∃ h ∈ by_ n, h.1 ∉ ds) ∧ plan_Closed_l1 ds by_ xs () = .ret (false, 0))
  | [] => .inl ⟨fun n h => (by cases h), rfl⟩
  | n :: xs => by
    rw [plan_Closed_l1, LR.seq_go, cf_Held]
    cases h : (by_ n).any (fun z0 => plan_Closed_1_m ds z0) with
    | true =>
      rw [if_pos rfl]
      obtain ⟨x, h1, h2⟩ := List.any_eq_true.1 h
      exact .inr ⟨⟨n, List.mem_cons_self .., x, h1, of_decide_eq_true h2⟩, rfl⟩
    | false =>
      rw [if_neg Bool.false_ne_true]
      rw [List.any_eq_false] at h
      have hn : ∀ x ∈ by_ n, x.1 ∈ ds := fun x hx => Classical.byContradiction (fun k => h x hx (decide_eq_true k))
      rcases closed_l1 ds by_ xs with ⟨h1, h2⟩ | ⟨⟨m, h1, h3⟩, h2⟩
      · refine .inl ⟨fun m hm => ?_, h2⟩
        rcases List.mem_cons.1 hm with rfl | hm
        · exact hn
        · exact h1 m hm
      · exact .inr ⟨⟨m, List.mem_cons_of_mem _ h1, h3⟩, h2⟩
theorem same20 (a b : (List Int) × (List Hd) × (List Hd)) : plan_Same_m a b = decide (a = b) := by
  obtain ⟨a1, a2, a3⟩ := a
  obtain ⟨b1, b2, b3⟩ := b
  unfold plan_Same_m
  simp only [Prod.mk.injEq]
  by_cases h1 : a1 = b1
  · rw [if_pos h1]
    by_cases h2 : a2 = b2
    · rw [if_pos h2]; simp [h1, h2]
    · rw [if_neg h2]; simp [h2]
  · rw [if_neg h1]; simp [h1]
end Go.SX

set_option linter.unusedVariables false
set_option linter.unusedSimpArgs false
namespace Go.SX
open Go
/-- rising, and out of c -/
def Rg (c : List Int) (l : List Int) : Prop := l.Pairwise (· < ·) ∧ ∀ x ∈ l, x ∈ c
theorem Rg.len {c l : List Int} (h : Rg c l) : l.length ≤ c.length := nodup_len (h.1.imp (fun k => by intro e; omega)) h.2
theorem Rg.nil (c : List Int) : Rg c [] := ⟨List.Pairwise.nil, fun x h => by cases h⟩
/-- the numbers with one more -/
def putI (l : List Int) (n : Int) : List Int := l.filter (fun x => decide (x < n)) ++ n :: l.filter (fun x => decide (n < x))
theorem putI_mem (l : List Int) (n x : Int) : x ∈ putI l n ↔ x = n ∨ x ∈ l := by
  unfold putI
  rw [List.mem_append, List.mem_cons, List.mem_filter, List.mem_filter, decide_eq_true_eq, decide_eq_true_eq]
  constructor
  · rintro (h | h | h)
    · exact .inr h.1
    · exact .inl h
    · exact .inr h.1
  · rintro (h | h)
    · exact .inr (.inl h)
    · rcases Int.lt_trichotomy x n with k | k | k
      · exact .inl ⟨h, k⟩
      · exact .inr (.inl k)
      · exact .inr (.inr ⟨h, k⟩)
theorem Rg.put {c l : List Int} (h : Rg c l) {n : Int} (hn : n ∈ c) : Rg c (putI l n) := by
  refine ⟨?_, fun x hx => ?_⟩
  · unfold putI
    refine List.pairwise_append.2 ⟨h.1.sublist List.filter_sublist, List.pairwise_cons.2 ⟨fun y hy => ?_, h.1.sublist List.filter_sublist⟩, fun x hx y hy => ?_⟩
    · rw [List.mem_filter, decide_eq_true_eq] at hy; exact hy.2
    · rw [List.mem_filter, decide_eq_true_eq] at hx
      rcases List.mem_cons.1 hy with rfl | hy
      · exact hx.2
      · rw [List.mem_filter, decide_eq_true_eq] at hy; omega
  · rcases (putI_mem l n x).1 hx with rfl | hx
    · exact hn
    · exact h.2 x hx
theorem Rg.one {c : List Int} {n : Int} (hn : n ∈ c) : Rg c [n] := ⟨by simp, fun x hx => by rw [List.mem_singleton.1 hx]; exact hn⟩
end Go.SX
