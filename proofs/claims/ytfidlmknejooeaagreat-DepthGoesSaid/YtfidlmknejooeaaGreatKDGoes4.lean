/- 'DepthGoes' answers true, whatever it is handed, and what it is handed reads behind it as it did. -/
import Derived.RangeFuncNested
import Derived.RangeFuncBound
import Derived.RangeFuncCalls
import Derived.RangeFuncLeaves
import Derived.Shelf.Abstract
import Derived.Laws.AppendOwn
import Derived.Laws.OwnMore
import Derived.KernelRfl
import Derived.IntWalk
import Derived.Laws.Append
import Derived.WideLaws
import Derived.Laws.Slices
import Derived.Laws.MakeOwn
import Derived.OrdersIn
import Derived.Laws.Cover3
import Derived.Test.YtfidlmknejooeaaGreatProg
import Derived.Sort.OwnSortedInts
import Derived.Shelf.Sort.Plain
import Derived.Laws.StructEq
import Derived.Maps.RangeRun
import Derived.Shelf.SlSortCmp.NoneTotal
import Derived.Deep.Draws
import Derived.Shelf.Slices.In.SortNone
import Derived.ProofKit
import Derived.ChangeSlices
import Derived.Carry
import Derived.Deep.Slices
import Derived.OpenShut
import Derived.Test.YtfidlmknejooeaaGreatRows
import Derived.Test.YtfidlmknejooeaaGreatKDGoes3
set_option linter.unusedVariables false
set_option linter.unusedSimpArgs false
namespace Go.SX
open Go Go.Proofs

set_option maxHeartbeats 1600000 in
theorem waves_it (H : Heap) (u fv : Value) (first uni : List Int) (f : Int → List Int) (hcf : fv.cells = #[fv]) (hr : RdS (intE .i64) H u first) (hfv : StepF Tryz.prog fv f H) (huni : ∀ v, ∀ w ∈ f v, w ∈ uni) (hl : uni.length ≤ 2000) (hl2 : first.length ≤ 2000) : Fp Tryz.prog (fnv 76) [fv, u] H (fun v' H' => ∃ lb, v' = .func (.func 139) #[] lb ∧ Iter Tryz.prog v' YV H' (wavesW f uni.length first)) := by
  refine Fc.of_body (N := 6) Tryz.func76 rfl (by kernel_rfl) rfl rfl ?_
  intro w0
  have hcf2 := hcf
  obtain ⟨A, c, rfl, hc1, hc2, hr⟩ := hr.shape
  refine T.seq ?_
  refine T.region ?_
  refine R.box (v := fv) rfl rfl ?_
  intro b2
  refine R.box rfl (by conv => lhs; whnf) ?_
  intro b3
  refine R.asE rfl (by conv => lhs; whnf) ?_
  refine TL.nil (Post.thnN ?_)
  refine T.seq ?_
  refine T.shut .hd ?_
  intro H3 s3 q3
  refine T.shut .hd ?_
  intro H2 s2 q2
  refine T.region ?_
  refine R.mkf (cs := [_, _]) rfl rfl ?_
  refine R.asE rfl (by conv => lhs; whnf) ?_
  refine TL.nil (Post.thnN ?_)
  refine T.ret ?_
  exact fin1 rfl rfl ⟨rfl, _, rfl, wavesIt_c H2 b3 b2 _ fv first uni f (s2 _ _ (shut1 q3)) (by rw [← hcf2]; exact shut1 q2) ((hr.mono s3).mono s2) ((hfv.mono s3).mono s2) huni hl hl2⟩


set_option maxHeartbeats 1600000 in
theorem appseq_c (H : Heap) (gf : Nat) (lb : Array Value) (ws : List (List Int)) (hen : Enters Tryz.prog gf) (hl : ws.length ≤ 100000) (hit : Iter Tryz.prog (.func (.func gf) #[] lb) YV H ws) : Fp Tryz.prog (fnv 211) [.slice none 0 0, .func (.func gf) #[] lb] H (fun v' H' => RdS (slE (intE .i64)) H' v' ws) := by
  refine Fc.of_body (N := 13) Tryz.func211 rfl (by kernel_rfl) rfl rfl ?_
  intro w0
  refine T.seq ?_
  refine T.region ?_
  refine R.box rfl (by conv => lhs; whnf) ?_
  intro b2
  refine R.asE rfl (by conv => lhs; whnf) ?_
  refine TL.nil (Post.thnN ?_)
  refine T.seq ?_
  refine T.seq ?_
  refine T.nilc ?_
  refine T.region ?_
  refine R.mvE rfl (by conv => lhs; whnf) ?_
  refine TL.nil (Post.thnN ?_)
  refine T.block ?_
  refine T.rangeFunc rfl rfl hen hit (fun _ _ _ h => by obtain ⟨w, rfl, _⟩ := h; rfl) rfl (fun pre H' L' => ∃ v c, L' = [c, [(b2, .cells #[v] 114)]] ∧ OwnS (slE (intE .i64)) 24 H' v pre c) (fun c pre H' L' => False) (fun pre H H' L hle ⟨v, c, h1, h2⟩ => ⟨v, c, h1, h2.mono hle⟩) (fun _ _ _ _ _ _ h => h) ?_ ?_ ?_ ?_
  · exact ⟨_, _, rfl, OwnS.nil⟩
  · intro l0 r0 w0 pre y vs Hr0 Lr0 sr0 hp0 hI0 hY0
    obtain ⟨v, c, rfl, ho⟩ := hI0
    obtain ⟨w, rfl, hwy⟩ := hY0
    have hpl := hp0.length_le
    simp at hpl
    refine T.region ?_
    refine R.asE rfl (by conv => lhs; whnf) ?_
    refine TL.nil ?_
    refine onlyN.mk ?_
    refine T.block ?_
    refine T.region ?_
    refine R.ld Tryz.isAgg114 rfl rfl (by repeat (first | exact .hd | refine .tl ?_)) rfl ?_
    refine R.mvE rfl (by conv => lhs; whnf) ?_
    refine R.bs rfl (run_buildSlice1 Tryz.underlying114 Tryz.sizeOf24 Tryz.zeroValue24 rfl (by obtain ⟨_, _, e, _⟩ := hwy.shape; subst e; rfl)) ?_
    intro b10
    refine R.app (ys := [y]) Tryz_ty114 rfl rfl rfl ho (.tl .hd) (Src.lit (vs := [w]) .hd) ⟨[_], [], rfl, ⟨_, rfl, hwy⟩, rfl⟩ (by simp; omega) (by simp; omega) ?_
    intro v11 c11 w11
    refine R.st Tryz.sizeOf114 rfl rfl rfl (by obtain ⟨_, _, e, _⟩ := w11.shape; subst e; rfl) (by first | exact .hd | exact .tl .hd | exact .tl (.tl .hd) | exact .tl (.tl (.tl .hd)) | exact .tl (.tl (.tl (.tl .hd))) | exact .tl (.tl (.tl (.tl (.tl .hd)))) | exact .tl (.tl (.tl (.tl (.tl (.tl .hd))))) | exact .tl (.tl (.tl (.tl (.tl (.tl (.tl .hd)))))) | exact .tl (.tl (.tl (.tl (.tl (.tl (.tl (.tl .hd))))))) | exact .tl (.tl (.tl (.tl (.tl (.tl (.tl (.tl (.tl .hd))))))))) ?_
    refine TL.del (.tl .hd) ?_
    refine TL.nil (Post.blkN ?_)
    refine id ?_
    -- way b
    exact ⟨v11, c11, rfl, w11⟩
  · intro D0 Hr0 Lr0 sr0 hI0
    obtain ⟨v, c, rfl, ho⟩ := hI0
    refine id (Post.blkN ?_)
    refine id (Post.thnN ?_)
    refine T.seq ?_
    refine T.shut .hd ?_
    intro HW sW qW
    have hw := ho.read sW qW
    refine T.region ?_
    refine R.ld Tryz.isAgg114 rfl rfl (by repeat (first | exact .hd | refine .tl ?_)) rfl ?_
    refine R.asE rfl (by conv => lhs; whnf) ?_
    refine TL.nil (Post.thnN ?_)
    refine T.ret ?_
    -- way d
    exact fin1 rfl rfl ⟨rfl, hw⟩
  · intro D0 c0 pre y Hr0 Lr0 sr0 hp0 hI0
    exact hI0.elim


set_option maxHeartbeats 1600000 in
theorem collect_c (H : Heap) (gf : Nat) (lb : Array Value) (ws : List (List Int)) (hen : Enters Tryz.prog gf) (hl : ws.length ≤ 100000) (hit : Iter Tryz.prog (.func (.func gf) #[] lb) YV H ws) : Fp Tryz.prog (fnv 194) [.func (.func gf) #[] lb] H (fun v' H' => RdS (slE (intE .i64)) H' v' ws) := by
  refine Fc.of_body (N := 5) Tryz.func194 rfl (by kernel_rfl) rfl rfl ?_
  intro w0
  refine T.seq ?_
  refine T.region ?_
  refine R.asE rfl (by conv => lhs; whnf) ?_
  refine TL.nil (Post.thnN ?_)
  refine T.seq ?_
  refine T.region ?_
  refine R.mvE rfl (by conv => lhs; whnf) ?_
  refine R.callp rfl rfl rfl (appseq_c _ gf lb ws hen hl hit) ?_
  intro v4 H4 s4 q4
  refine R.asE rfl (by conv => lhs; whnf) ?_
  refine TL.nil (Post.thnN ?_)
  refine T.ret ?_
  exact fin1 rfl rfl ⟨rfl, q4⟩


set_option maxHeartbeats 1600000 in
theorem cwaves_c (H : Heap) (v : Value) (xs : List Lk) (a : Int) (hr : RdS pairE H v xs) (hl : xs.length ≤ 1000) (b : Bool) : Fp Tryz.prog (fnv 153) [v, .int .i64 a, .bool b] H (fun v' H' => RdS (slE (intE .i64)) H' v' (wavesL b xs a)) := by
  refine Fc.of_body (N := 14) Tryz.func153 rfl (by kernel_rfl) rfl rfl ?_
  intro w0
  obtain ⟨A, c, rfl, hc1, hc2, hr⟩ := hr.shape
  have hwl := wavesW_len (tbL b xs) xs.length [a]
  refine T.seq ?_
  refine T.region ?_
  refine R.asE rfl (by conv => lhs; whnf) ?_
  refine TL.nil (Post.thnN ?_)
  refine T.seq ?_
  refine T.region ?_
  refine R.mvE rfl (by conv => lhs; whnf) ?_
  refine R.mvE rfl (by conv => lhs; whnf) ?_
  refine R.callp rfl rfl rfl (steps_c _ _ xs b hr hl) ?_
  intro v9 H9 s9 q9
  obtain ⟨hcf, hst⟩ := q9
  refine R.mvE rfl (by conv => lhs; whnf) ?_
  refine R.bs rfl (run_buildSlice1 Tryz.underlying24 Tryz.sizeOf3 Tryz.zeroValue3 rfl rfl) ?_
  intro b11
  refine TL.shut .hd ?_
  intro H11 s11 q11
  refine R.callp rfl rfl rfl (waves_it _ _ _ [a] (endsL b xs) (tbL b xs) hcf (RdS.lit1 q11) (hst.mono s11) (fun v w hw => tb_mem hw) (by rw [ends_len]; omega) (by simp)) ?_
  intro v12 H12 s12 q12
  obtain ⟨lb, rfl, hit⟩ := q12
  rw [ends_len] at hit
  refine R.callp rfl rfl rfl (collect_c _ _ lb _ (enters_of Tryz.func139 (by kernel_rfl) rfl) (by simp at hwl; omega) hit) ?_
  intro v13 H13 s13 q13
  refine R.asE rfl (by conv => lhs; whnf) ?_
  refine TL.nil (Post.thnN ?_)
  refine T.ret ?_
  exact fin1 rfl rfl ⟨rfl, by rw [← wavesW_eq]; exact q13⟩


set_option maxHeartbeats 1600000 in
theorem leads_c (H : Heap) (v : Value) (xs : List Lk) (a : Int) (hr : RdS pairE H v xs) (hl : xs.length ≤ 1000) (z : Int) : Fv Tryz.prog (fnv 30) [v, .int .i64 a, .int .i64 z] H (.bool (leadsR xs a z)) := by
  refine Fc.of_body (N := 20) Tryz.func30 rfl (by kernel_rfl) rfl rfl ?_
  intro w0
  obtain ⟨A, c, rfl, hc1, hc2, hr⟩ := hr.shape
  refine T.seq ?_
  refine T.region ?_
  refine R.box rfl (by conv => lhs; whnf) ?_
  intro b5
  refine R.alloc Tryz.zeroValue4 rfl ?_
  intro b6
  refine TL.nil (Post.thnN ?_)
  refine T.seq ?_
  refine T.shut (.tl .hd) ?_
  intro H5 s5 q5
  refine T.region ?_
  refine R.mvE rfl (by conv => lhs; whnf) ?_
  refine R.callp rfl rfl rfl (steps_c _ _ xs false (hr.mono s5) hl) ?_
  intro v10 H10 s10 q10
  obtain ⟨hcf, hst⟩ := q10
  refine R.asE rfl (by conv => lhs; whnf) ?_
  refine TL.nil (Post.thnN ?_)
  refine T.seq ?_
  refine T.seq ?_
  refine T.region ?_
  refine R.mvE rfl (by conv => lhs; whnf) ?_
  refine R.mvE rfl (by conv => lhs; whnf) ?_
  refine R.mvE rfl (by conv => lhs; whnf) ?_
  refine R.callp rfl rfl rfl (hst _ (HLe.refl _) a) ?_
  intro v14 H14 s14 q14
  refine R.callp rfl rfl rfl (waves_it _ _ _ (toL xs a) (endsL false xs) (toL xs) hcf q14 (hst.mono s14) (fun v w hw => to_mem hw) (by rw [ends_len]; omega) (by have := toL_len xs a; omega)) ?_
  intro v15 H15 s15 q15
  obtain ⟨lb, rfl, hit⟩ := q15
  rw [ends_len] at hit
  refine TL.nil (Post.thnN ?_)
  refine T.block ?_
  refine T.rangeFunc rfl rfl (enters_of Tryz.func139 (by kernel_rfl) rfl) hit (fun _ _ _ h => by obtain ⟨w, rfl, _⟩ := h; rfl) rfl (fun pre H' L' => (∀ w ∈ pre, w.any (fun y => decide (z = y)) = false) ∧ L' = [[(b6, .cells #[.bool false] 4)]]) (fun c pre H' L' => c = .ret ∧ (∃ w ∈ pre, w.any (fun y => decide (z = y)) = true) ∧ L' = [[(b6, .cells #[.bool true] 4)]]) (fun _ _ _ _ _ h => h) (fun _ _ _ _ _ _ h => h) ?_ ?_ ?_ ?_
  · exact ⟨fun w h => (by cases h), rfl⟩
  · intro l0 r0 w0 pre y vs Hr0 Lr0 sr0 hp0 hI0 hY0
    obtain ⟨hno, rfl⟩ := hI0
    obtain ⟨w, rfl, hwy⟩ := hY0
    obtain ⟨Ay, cy, rfl, my, ny, hwy⟩ := hwy.shape
    refine T.region ?_
    refine R.asE rfl (by conv => lhs; whnf) ?_
    refine TL.nil ?_
    refine onlyN.mk ?_
    refine T.block ?_
    refine T.seq ?_
    refine T.region ?_
    refine R.mvE rfl (by conv => lhs; whnf) ?_
    refine R.ldH Tryz.isAgg3 rfl rfl ((s10.trans (s14.trans (s15.trans sr0))) _ _ (shut1 q5)) rfl ?_
    refine R.callv rfl rfl rfl (containsI24_c _ _ _ z hwy) ?_
    refine TL.nil (Post.thnN ?_)
    refine T.cond rfl (fun c19 => ?_) (fun c19 => ?_)
    · refine T.seq ?_
      refine T.region ?_
      refine R.st Tryz.sizeOf4 rfl rfl (by conv => lhs; whnf) rfl (by first | exact .hd | exact .tl .hd | exact .tl (.tl .hd) | exact .tl (.tl (.tl .hd)) | exact .tl (.tl (.tl (.tl .hd))) | exact .tl (.tl (.tl (.tl (.tl .hd)))) | exact .tl (.tl (.tl (.tl (.tl (.tl .hd))))) | exact .tl (.tl (.tl (.tl (.tl (.tl (.tl .hd)))))) | exact .tl (.tl (.tl (.tl (.tl (.tl (.tl (.tl .hd))))))) | exact .tl (.tl (.tl (.tl (.tl (.tl (.tl (.tl (.tl .hd))))))))) ?_
      refine TL.nil (Post.thnN ?_)
      refine T.ret (Post.blkR ?_)
      -- way by
      exact ⟨rfl, ⟨y, by simp, c19⟩, rfl⟩
    · refine T.skip (Post.blkN ?_)
      refine id ?_
      -- way bn
      refine ⟨fun w hw => ?_, rfl⟩
      rcases List.mem_append.1 hw with hw | hw
      · exact hno w hw
      · simp at hw; rw [hw]; exact c19
  · intro D0 Hr0 Lr0 sr0 hI0
    obtain ⟨hno, rfl⟩ := hI0
    refine id (Post.blkN ?_)
    refine id (Post.thnN ?_)
    refine T.seq ?_
    refine T.region ?_
    refine R.st Tryz.sizeOf4 rfl rfl (by conv => lhs; whnf) rfl (by first | exact .hd | exact .tl .hd | exact .tl (.tl .hd) | exact .tl (.tl (.tl .hd)) | exact .tl (.tl (.tl (.tl .hd))) | exact .tl (.tl (.tl (.tl (.tl .hd)))) | exact .tl (.tl (.tl (.tl (.tl (.tl .hd))))) | exact .tl (.tl (.tl (.tl (.tl (.tl (.tl .hd)))))) | exact .tl (.tl (.tl (.tl (.tl (.tl (.tl (.tl .hd))))))) | exact .tl (.tl (.tl (.tl (.tl (.tl (.tl (.tl (.tl .hd))))))))) ?_
    refine TL.nil (Post.thnN ?_)
    refine T.ret ?_
    -- way d
    exact fin1C [] rfl Tryz.isAgg4 rfl .hd rfl (List.nil_sublist _) ⟨rfl, congrArg Value.bool (leads_no hno).symm⟩
  · intro D0 c0 pre y Hr0 Lr0 sr0 hp0 hI0
    obtain ⟨rfl, ⟨w, hw, hyes⟩, rfl⟩ := hI0
    have hwm := hp0.subset hw
    refine T.ret (Post.blkR (Post.thnR ?_))
    -- way s
    exact fin1C [] rfl Tryz.isAgg4 rfl .hd rfl (List.nil_sublist _) ⟨rfl, congrArg Value.bool (leads_yes hwm hyes).symm⟩


set_option maxHeartbeats 1600000 in
theorem closes_c (H : Heap) (v : Value) (xs : List Lk) (a : Int) (hr : RdS pairE H v xs) (hl : xs.length ≤ 1000) (z : Int) : Fv Tryz.prog (fnv 81) [v, .int .i64 a, .int .i64 z] H (.bool (decide (a = z) || leadsR xs z a)) := by
  refine Fc.of_body (N := 16) Tryz.func81 rfl (by kernel_rfl) rfl rfl ?_
  intro w0
  obtain ⟨A, c, rfl, hc1, hc2, hr⟩ := hr.shape
  refine T.seq ?_
  refine T.region ?_
  refine R.asE rfl (by conv => lhs; whnf) ?_
  refine TL.nil (Post.thnN ?_)
  refine T.seq ?_
  refine T.region ?_
  refine R.mvE rfl (by conv => lhs; whnf) ?_
  refine R.mvE rfl (by conv => lhs; whnf) ?_
  refine R.eql rfl rfl rfl ?_
  refine R.mvE rfl (by conv => lhs; whnf) ?_
  refine TL.gsplitD 10 rfl (fun g10 => ?_) (fun g10 => ?_)
  · refine TL.off rfl rfl rfl ?_
    refine TL.off rfl rfl rfl ?_
    refine TL.off rfl rfl rfl ?_
    refine TL.off rfl rfl rfl ?_
    refine R.pkTE rfl rfl (by conv => lhs; whnf) ?_
    refine R.asE rfl (by conv => lhs; whnf) ?_
    refine TL.nil (Post.thnN ?_)
    refine T.ret ?_
    -- way y
    exact fin1 rfl rfl ⟨rfl, congrArg Value.bool (by simp [g10])⟩
  · refine R.mvE rfl (by conv => lhs; whnf) ?_
    refine R.mvE rfl (by conv => lhs; whnf) ?_
    refine R.mvE rfl (by conv => lhs; whnf) ?_
    refine R.callv rfl rfl rfl (leads_c _ _ xs z hr hl a) ?_
    refine R.pkFE rfl rfl (by conv => lhs; whnf) ?_
    refine R.asE rfl (by conv => lhs; whnf) ?_
    refine TL.nil (Post.thnN ?_)
    refine T.ret ?_
    -- way n
    exact fin1 rfl rfl ⟨rfl, congrArg Value.bool (by simp [g10])⟩




end Go.SX

set_option linter.unusedVariables false
set_option linter.unusedSimpArgs false
namespace Go.SX
open Go Go.Proofs

set_option maxHeartbeats 1600000 in
theorem has16_c (H : Heap) (v : Value) (xs : List Int) (x : Int) (hr : RdS (intE .i64) H v xs) : Fv Tryz.prog (fnv 87) [v, .int .i64 x] H (.bool (xs.any (fun y => decide (y = x)))) := by
  refine Fc.of_body (N := 17) Tryz.func87 rfl (by kernel_rfl) rfl rfl ?_
  intro w0
  obtain ⟨A, c, rfl, hc1, hc2, hr⟩ := hr.shape
  refine T.seq ?_
  refine T.region ?_
  refine R.asE rfl (by conv => lhs; whnf) ?_
  refine TL.nil (Post.thnN ?_)
  refine T.seq ?_
  refine T.seq ?_
  refine T.region ?_
  refine R.mvE rfl (by conv => lhs; whnf) ?_
  refine R.len Tryz.underlying24 rfl rfl ?_
  refine R.mvE rfl (by conv => lhs; whnf) ?_
  refine TL.nil (Post.thnN ?_)
  refine T.block ?_
  refine T.loop (ι := Nat) (fun k H' L' ds' => k ≤ xs.length ∧ (xs.take k).any (fun y => decide (y = x)) = false) (fun k => [(0, .slice A xs.length c), (1, .int .i64 x), (7, .slice A xs.length c), (8, .int .i64 xs.length), (9, .int .i64 k)]) (fun k => xs.length - k) (0) ?_ ?_ ?_
  · exact ⟨Nat.zero_le _, rfl⟩
  · exact ⟨rfl, rfl, rfl, rfl, rfl, trivial⟩
  · intro k σ0 H_0 L_0 ds_0 s_0 hI_0
    obtain ⟨hk, hw⟩ := hI_0
    refine T.seq ?_
    refine T.region ?_
    refine R.lss rfl rfl rfl ?_
    refine TL.nil (Post.thnN ?_)
    refine T.seq ?_
    refine T.condD rfl (fun c10 => ?_) (fun c10 => ?_)
    · have hlt : k < xs.length := by omega
      obtain ⟨y, hy⟩ := getk hlt
      refine T.skip (Post.thnN ?_)
      refine T.seq ?_
      refine T.block ?_
      refine T.seq ?_
      refine T.region ?_
      obtain ⟨b11, o11, i11, e11⟩ := (hr.mono s_0).elem (hy)
      refine R.ixp Tryz.underlying24 Tryz.sizeOf3 rfl rfl rfl (by omega) i11 ?_
      refine R.ldC Tryz.isAgg3 rfl rfl (e11).int ?_
      refine R.asE rfl (by conv => lhs; whnf) ?_
      refine TL.nil (Post.thnN ?_)
      refine T.seq ?_
      refine T.region ?_
      refine R.mvE rfl (by conv => lhs; whnf) ?_
      refine R.mvE rfl (by conv => lhs; whnf) ?_
      refine R.eql rfl rfl rfl ?_
      refine TL.nil (Post.thnN ?_)
      refine T.condD rfl (fun c15 => ?_) (fun c15 => ?_)
      · refine T.seq ?_
        refine T.region ?_
        refine R.asE rfl (by conv => lhs; whnf) ?_
        refine TL.nil (Post.thnN ?_)
        refine T.ret (Post.blkR (Post.thnR (Post.thnR (Post.blkR (Post.thnR ?_)))))
        -- way yy
        exact fin1 rfl rfl ⟨rfl, congrArg Value.bool (List.any_eq_true.2 ⟨y, List.mem_of_getElem? hy, decide_eq_true c15⟩).symm⟩
      · refine T.skip (Post.blkN ?_)
        refine id (Post.thnN ?_)
        refine T.region ?_
        refine R.addI rfl rfl rfl (by omega) ?_
        refine R.mvE rfl (by conv => lhs; whnf) ?_
        refine TL.nil (Post.thnN ?_)
        -- round's end, way yn
        exact ⟨k + 1, s_0, ⟨by omega, by rw [take_snoc _ _ _ hy, List.any_append, hw]; simp [c15]⟩, by omega, ⟨rfl, rfl, rfl, rfl, rfl, trivial⟩⟩
    · refine T.exit (Post.thnE (Post.thnE (Post.blkX ?_)))
      refine id (Post.thnN ?_)
      refine T.seq ?_
      refine T.region ?_
      refine R.asE rfl (by conv => lhs; whnf) ?_
      refine TL.nil (Post.thnN ?_)
      refine T.ret ?_
      -- way n
      have hkx : k = xs.length := by omega
      rw [hkx, List.take_length] at hw
      exact fin1 rfl rfl ⟨rfl, congrArg Value.bool hw.symm⟩


set_option maxHeartbeats 1600000 in
theorem put16_c (H : Heap) (v : Value) (xs : List Int) (x : Int) (hr : RdS (intE .i64) H v xs) (hl : xs.length ≤ 100000) : Fp Tryz.prog (fnv 155) [v, .int .i64 x] H (fun v' H' => RdS (intE .i64) H' v' (putL xs x)) := by
  refine Fc.of_body (N := 45) Tryz.func155 rfl (by kernel_rfl) rfl rfl ?_
  intro w0
  obtain ⟨A, c, rfl, hc1, hc2, hr⟩ := hr.shape
  refine T.seq ?_
  refine T.region ?_
  refine R.asE rfl (by conv => lhs; whnf) ?_
  refine TL.nil (Post.thnN ?_)
  refine T.seq ?_
  refine T.region ?_
  refine R.asE rfl (by conv => lhs; whnf) ?_
  refine TL.nil (Post.thnN ?_)
  refine T.seq ?_
  refine T.block ?_
  refine T.loop (ι := Nat) (fun k H' L' ds' => k ≤ xs.length ∧ L' = [] ∧ ds' = [] ∧ ∀ (j : Nat) y, j < k → xs[j]? = some y → y < x) (fun k => [(0, .slice A xs.length c), (1, .int .i64 x), (5, .int .i64 k)]) (fun k => xs.length - k) (0) ?_ ?_ ?_
  · exact ⟨Nat.zero_le _, rfl, rfl, fun j y h => absurd h (Nat.not_lt_zero _)⟩
  · exact ⟨rfl, rfl, rfl, trivial⟩
  · intro k σ0 H_0 L_0 ds_0 s_0 hI_0
    obtain ⟨hk, rfl, rfl, hw⟩ := hI_0
    refine T.seq ?_
    refine T.seq ?_
    refine T.region ?_
    refine R.mvE rfl (by conv => lhs; whnf) ?_
    refine R.mvE rfl (by conv => lhs; whnf) ?_
    refine R.len Tryz.underlying24 rfl rfl ?_
    refine R.lss rfl rfl rfl ?_
    refine R.mvE rfl (by conv => lhs; whnf) ?_
    refine TL.gsplitD 10 rfl (fun g10 => ?_) (fun g10 => ?_)
    · have hlt : k < xs.length := by omega
      obtain ⟨y, hy⟩ := getk hlt
      refine R.mvE rfl (by conv => lhs; whnf) ?_
      refine R.mvE rfl (by conv => lhs; whnf) ?_
      obtain ⟨b13, o13, i13, e13⟩ := (hr.mono s_0).elem (hy)
      refine R.ixp Tryz.underlying24 Tryz.sizeOf3 rfl rfl rfl (by omega) i13 ?_
      refine R.ldC Tryz.isAgg3 rfl rfl (e13).int ?_
      refine R.mvE rfl (by conv => lhs; whnf) ?_
      refine R.lss rfl rfl rfl ?_
      refine R.pkTE rfl rfl (by conv => lhs; whnf) ?_
      refine TL.nil (Post.thnN ?_)
      refine T.condD rfl (fun c17 => ?_) (fun c17 => ?_)
      · refine T.skip (Post.thnN ?_)
        refine T.block ?_
        refine T.region ?_
        refine R.mvE rfl (by conv => lhs; whnf) ?_
        refine R.addI rfl rfl rfl (by omega) ?_
        refine R.asE rfl (by conv => lhs; whnf) ?_
        refine TL.nil (Post.blkN ?_)
        refine id (Post.thnN ?_)
        -- round's end, way yy
        exact ⟨k + 1, s_0, ⟨by omega, rfl, rfl, fun j z h1 h2 => if e : j = k then by subst e; rw [hy] at h2; injection h2 with h2; omega else hw j z (by omega) h2⟩, by omega, ⟨rfl, rfl, rfl, trivial⟩⟩
      · have hkk : putK xs x = k := putK_eq hw hk (fun z hz => by rw [hy] at hz; injection hz with hz; omega)
        refine T.exit (Post.thnE (Post.thnE (Post.blkX ?_)))
        refine id (Post.thnN ?_)
        refine T.seq ?_
        refine T.seq ?_
        refine T.region ?_
        refine R.mvE rfl (by conv => lhs; whnf) ?_
        refine R.mvE rfl (by conv => lhs; whnf) ?_
        refine R.len Tryz.underlying24 rfl rfl ?_
        refine R.lss rfl rfl rfl ?_
        refine R.mvE rfl (by conv => lhs; whnf) ?_
        refine TL.set 24 (.bool true) (congrArg Value.bool (decide_eq_true (by omega))) ?_
        refine R.mvE rfl (by conv => lhs; whnf) ?_
        refine R.mvE rfl (by conv => lhs; whnf) ?_
        obtain ⟨b27, o27, i27, e27⟩ := (hr.mono s_0).elem (hy)
        refine R.ixp Tryz.underlying24 Tryz.sizeOf3 rfl rfl rfl (by omega) i27 ?_
        refine R.ldC Tryz.isAgg3 rfl rfl (e27).int ?_
        refine R.mvE rfl (by conv => lhs; whnf) ?_
        refine R.eql rfl rfl rfl ?_
        refine R.pkTE rfl rfl (by conv => lhs; whnf) ?_
        refine TL.nil (Post.thnN ?_)
        refine T.condD rfl (fun c31 => ?_) (fun c31 => ?_)
        · refine T.seq ?_
          refine T.region ?_
          refine R.mvE rfl (by conv => lhs; whnf) ?_
          refine R.asE rfl (by conv => lhs; whnf) ?_
          refine TL.nil (Post.thnN ?_)
          refine T.ret (Post.thnR ?_)
          -- way yny
          have hpe : putL xs x = xs := by unfold putL; rw [hkk, hy, c31, if_pos rfl]
          exact fin1 rfl rfl ⟨rfl, by rw [hpe]; exact hr.mono s_0⟩
        · refine T.skip (Post.thnN ?_)
          refine T.seq ?_
          refine T.draw Tryz_mixed (by kernel_rfl) ?_
          refine Plan.v 1 [0, 2, 3, 4, 5, 6, 7, 8, 9, 10, 11, 12] (by kernel_rfl) (by kernel_rfl) (by kernel_rfl) (by kernel_rfl) rfl (fun _ _ h_ => R.mvE rfl (by conv => lhs; whnf) (TL.nil h_)) ?_
          refine Plan.v 2 [0, 3, 4, 5, 6, 7, 8, 9, 10, 11, 12] (by kernel_rfl) (by kernel_rfl) (by kernel_rfl) (by kernel_rfl) rfl (fun _ _ h_ => R.mvE rfl (by conv => lhs; whnf) (TL.nil h_)) ?_
          refine Plan.v 3 [0, 4, 5, 6, 7, 8, 9, 10, 11, 12] (by kernel_rfl) (by kernel_rfl) (by kernel_rfl) (by kernel_rfl) rfl (fun _ _ h_ => R.sH Tryz.underlying24 Tryz.sizeOf3 rfl rfl rfl  (by omega) (by omega)  (TL.nil h_)) ?_
          refine Plan.v 5 [0, 4, 6, 7, 8, 9, 10, 11, 12] (by kernel_rfl) (by kernel_rfl) (by kernel_rfl) (by kernel_rfl) rfl (fun _ _ h_ => R.mvE rfl (by conv => lhs; whnf) (TL.nil h_)) ?_
          refine Plan.v 8 [0, 4, 6, 7, 9, 10, 11, 12] (by kernel_rfl) (by kernel_rfl) (by kernel_rfl) (by kernel_rfl) rfl (fun _ _ h_ => R.mvE rfl (by conv => lhs; whnf) (TL.nil h_)) ?_
          refine Plan.v 9 [0, 4, 6, 7, 10, 11, 12] (by kernel_rfl) (by kernel_rfl) (by kernel_rfl) (by kernel_rfl) rfl (fun _ _ h_ => R.mvE rfl (by conv => lhs; whnf) (TL.nil h_)) ?_
          refine Plan.v 10 [0, 4, 6, 7, 11, 12] (by kernel_rfl) (by kernel_rfl) (by kernel_rfl) (by kernel_rfl) rfl (fun _ _ h_ => R.sL Tryz.underlying24 Tryz.sizeOf3 rfl rfl rfl  (by omega) (by omega)  (TL.nil h_)) ?_
          refine Plan.s2 0 6 [4, 6, 7, 11, 12] [0, 4, 7, 11, 12] (by kernel_rfl) (by kernel_rfl) (by kernel_rfl) rfl rfl ?_ ?_
          · refine R.bs0 (E := (intE .i64)) rfl Tryz.underlying24 Tryz.sizeOf3 ?_
            intro v33 c33 w33
            refine TL.nil (Plan.e1 (HLe.refl _) ?_)
            refine Plan.s2 4 6 [6, 7, 11, 12] [4, 7, 11, 12] (by kernel_rfl) (by kernel_rfl) (by kernel_rfl) rfl rfl ?_ ?_
            · obtain ⟨cs37, y37, r37⟩ := Src.rdA ((hr.mono s_0).takeC hk hc1)
              refine R.app Tryz_ty24 rfl rfl rfl w33 (by first | exact .hd | exact .tl .hd | exact .tl (.tl .hd) | exact .tl (.tl (.tl .hd)) | exact .tl (.tl (.tl (.tl .hd))) | exact .tl (.tl (.tl (.tl (.tl .hd)))) | exact .tl (.tl (.tl (.tl (.tl (.tl .hd))))) | exact .tl (.tl (.tl (.tl (.tl (.tl (.tl .hd)))))) | exact .tl (.tl (.tl (.tl (.tl (.tl (.tl (.tl .hd))))))) | exact .tl (.tl (.tl (.tl (.tl (.tl (.tl (.tl (.tl .hd))))))))) (r37 _) y37 (by simp; omega) (by simp; omega) ?_
              intro v37 c37 w37
              rw [List.nil_append] at w37
              refine TL.nil (Plan.e1 (HLe.refl _) ?_)
              refine Plan.s1 6 [7, 11, 12] (by kernel_rfl) (by kernel_rfl) rfl ?_
              refine R.bs rfl (run_buildSlice1 Tryz.underlying24 Tryz.sizeOf3 Tryz.zeroValue3 rfl rfl) ?_
              intro b39
              refine TL.nil (Plan.e1 (HLe.refl _) ?_)
              refine Plan.s1 7 [11, 12] (by kernel_rfl) (by kernel_rfl) rfl ?_
              refine R.app (ys := [x]) Tryz_ty24 rfl rfl rfl w37 (by first | exact .hd | exact .tl .hd | exact .tl (.tl .hd) | exact .tl (.tl (.tl .hd)) | exact .tl (.tl (.tl (.tl .hd))) | exact .tl (.tl (.tl (.tl (.tl .hd)))) | exact .tl (.tl (.tl (.tl (.tl (.tl .hd))))) | exact .tl (.tl (.tl (.tl (.tl (.tl (.tl .hd)))))) | exact .tl (.tl (.tl (.tl (.tl (.tl (.tl (.tl .hd))))))) | exact .tl (.tl (.tl (.tl (.tl (.tl (.tl (.tl (.tl .hd))))))))) (Src.lit (vs := [.int .i64 x]) (by first | exact .hd | exact .tl .hd | exact .tl (.tl .hd) | exact .tl (.tl (.tl .hd)) | exact .tl (.tl (.tl (.tl .hd))) | exact .tl (.tl (.tl (.tl (.tl .hd)))) | exact .tl (.tl (.tl (.tl (.tl (.tl .hd))))) | exact .tl (.tl (.tl (.tl (.tl (.tl (.tl .hd)))))) | exact .tl (.tl (.tl (.tl (.tl (.tl (.tl (.tl .hd))))))) | exact .tl (.tl (.tl (.tl (.tl (.tl (.tl (.tl (.tl .hd)))))))))) ⟨[.int .i64 x], [], rfl, rfl, rfl⟩ (by simp; omega) (by simp; omega) ?_
              intro v40 c40 w40
              refine TL.nil (Plan.e1 (HLe.refl _) ?_)
              refine Plan.s1 11 [12] (by kernel_rfl) (by kernel_rfl) rfl ?_
              obtain ⟨cs44, y44, r44⟩ := Src.rdA ((hr.mono s_0).drop hk hc1)
              refine R.app Tryz_ty24 rfl rfl rfl w40 (by first | exact .hd | exact .tl .hd | exact .tl (.tl .hd) | exact .tl (.tl (.tl .hd)) | exact .tl (.tl (.tl (.tl .hd))) | exact .tl (.tl (.tl (.tl (.tl .hd)))) | exact .tl (.tl (.tl (.tl (.tl (.tl .hd))))) | exact .tl (.tl (.tl (.tl (.tl (.tl (.tl .hd)))))) | exact .tl (.tl (.tl (.tl (.tl (.tl (.tl (.tl .hd))))))) | exact .tl (.tl (.tl (.tl (.tl (.tl (.tl (.tl (.tl .hd))))))))) (r44 _) y44 (by simp; omega) (by simp; omega) ?_
              intro v44 c44 w44
              refine TL.shut .hd ?_
              intro H44 s44 q44
              have hw44 := w44.read s44 q44
              refine TL.nil (Plan.e1 (s44) ?_)
              refine Plan.v 12 [] (by kernel_rfl) (by kernel_rfl) (by kernel_rfl) (by kernel_rfl) rfl (fun _ _ h_ => R.asE rfl (by conv => lhs; whnf) (TL.nil h_)) ?_
              refine Plan.done (Post.thnN ?_)
              refine T.ret ?_
              -- way ynn00
              have hpe : putL xs x = xs.take k ++ [x] ++ xs.drop k := by unfold putL; rw [hkk, if_neg (by rw [hy]; simp; omega)]
              exact fin1 rfl rfl ⟨rfl, by rw [hpe]; exact hw44⟩
            · refine R.bs rfl (run_buildSlice1 Tryz.underlying24 Tryz.sizeOf3 Tryz.zeroValue3 rfl rfl) ?_
              intro b39
              refine TL.nil (Plan.e1 (HLe.refl _) ?_)
              refine Plan.s1 4 [7, 11, 12] (by kernel_rfl) (by kernel_rfl) rfl ?_
              obtain ⟨cs37, y37, r37⟩ := Src.rdA ((hr.mono s_0).takeC hk hc1)
              refine R.app Tryz_ty24 rfl rfl rfl w33 (by first | exact .hd | exact .tl .hd | exact .tl (.tl .hd) | exact .tl (.tl (.tl .hd)) | exact .tl (.tl (.tl (.tl .hd))) | exact .tl (.tl (.tl (.tl (.tl .hd)))) | exact .tl (.tl (.tl (.tl (.tl (.tl .hd))))) | exact .tl (.tl (.tl (.tl (.tl (.tl (.tl .hd)))))) | exact .tl (.tl (.tl (.tl (.tl (.tl (.tl (.tl .hd))))))) | exact .tl (.tl (.tl (.tl (.tl (.tl (.tl (.tl (.tl .hd))))))))) (r37 _) y37 (by simp; omega) (by simp; omega) ?_
              intro v37 c37 w37
              rw [List.nil_append] at w37
              refine TL.nil (Plan.e1 (HLe.refl _) ?_)
              refine Plan.s1 7 [11, 12] (by kernel_rfl) (by kernel_rfl) rfl ?_
              refine R.app (ys := [x]) Tryz_ty24 rfl rfl rfl w37 (by first | exact .hd | exact .tl .hd | exact .tl (.tl .hd) | exact .tl (.tl (.tl .hd)) | exact .tl (.tl (.tl (.tl .hd))) | exact .tl (.tl (.tl (.tl (.tl .hd)))) | exact .tl (.tl (.tl (.tl (.tl (.tl .hd))))) | exact .tl (.tl (.tl (.tl (.tl (.tl (.tl .hd)))))) | exact .tl (.tl (.tl (.tl (.tl (.tl (.tl (.tl .hd))))))) | exact .tl (.tl (.tl (.tl (.tl (.tl (.tl (.tl (.tl .hd))))))))) (Src.lit (vs := [.int .i64 x]) (by first | exact .hd | exact .tl .hd | exact .tl (.tl .hd) | exact .tl (.tl (.tl .hd)) | exact .tl (.tl (.tl (.tl .hd))) | exact .tl (.tl (.tl (.tl (.tl .hd)))) | exact .tl (.tl (.tl (.tl (.tl (.tl .hd))))) | exact .tl (.tl (.tl (.tl (.tl (.tl (.tl .hd)))))) | exact .tl (.tl (.tl (.tl (.tl (.tl (.tl (.tl .hd))))))) | exact .tl (.tl (.tl (.tl (.tl (.tl (.tl (.tl (.tl .hd)))))))))) ⟨[.int .i64 x], [], rfl, rfl, rfl⟩ (by simp; omega) (by simp; omega) ?_
              intro v40 c40 w40
              refine TL.nil (Plan.e1 (HLe.refl _) ?_)
              refine Plan.s1 11 [12] (by kernel_rfl) (by kernel_rfl) rfl ?_
              obtain ⟨cs44, y44, r44⟩ := Src.rdA ((hr.mono s_0).drop hk hc1)
              refine R.app Tryz_ty24 rfl rfl rfl w40 (by first | exact .hd | exact .tl .hd | exact .tl (.tl .hd) | exact .tl (.tl (.tl .hd)) | exact .tl (.tl (.tl (.tl .hd))) | exact .tl (.tl (.tl (.tl (.tl .hd)))) | exact .tl (.tl (.tl (.tl (.tl (.tl .hd))))) | exact .tl (.tl (.tl (.tl (.tl (.tl (.tl .hd)))))) | exact .tl (.tl (.tl (.tl (.tl (.tl (.tl (.tl .hd))))))) | exact .tl (.tl (.tl (.tl (.tl (.tl (.tl (.tl (.tl .hd))))))))) (r44 _) y44 (by simp; omega) (by simp; omega) ?_
              intro v44 c44 w44
              refine TL.shut .hd ?_
              intro H44 s44 q44
              have hw44 := w44.read s44 q44
              refine TL.nil (Plan.e1 (s44) ?_)
              refine Plan.v 12 [] (by kernel_rfl) (by kernel_rfl) (by kernel_rfl) (by kernel_rfl) rfl (fun _ _ h_ => R.asE rfl (by conv => lhs; whnf) (TL.nil h_)) ?_
              refine Plan.done (Post.thnN ?_)
              refine T.ret ?_
              -- way ynn01
              have hpe : putL xs x = xs.take k ++ [x] ++ xs.drop k := by unfold putL; rw [hkk, if_neg (by rw [hy]; simp; omega)]
              exact fin1 rfl rfl ⟨rfl, by rw [hpe]; exact hw44⟩
          · refine R.bs rfl (run_buildSlice1 Tryz.underlying24 Tryz.sizeOf3 Tryz.zeroValue3 rfl rfl) ?_
            intro b39
            refine TL.nil (Plan.e1 (HLe.refl _) ?_)
            refine Plan.s1 0 [4, 7, 11, 12] (by kernel_rfl) (by kernel_rfl) rfl ?_
            refine R.bs0 (E := (intE .i64)) rfl Tryz.underlying24 Tryz.sizeOf3 ?_
            intro v33 c33 w33
            refine TL.nil (Plan.e1 (HLe.refl _) ?_)
            refine Plan.s1 4 [7, 11, 12] (by kernel_rfl) (by kernel_rfl) rfl ?_
            obtain ⟨cs37, y37, r37⟩ := Src.rdA ((hr.mono s_0).takeC hk hc1)
            refine R.app Tryz_ty24 rfl rfl rfl w33 (by first | exact .hd | exact .tl .hd | exact .tl (.tl .hd) | exact .tl (.tl (.tl .hd)) | exact .tl (.tl (.tl (.tl .hd))) | exact .tl (.tl (.tl (.tl (.tl .hd)))) | exact .tl (.tl (.tl (.tl (.tl (.tl .hd))))) | exact .tl (.tl (.tl (.tl (.tl (.tl (.tl .hd)))))) | exact .tl (.tl (.tl (.tl (.tl (.tl (.tl (.tl .hd))))))) | exact .tl (.tl (.tl (.tl (.tl (.tl (.tl (.tl (.tl .hd))))))))) (r37 _) y37 (by simp; omega) (by simp; omega) ?_
            intro v37 c37 w37
            rw [List.nil_append] at w37
            refine TL.nil (Plan.e1 (HLe.refl _) ?_)
            refine Plan.s1 7 [11, 12] (by kernel_rfl) (by kernel_rfl) rfl ?_
            refine R.app (ys := [x]) Tryz_ty24 rfl rfl rfl w37 (by first | exact .hd | exact .tl .hd | exact .tl (.tl .hd) | exact .tl (.tl (.tl .hd)) | exact .tl (.tl (.tl (.tl .hd))) | exact .tl (.tl (.tl (.tl (.tl .hd)))) | exact .tl (.tl (.tl (.tl (.tl (.tl .hd))))) | exact .tl (.tl (.tl (.tl (.tl (.tl (.tl .hd)))))) | exact .tl (.tl (.tl (.tl (.tl (.tl (.tl (.tl .hd))))))) | exact .tl (.tl (.tl (.tl (.tl (.tl (.tl (.tl (.tl .hd))))))))) (Src.lit (vs := [.int .i64 x]) (by first | exact .hd | exact .tl .hd | exact .tl (.tl .hd) | exact .tl (.tl (.tl .hd)) | exact .tl (.tl (.tl (.tl .hd))) | exact .tl (.tl (.tl (.tl (.tl .hd)))) | exact .tl (.tl (.tl (.tl (.tl (.tl .hd))))) | exact .tl (.tl (.tl (.tl (.tl (.tl (.tl .hd)))))) | exact .tl (.tl (.tl (.tl (.tl (.tl (.tl (.tl .hd))))))) | exact .tl (.tl (.tl (.tl (.tl (.tl (.tl (.tl (.tl .hd)))))))))) ⟨[.int .i64 x], [], rfl, rfl, rfl⟩ (by simp; omega) (by simp; omega) ?_
            intro v40 c40 w40
            refine TL.nil (Plan.e1 (HLe.refl _) ?_)
            refine Plan.s1 11 [12] (by kernel_rfl) (by kernel_rfl) rfl ?_
            obtain ⟨cs44, y44, r44⟩ := Src.rdA ((hr.mono s_0).drop hk hc1)
            refine R.app Tryz_ty24 rfl rfl rfl w40 (by first | exact .hd | exact .tl .hd | exact .tl (.tl .hd) | exact .tl (.tl (.tl .hd)) | exact .tl (.tl (.tl (.tl .hd))) | exact .tl (.tl (.tl (.tl (.tl .hd)))) | exact .tl (.tl (.tl (.tl (.tl (.tl .hd))))) | exact .tl (.tl (.tl (.tl (.tl (.tl (.tl .hd)))))) | exact .tl (.tl (.tl (.tl (.tl (.tl (.tl (.tl .hd))))))) | exact .tl (.tl (.tl (.tl (.tl (.tl (.tl (.tl (.tl .hd))))))))) (r44 _) y44 (by simp; omega) (by simp; omega) ?_
            intro v44 c44 w44
            refine TL.shut .hd ?_
            intro H44 s44 q44
            have hw44 := w44.read s44 q44
            refine TL.nil (Plan.e1 (s44) ?_)
            refine Plan.v 12 [] (by kernel_rfl) (by kernel_rfl) (by kernel_rfl) (by kernel_rfl) rfl (fun _ _ h_ => R.asE rfl (by conv => lhs; whnf) (TL.nil h_)) ?_
            refine Plan.done (Post.thnN ?_)
            refine T.ret ?_
            -- way ynn1
            have hpe : putL xs x = xs.take k ++ [x] ++ xs.drop k := by unfold putL; rw [hkk, if_neg (by rw [hy]; simp; omega)]
            exact fin1 rfl rfl ⟨rfl, by rw [hpe]; exact hw44⟩
    · have hkk : putK xs x = k := putK_eq hw hk (fun z hz => absurd (List.getElem?_eq_some_iff.1 hz).1 (by omega))
      have hnk : xs[k]? = none := List.getElem?_eq_none (by omega)
      refine TL.off rfl rfl rfl ?_
      refine TL.off rfl rfl rfl ?_
      refine TL.off rfl rfl rfl ?_
      refine TL.off rfl rfl rfl ?_
      refine TL.off rfl rfl rfl ?_
      refine TL.off rfl rfl rfl ?_
      refine R.pkFE rfl rfl (by conv => lhs; whnf) ?_
      refine TL.nil (Post.thnN ?_)
      refine T.condN rfl ?_
      refine T.exit (Post.thnE (Post.thnE (Post.blkX ?_)))
      refine id (Post.thnN ?_)
      refine T.seq ?_
      refine T.seq ?_
      refine T.region ?_
      refine R.mvE rfl (by conv => lhs; whnf) ?_
      refine R.mvE rfl (by conv => lhs; whnf) ?_
      refine R.len Tryz.underlying24 rfl rfl ?_
      refine R.lss rfl rfl rfl ?_
      refine R.mvE rfl (by conv => lhs; whnf) ?_
      refine TL.set 24 (.bool false) (congrArg Value.bool (decide_eq_false (by omega))) ?_
      refine TL.off rfl rfl rfl ?_
      refine TL.off rfl rfl rfl ?_
      refine TL.off rfl rfl rfl ?_
      refine TL.off rfl rfl rfl ?_
      refine TL.off rfl rfl rfl ?_
      refine TL.off rfl rfl rfl ?_
      refine R.pkFE rfl rfl (by conv => lhs; whnf) ?_
      refine TL.nil (Post.thnN ?_)
      refine T.condN rfl ?_
      refine T.skip (Post.thnN ?_)
      refine T.seq ?_
      refine T.draw Tryz_mixed (by kernel_rfl) ?_
      refine Plan.v 1 [0, 2, 3, 4, 5, 6, 7, 8, 9, 10, 11, 12] (by kernel_rfl) (by kernel_rfl) (by kernel_rfl) (by kernel_rfl) rfl (fun _ _ h_ => R.mvE rfl (by conv => lhs; whnf) (TL.nil h_)) ?_
      refine Plan.v 2 [0, 3, 4, 5, 6, 7, 8, 9, 10, 11, 12] (by kernel_rfl) (by kernel_rfl) (by kernel_rfl) (by kernel_rfl) rfl (fun _ _ h_ => R.mvE rfl (by conv => lhs; whnf) (TL.nil h_)) ?_
      refine Plan.v 3 [0, 4, 5, 6, 7, 8, 9, 10, 11, 12] (by kernel_rfl) (by kernel_rfl) (by kernel_rfl) (by kernel_rfl) rfl (fun _ _ h_ => R.sH Tryz.underlying24 Tryz.sizeOf3 rfl rfl rfl  (by omega) (by omega)  (TL.nil h_)) ?_
      refine Plan.v 5 [0, 4, 6, 7, 8, 9, 10, 11, 12] (by kernel_rfl) (by kernel_rfl) (by kernel_rfl) (by kernel_rfl) rfl (fun _ _ h_ => R.mvE rfl (by conv => lhs; whnf) (TL.nil h_)) ?_
      refine Plan.v 8 [0, 4, 6, 7, 9, 10, 11, 12] (by kernel_rfl) (by kernel_rfl) (by kernel_rfl) (by kernel_rfl) rfl (fun _ _ h_ => R.mvE rfl (by conv => lhs; whnf) (TL.nil h_)) ?_
      refine Plan.v 9 [0, 4, 6, 7, 10, 11, 12] (by kernel_rfl) (by kernel_rfl) (by kernel_rfl) (by kernel_rfl) rfl (fun _ _ h_ => R.mvE rfl (by conv => lhs; whnf) (TL.nil h_)) ?_
      refine Plan.v 10 [0, 4, 6, 7, 11, 12] (by kernel_rfl) (by kernel_rfl) (by kernel_rfl) (by kernel_rfl) rfl (fun _ _ h_ => R.sL Tryz.underlying24 Tryz.sizeOf3 rfl rfl rfl  (by omega) (by omega)  (TL.nil h_)) ?_
      refine Plan.s2 0 6 [4, 6, 7, 11, 12] [0, 4, 7, 11, 12] (by kernel_rfl) (by kernel_rfl) (by kernel_rfl) rfl rfl ?_ ?_
      · refine R.bs0 (E := (intE .i64)) rfl Tryz.underlying24 Tryz.sizeOf3 ?_
        intro v33 c33 w33
        refine TL.nil (Plan.e1 (HLe.refl _) ?_)
        refine Plan.s2 4 6 [6, 7, 11, 12] [4, 7, 11, 12] (by kernel_rfl) (by kernel_rfl) (by kernel_rfl) rfl rfl ?_ ?_
        · obtain ⟨cs37, y37, r37⟩ := Src.rdA ((hr.mono s_0).takeC hk hc1)
          refine R.app Tryz_ty24 rfl rfl rfl w33 (by first | exact .hd | exact .tl .hd | exact .tl (.tl .hd) | exact .tl (.tl (.tl .hd)) | exact .tl (.tl (.tl (.tl .hd))) | exact .tl (.tl (.tl (.tl (.tl .hd)))) | exact .tl (.tl (.tl (.tl (.tl (.tl .hd))))) | exact .tl (.tl (.tl (.tl (.tl (.tl (.tl .hd)))))) | exact .tl (.tl (.tl (.tl (.tl (.tl (.tl (.tl .hd))))))) | exact .tl (.tl (.tl (.tl (.tl (.tl (.tl (.tl (.tl .hd))))))))) (r37 _) y37 (by simp; omega) (by simp; omega) ?_
          intro v37 c37 w37
          rw [List.nil_append] at w37
          refine TL.nil (Plan.e1 (HLe.refl _) ?_)
          refine Plan.s1 6 [7, 11, 12] (by kernel_rfl) (by kernel_rfl) rfl ?_
          refine R.bs rfl (run_buildSlice1 Tryz.underlying24 Tryz.sizeOf3 Tryz.zeroValue3 rfl rfl) ?_
          intro b39
          refine TL.nil (Plan.e1 (HLe.refl _) ?_)
          refine Plan.s1 7 [11, 12] (by kernel_rfl) (by kernel_rfl) rfl ?_
          refine R.app (ys := [x]) Tryz_ty24 rfl rfl rfl w37 (by first | exact .hd | exact .tl .hd | exact .tl (.tl .hd) | exact .tl (.tl (.tl .hd)) | exact .tl (.tl (.tl (.tl .hd))) | exact .tl (.tl (.tl (.tl (.tl .hd)))) | exact .tl (.tl (.tl (.tl (.tl (.tl .hd))))) | exact .tl (.tl (.tl (.tl (.tl (.tl (.tl .hd)))))) | exact .tl (.tl (.tl (.tl (.tl (.tl (.tl (.tl .hd))))))) | exact .tl (.tl (.tl (.tl (.tl (.tl (.tl (.tl (.tl .hd))))))))) (Src.lit (vs := [.int .i64 x]) (by first | exact .hd | exact .tl .hd | exact .tl (.tl .hd) | exact .tl (.tl (.tl .hd)) | exact .tl (.tl (.tl (.tl .hd))) | exact .tl (.tl (.tl (.tl (.tl .hd)))) | exact .tl (.tl (.tl (.tl (.tl (.tl .hd))))) | exact .tl (.tl (.tl (.tl (.tl (.tl (.tl .hd)))))) | exact .tl (.tl (.tl (.tl (.tl (.tl (.tl (.tl .hd))))))) | exact .tl (.tl (.tl (.tl (.tl (.tl (.tl (.tl (.tl .hd)))))))))) ⟨[.int .i64 x], [], rfl, rfl, rfl⟩ (by simp; omega) (by simp; omega) ?_
          intro v40 c40 w40
          refine TL.nil (Plan.e1 (HLe.refl _) ?_)
          refine Plan.s1 11 [12] (by kernel_rfl) (by kernel_rfl) rfl ?_
          obtain ⟨cs44, y44, r44⟩ := Src.rdA ((hr.mono s_0).drop hk hc1)
          refine R.app Tryz_ty24 rfl rfl rfl w40 (by first | exact .hd | exact .tl .hd | exact .tl (.tl .hd) | exact .tl (.tl (.tl .hd)) | exact .tl (.tl (.tl (.tl .hd))) | exact .tl (.tl (.tl (.tl (.tl .hd)))) | exact .tl (.tl (.tl (.tl (.tl (.tl .hd))))) | exact .tl (.tl (.tl (.tl (.tl (.tl (.tl .hd)))))) | exact .tl (.tl (.tl (.tl (.tl (.tl (.tl (.tl .hd))))))) | exact .tl (.tl (.tl (.tl (.tl (.tl (.tl (.tl (.tl .hd))))))))) (r44 _) y44 (by simp; omega) (by simp; omega) ?_
          intro v44 c44 w44
          refine TL.shut .hd ?_
          intro H44 s44 q44
          have hw44 := w44.read s44 q44
          refine TL.nil (Plan.e1 (s44) ?_)
          refine Plan.v 12 [] (by kernel_rfl) (by kernel_rfl) (by kernel_rfl) (by kernel_rfl) rfl (fun _ _ h_ => R.asE rfl (by conv => lhs; whnf) (TL.nil h_)) ?_
          refine Plan.done (Post.thnN ?_)
          refine T.ret ?_
          -- way n00
          have hpe : putL xs x = xs.take k ++ [x] ++ xs.drop k := by unfold putL; rw [hkk, if_neg (by rw [hnk]; simp)]
          exact fin1 rfl rfl ⟨rfl, by rw [hpe]; exact hw44⟩
        · refine R.bs rfl (run_buildSlice1 Tryz.underlying24 Tryz.sizeOf3 Tryz.zeroValue3 rfl rfl) ?_
          intro b39
          refine TL.nil (Plan.e1 (HLe.refl _) ?_)
          refine Plan.s1 4 [7, 11, 12] (by kernel_rfl) (by kernel_rfl) rfl ?_
          obtain ⟨cs37, y37, r37⟩ := Src.rdA ((hr.mono s_0).takeC hk hc1)
          refine R.app Tryz_ty24 rfl rfl rfl w33 (by first | exact .hd | exact .tl .hd | exact .tl (.tl .hd) | exact .tl (.tl (.tl .hd)) | exact .tl (.tl (.tl (.tl .hd))) | exact .tl (.tl (.tl (.tl (.tl .hd)))) | exact .tl (.tl (.tl (.tl (.tl (.tl .hd))))) | exact .tl (.tl (.tl (.tl (.tl (.tl (.tl .hd)))))) | exact .tl (.tl (.tl (.tl (.tl (.tl (.tl (.tl .hd))))))) | exact .tl (.tl (.tl (.tl (.tl (.tl (.tl (.tl (.tl .hd))))))))) (r37 _) y37 (by simp; omega) (by simp; omega) ?_
          intro v37 c37 w37
          rw [List.nil_append] at w37
          refine TL.nil (Plan.e1 (HLe.refl _) ?_)
          refine Plan.s1 7 [11, 12] (by kernel_rfl) (by kernel_rfl) rfl ?_
          refine R.app (ys := [x]) Tryz_ty24 rfl rfl rfl w37 (by first | exact .hd | exact .tl .hd | exact .tl (.tl .hd) | exact .tl (.tl (.tl .hd)) | exact .tl (.tl (.tl (.tl .hd))) | exact .tl (.tl (.tl (.tl (.tl .hd)))) | exact .tl (.tl (.tl (.tl (.tl (.tl .hd))))) | exact .tl (.tl (.tl (.tl (.tl (.tl (.tl .hd)))))) | exact .tl (.tl (.tl (.tl (.tl (.tl (.tl (.tl .hd))))))) | exact .tl (.tl (.tl (.tl (.tl (.tl (.tl (.tl (.tl .hd))))))))) (Src.lit (vs := [.int .i64 x]) (by first | exact .hd | exact .tl .hd | exact .tl (.tl .hd) | exact .tl (.tl (.tl .hd)) | exact .tl (.tl (.tl (.tl .hd))) | exact .tl (.tl (.tl (.tl (.tl .hd)))) | exact .tl (.tl (.tl (.tl (.tl (.tl .hd))))) | exact .tl (.tl (.tl (.tl (.tl (.tl (.tl .hd)))))) | exact .tl (.tl (.tl (.tl (.tl (.tl (.tl (.tl .hd))))))) | exact .tl (.tl (.tl (.tl (.tl (.tl (.tl (.tl (.tl .hd)))))))))) ⟨[.int .i64 x], [], rfl, rfl, rfl⟩ (by simp; omega) (by simp; omega) ?_
          intro v40 c40 w40
          refine TL.nil (Plan.e1 (HLe.refl _) ?_)
          refine Plan.s1 11 [12] (by kernel_rfl) (by kernel_rfl) rfl ?_
          obtain ⟨cs44, y44, r44⟩ := Src.rdA ((hr.mono s_0).drop hk hc1)
          refine R.app Tryz_ty24 rfl rfl rfl w40 (by first | exact .hd | exact .tl .hd | exact .tl (.tl .hd) | exact .tl (.tl (.tl .hd)) | exact .tl (.tl (.tl (.tl .hd))) | exact .tl (.tl (.tl (.tl (.tl .hd)))) | exact .tl (.tl (.tl (.tl (.tl (.tl .hd))))) | exact .tl (.tl (.tl (.tl (.tl (.tl (.tl .hd)))))) | exact .tl (.tl (.tl (.tl (.tl (.tl (.tl (.tl .hd))))))) | exact .tl (.tl (.tl (.tl (.tl (.tl (.tl (.tl (.tl .hd))))))))) (r44 _) y44 (by simp; omega) (by simp; omega) ?_
          intro v44 c44 w44
          refine TL.shut .hd ?_
          intro H44 s44 q44
          have hw44 := w44.read s44 q44
          refine TL.nil (Plan.e1 (s44) ?_)
          refine Plan.v 12 [] (by kernel_rfl) (by kernel_rfl) (by kernel_rfl) (by kernel_rfl) rfl (fun _ _ h_ => R.asE rfl (by conv => lhs; whnf) (TL.nil h_)) ?_
          refine Plan.done (Post.thnN ?_)
          refine T.ret ?_
          -- way n01
          have hpe : putL xs x = xs.take k ++ [x] ++ xs.drop k := by unfold putL; rw [hkk, if_neg (by rw [hnk]; simp)]
          exact fin1 rfl rfl ⟨rfl, by rw [hpe]; exact hw44⟩
      · refine R.bs rfl (run_buildSlice1 Tryz.underlying24 Tryz.sizeOf3 Tryz.zeroValue3 rfl rfl) ?_
        intro b39
        refine TL.nil (Plan.e1 (HLe.refl _) ?_)
        refine Plan.s1 0 [4, 7, 11, 12] (by kernel_rfl) (by kernel_rfl) rfl ?_
        refine R.bs0 (E := (intE .i64)) rfl Tryz.underlying24 Tryz.sizeOf3 ?_
        intro v33 c33 w33
        refine TL.nil (Plan.e1 (HLe.refl _) ?_)
        refine Plan.s1 4 [7, 11, 12] (by kernel_rfl) (by kernel_rfl) rfl ?_
        obtain ⟨cs37, y37, r37⟩ := Src.rdA ((hr.mono s_0).takeC hk hc1)
        refine R.app Tryz_ty24 rfl rfl rfl w33 (by first | exact .hd | exact .tl .hd | exact .tl (.tl .hd) | exact .tl (.tl (.tl .hd)) | exact .tl (.tl (.tl (.tl .hd))) | exact .tl (.tl (.tl (.tl (.tl .hd)))) | exact .tl (.tl (.tl (.tl (.tl (.tl .hd))))) | exact .tl (.tl (.tl (.tl (.tl (.tl (.tl .hd)))))) | exact .tl (.tl (.tl (.tl (.tl (.tl (.tl (.tl .hd))))))) | exact .tl (.tl (.tl (.tl (.tl (.tl (.tl (.tl (.tl .hd))))))))) (r37 _) y37 (by simp; omega) (by simp; omega) ?_
        intro v37 c37 w37
        rw [List.nil_append] at w37
        refine TL.nil (Plan.e1 (HLe.refl _) ?_)
        refine Plan.s1 7 [11, 12] (by kernel_rfl) (by kernel_rfl) rfl ?_
        refine R.app (ys := [x]) Tryz_ty24 rfl rfl rfl w37 (by first | exact .hd | exact .tl .hd | exact .tl (.tl .hd) | exact .tl (.tl (.tl .hd)) | exact .tl (.tl (.tl (.tl .hd))) | exact .tl (.tl (.tl (.tl (.tl .hd)))) | exact .tl (.tl (.tl (.tl (.tl (.tl .hd))))) | exact .tl (.tl (.tl (.tl (.tl (.tl (.tl .hd)))))) | exact .tl (.tl (.tl (.tl (.tl (.tl (.tl (.tl .hd))))))) | exact .tl (.tl (.tl (.tl (.tl (.tl (.tl (.tl (.tl .hd))))))))) (Src.lit (vs := [.int .i64 x]) (by first | exact .hd | exact .tl .hd | exact .tl (.tl .hd) | exact .tl (.tl (.tl .hd)) | exact .tl (.tl (.tl (.tl .hd))) | exact .tl (.tl (.tl (.tl (.tl .hd)))) | exact .tl (.tl (.tl (.tl (.tl (.tl .hd))))) | exact .tl (.tl (.tl (.tl (.tl (.tl (.tl .hd)))))) | exact .tl (.tl (.tl (.tl (.tl (.tl (.tl (.tl .hd))))))) | exact .tl (.tl (.tl (.tl (.tl (.tl (.tl (.tl (.tl .hd)))))))))) ⟨[.int .i64 x], [], rfl, rfl, rfl⟩ (by simp; omega) (by simp; omega) ?_
        intro v40 c40 w40
        refine TL.nil (Plan.e1 (HLe.refl _) ?_)
        refine Plan.s1 11 [12] (by kernel_rfl) (by kernel_rfl) rfl ?_
        obtain ⟨cs44, y44, r44⟩ := Src.rdA ((hr.mono s_0).drop hk hc1)
        refine R.app Tryz_ty24 rfl rfl rfl w40 (by first | exact .hd | exact .tl .hd | exact .tl (.tl .hd) | exact .tl (.tl (.tl .hd)) | exact .tl (.tl (.tl (.tl .hd))) | exact .tl (.tl (.tl (.tl (.tl .hd)))) | exact .tl (.tl (.tl (.tl (.tl (.tl .hd))))) | exact .tl (.tl (.tl (.tl (.tl (.tl (.tl .hd)))))) | exact .tl (.tl (.tl (.tl (.tl (.tl (.tl (.tl .hd))))))) | exact .tl (.tl (.tl (.tl (.tl (.tl (.tl (.tl (.tl .hd))))))))) (r44 _) y44 (by simp; omega) (by simp; omega) ?_
        intro v44 c44 w44
        refine TL.shut .hd ?_
        intro H44 s44 q44
        have hw44 := w44.read s44 q44
        refine TL.nil (Plan.e1 (s44) ?_)
        refine Plan.v 12 [] (by kernel_rfl) (by kernel_rfl) (by kernel_rfl) (by kernel_rfl) rfl (fun _ _ h_ => R.asE rfl (by conv => lhs; whnf) (TL.nil h_)) ?_
        refine Plan.done (Post.thnN ?_)
        refine T.ret ?_
        -- way n1
        have hpe : putL xs x = xs.take k ++ [x] ++ xs.drop k := by unfold putL; rw [hkk, if_neg (by rw [hnk]; simp)]
        exact fin1 rfl rfl ⟨rfl, by rw [hpe]; exact hw44⟩


set_option maxHeartbeats 1600000 in
theorem to16_c (H : Heap) (v : Value) (xs : List Lk) (x : Int) (hr : RdS pairE H v xs) (hl : xs.length ≤ 100000) : Fp Tryz.prog (fnv 85) [v, .int .i64 x] H (fun v' H' => RdS (intE .i64) H' v' (toL xs x)) := by
  refine Fc.of_body (N := 29) Tryz.func85 rfl (by kernel_rfl) rfl rfl ?_
  intro w0
  obtain ⟨A, c, rfl, hc1, hc2, hr⟩ := hr.shape
  refine T.seq ?_
  refine T.region ?_
  refine R.asE rfl (by conv => lhs; whnf) ?_
  refine TL.nil (Post.thnN ?_)
  refine T.seq ?_
  refine T.region ?_
  refine R.asE rfl (by conv => lhs; whnf) ?_
  refine TL.nil (Post.thnN ?_)
  refine T.seq ?_
  refine T.seq ?_
  refine T.nilc ?_
  refine T.region ?_
  refine R.mvE rfl (by conv => lhs; whnf) ?_
  refine R.len Tryz.underlying22 rfl rfl ?_
  refine R.mvE rfl (by conv => lhs; whnf) ?_
  refine TL.nil (Post.thnN ?_)
  refine T.block ?_
  refine T.loop (ι := Nat × Value × Chunk) (fun q H' L' ds' => q.1 ≤ xs.length ∧ L' = [q.2.2] ∧ ds' = [] ∧ OwnS (intE .i64) 3 H' q.2.1 (((xs.take q.1).filter (fun y => decide (y.1 = x) && chainB xs)).map (fun y => y.2)) q.2.2) (fun q => [(0, .slice A xs.length c), (1, .int .i64 x), (5, q.2.1), (8, .slice A xs.length c), (9, .int .i64 xs.length), (10, .int .i64 q.1)]) (fun q => xs.length - q.1) ((0, .slice none 0 0, [])) ?_ ?_ ?_
  · exact ⟨Nat.zero_le _, rfl, rfl, OwnS.nil⟩
  · exact ⟨rfl, rfl, rfl, rfl, rfl, rfl, trivial⟩
  · intro q σ0 H_0 L_0 ds_0 s_0 hI_0
    obtain ⟨hk, rfl, rfl, ho⟩ := hI_0
    refine T.seq ?_
    refine T.region ?_
    refine R.lss rfl rfl rfl ?_
    refine TL.nil (Post.thnN ?_)
    refine T.seq ?_
    refine T.condD rfl (fun c11 => ?_) (fun c11 => ?_)
    · have hlt : q.1 < xs.length := by omega
      obtain ⟨y, hy⟩ := getk hlt
      refine T.skip (Post.thnN ?_)
      refine T.seq ?_
      refine T.block ?_
      refine T.seq ?_
      refine T.region ?_
      obtain ⟨b12, o12, i12, e12⟩ := (hr.mono s_0).elem (hy)
      refine R.ixp Tryz.underlying22 Tryz.sizeOf45 rfl rfl rfl (by omega) i12 ?_
      refine R.ldP Tryz.isAgg45 Tryz.sizeOf45 rfl rfl (e12) ?_
      refine R.alloc Tryz.zeroValue45 rfl ?_
      intro b7
      refine R.stA (old := [.int .i64 0, .int .i64 0]) Tryz.sizeOf45 rfl rfl rfl rfl rfl (by intro v hv; simp at hv; rcases hv with rfl | rfl <;> rfl) .hd ?_
      refine TL.nil (Post.thnN ?_)
      refine T.seq ?_
      refine T.shut .hd ?_
      intro H7 s7 q7
      have h7 : H7 b7 = some (.cells #[.int .i64 y.1, .int .i64 y.2] 45) := shut1 q7
      refine T.region ?_
      refine R.fldA Tryz.underlying45 rfl Tryz.sizeOf3 (by decide) rfl rfl ?_
      refine R.ldH Tryz.isAgg3 rfl rfl (h7) rfl ?_
      refine R.mvE rfl (by conv => lhs; whnf) ?_
      refine R.eql rfl rfl rfl ?_
      refine R.mvE rfl (by conv => lhs; whnf) ?_
      refine TL.gsplitD 18 rfl (fun g18 => ?_) (fun g18 => ?_)
      · refine R.mvE rfl (by conv => lhs; whnf) ?_
        refine R.callv rfl rfl rfl (rright_c _ _ _ ((hr.mono s_0).mono s7)) ?_
        refine R.pkTE rfl rfl (by conv => lhs; whnf) ?_
        refine TL.nil (Post.thnN ?_)
        refine T.cond rfl (fun c21 => ?_) (fun c21 => ?_)
        · refine T.region ?_
          refine R.mvE rfl (by conv => lhs; whnf) ?_
          refine R.fldA Tryz.underlying45 rfl Tryz.sizeOf3 (by decide) rfl rfl ?_
          refine R.ldH Tryz.isAgg3 rfl rfl (h7) rfl ?_
          refine R.bs rfl (run_buildSlice1 Tryz.underlying24 Tryz.sizeOf3 Tryz.zeroValue3 rfl rfl) ?_
          intro b25
          refine R.app (ys := [y.2]) Tryz_ty24 rfl rfl rfl (ho.mono s7) (.tl .hd) (Src.lit (vs := [.int .i64 y.2]) .hd) ⟨[.int .i64 y.2], [], rfl, rfl, rfl⟩ (by have := List.length_filter_le (fun y => decide (y.1 = x) && chainB xs) (xs.take q.1); have : (xs.take q.1).length ≤ xs.length := (by simp; omega); simp only [List.length_map, List.length_cons, List.length_nil]; omega) (by have := List.length_filter_le (fun y => decide (y.1 = x) && chainB xs) (xs.take q.1); have : (xs.take q.1).length ≤ xs.length := (by simp; omega); simp only [List.length_map, List.length_cons, List.length_nil]; omega) ?_
          intro v26 c26 w26
          refine TL.del (.tl .hd) ?_
          refine R.asE rfl (by conv => lhs; whnf) ?_
          refine TL.nil (Post.blkN ?_)
          refine id (Post.thnN ?_)
          refine T.region ?_
          refine R.addI rfl rfl rfl (by omega) ?_
          refine R.mvE rfl (by conv => lhs; whnf) ?_
          refine TL.nil (Post.thnN ?_)
          -- round's end, way yyy
          exact ⟨(q.1 + 1, v26, c26), s_0.trans s7, ⟨by show q.1 + 1 ≤ xs.length; omega, rfl, rfl, by rw [filtP_yes hy (by rw [decide_eq_true g18, c21]; rfl)]; exact w26⟩, by show xs.length - (q.1 + 1) < xs.length - q.1; omega, ⟨rfl, rfl, rfl, rfl, rfl, rfl, trivial⟩⟩
        · refine T.skip (Post.blkN ?_)
          refine id (Post.thnN ?_)
          refine T.region ?_
          refine R.addI rfl rfl rfl (by omega) ?_
          refine R.mvE rfl (by conv => lhs; whnf) ?_
          refine TL.nil (Post.thnN ?_)
          -- round's end, way yyn
          exact ⟨(q.1 + 1, q.2.1, q.2.2), s_0.trans s7, ⟨by show q.1 + 1 ≤ xs.length; omega, rfl, rfl, by rw [filtP_no hy (by rw [decide_eq_true g18, c21]; rfl)]; exact ho.mono s7⟩, by show xs.length - (q.1 + 1) < xs.length - q.1; omega, ⟨rfl, rfl, rfl, rfl, rfl, rfl, trivial⟩⟩
      · refine TL.off rfl rfl rfl ?_
        refine TL.off rfl rfl rfl ?_
        refine R.pkFE rfl rfl (by conv => lhs; whnf) ?_
        refine TL.nil (Post.thnN ?_)
        refine T.condN rfl ?_
        refine T.skip (Post.blkN ?_)
        refine id (Post.thnN ?_)
        refine T.region ?_
        refine R.addI rfl rfl rfl (by omega) ?_
        refine R.mvE rfl (by conv => lhs; whnf) ?_
        refine TL.nil (Post.thnN ?_)
        -- round's end, way yn
        exact ⟨(q.1 + 1, q.2.1, q.2.2), s_0.trans s7, ⟨by show q.1 + 1 ≤ xs.length; omega, rfl, rfl, by rw [filtP_no hy (by rw [decide_eq_false g18]; rfl)]; exact ho.mono s7⟩, by show xs.length - (q.1 + 1) < xs.length - q.1; omega, ⟨rfl, rfl, rfl, rfl, rfl, rfl, trivial⟩⟩
    · refine T.exit (Post.thnE (Post.thnE (Post.blkX ?_)))
      refine id (Post.thnN ?_)
      refine T.seq ?_
      refine T.shut .hd ?_
      intro HS sS qS
      have hkx : q.1 = xs.length := by omega
      rw [hkx, List.take_length, toL_eq] at ho
      have hw := ho.read sS qS
      refine T.region ?_
      refine R.mvE rfl (by conv => lhs; whnf) ?_
      refine R.asE rfl (by conv => lhs; whnf) ?_
      refine TL.nil (Post.thnN ?_)
      refine T.ret ?_
      -- way n
      exact fin1 rfl rfl ⟨rfl, hw⟩


set_option maxHeartbeats 1600000 in
theorem from16_c (H : Heap) (v : Value) (xs : List Lk) (x : Int) (hr : RdS pairE H v xs) (hl : xs.length ≤ 100000) : Fp Tryz.prog (fnv 154) [v, .int .i64 x] H (fun v' H' => RdS (intE .i64) H' v' (fromL xs x)) := by
  refine Fc.of_body (N := 29) Tryz.func154 rfl (by kernel_rfl) rfl rfl ?_
  intro w0
  obtain ⟨A, c, rfl, hc1, hc2, hr⟩ := hr.shape
  refine T.seq ?_
  refine T.region ?_
  refine R.asE rfl (by conv => lhs; whnf) ?_
  refine TL.nil (Post.thnN ?_)
  refine T.seq ?_
  refine T.region ?_
  refine R.asE rfl (by conv => lhs; whnf) ?_
  refine TL.nil (Post.thnN ?_)
  refine T.seq ?_
  refine T.seq ?_
  refine T.nilc ?_
  refine T.region ?_
  refine R.mvE rfl (by conv => lhs; whnf) ?_
  refine R.len Tryz.underlying22 rfl rfl ?_
  refine R.mvE rfl (by conv => lhs; whnf) ?_
  refine TL.nil (Post.thnN ?_)
  refine T.block ?_
  refine T.loop (ι := Nat × Value × Chunk) (fun q H' L' ds' => q.1 ≤ xs.length ∧ L' = [q.2.2] ∧ ds' = [] ∧ OwnS (intE .i64) 3 H' q.2.1 (((xs.take q.1).filter (fun y => decide (y.2 = x) && chainB xs)).map (fun y => y.1)) q.2.2) (fun q => [(0, .slice A xs.length c), (1, .int .i64 x), (5, q.2.1), (8, .slice A xs.length c), (9, .int .i64 xs.length), (10, .int .i64 q.1)]) (fun q => xs.length - q.1) ((0, .slice none 0 0, [])) ?_ ?_ ?_
  · exact ⟨Nat.zero_le _, rfl, rfl, OwnS.nil⟩
  · exact ⟨rfl, rfl, rfl, rfl, rfl, rfl, trivial⟩
  · intro q σ0 H_0 L_0 ds_0 s_0 hI_0
    obtain ⟨hk, rfl, rfl, ho⟩ := hI_0
    refine T.seq ?_
    refine T.region ?_
    refine R.lss rfl rfl rfl ?_
    refine TL.nil (Post.thnN ?_)
    refine T.seq ?_
    refine T.condD rfl (fun c11 => ?_) (fun c11 => ?_)
    · have hlt : q.1 < xs.length := by omega
      obtain ⟨y, hy⟩ := getk hlt
      refine T.skip (Post.thnN ?_)
      refine T.seq ?_
      refine T.block ?_
      refine T.seq ?_
      refine T.region ?_
      obtain ⟨b12, o12, i12, e12⟩ := (hr.mono s_0).elem (hy)
      refine R.ixp Tryz.underlying22 Tryz.sizeOf45 rfl rfl rfl (by omega) i12 ?_
      refine R.ldP Tryz.isAgg45 Tryz.sizeOf45 rfl rfl (e12) ?_
      refine R.alloc Tryz.zeroValue45 rfl ?_
      intro b7
      refine R.stA (old := [.int .i64 0, .int .i64 0]) Tryz.sizeOf45 rfl rfl rfl rfl rfl (by intro v hv; simp at hv; rcases hv with rfl | rfl <;> rfl) .hd ?_
      refine TL.nil (Post.thnN ?_)
      refine T.seq ?_
      refine T.shut .hd ?_
      intro H7 s7 q7
      have h7 : H7 b7 = some (.cells #[.int .i64 y.1, .int .i64 y.2] 45) := shut1 q7
      refine T.region ?_
      refine R.fldA Tryz.underlying45 rfl Tryz.sizeOf3 (by decide) rfl rfl ?_
      refine R.ldH Tryz.isAgg3 rfl rfl (h7) rfl ?_
      refine R.mvE rfl (by conv => lhs; whnf) ?_
      refine R.eql rfl rfl rfl ?_
      refine R.mvE rfl (by conv => lhs; whnf) ?_
      refine TL.gsplitD 18 rfl (fun g18 => ?_) (fun g18 => ?_)
      · refine R.mvE rfl (by conv => lhs; whnf) ?_
        refine R.callv rfl rfl rfl (rright_c _ _ _ ((hr.mono s_0).mono s7)) ?_
        refine R.pkTE rfl rfl (by conv => lhs; whnf) ?_
        refine TL.nil (Post.thnN ?_)
        refine T.cond rfl (fun c21 => ?_) (fun c21 => ?_)
        · refine T.region ?_
          refine R.mvE rfl (by conv => lhs; whnf) ?_
          refine R.fldA Tryz.underlying45 rfl Tryz.sizeOf3 (by decide) rfl rfl ?_
          refine R.ldH Tryz.isAgg3 rfl rfl (h7) rfl ?_
          refine R.bs rfl (run_buildSlice1 Tryz.underlying24 Tryz.sizeOf3 Tryz.zeroValue3 rfl rfl) ?_
          intro b25
          refine R.app (ys := [y.1]) Tryz_ty24 rfl rfl rfl (ho.mono s7) (.tl .hd) (Src.lit (vs := [.int .i64 y.1]) .hd) ⟨[.int .i64 y.1], [], rfl, rfl, rfl⟩ (by have := List.length_filter_le (fun y => decide (y.2 = x) && chainB xs) (xs.take q.1); have : (xs.take q.1).length ≤ xs.length := (by simp; omega); simp only [List.length_map, List.length_cons, List.length_nil]; omega) (by have := List.length_filter_le (fun y => decide (y.2 = x) && chainB xs) (xs.take q.1); have : (xs.take q.1).length ≤ xs.length := (by simp; omega); simp only [List.length_map, List.length_cons, List.length_nil]; omega) ?_
          intro v26 c26 w26
          refine TL.del (.tl .hd) ?_
          refine R.asE rfl (by conv => lhs; whnf) ?_
          refine TL.nil (Post.blkN ?_)
          refine id (Post.thnN ?_)
          refine T.region ?_
          refine R.addI rfl rfl rfl (by omega) ?_
          refine R.mvE rfl (by conv => lhs; whnf) ?_
          refine TL.nil (Post.thnN ?_)
          -- round's end, way yyy
          exact ⟨(q.1 + 1, v26, c26), s_0.trans s7, ⟨by show q.1 + 1 ≤ xs.length; omega, rfl, rfl, by rw [filtP_yes hy (by rw [decide_eq_true g18, c21]; rfl)]; exact w26⟩, by show xs.length - (q.1 + 1) < xs.length - q.1; omega, ⟨rfl, rfl, rfl, rfl, rfl, rfl, trivial⟩⟩
        · refine T.skip (Post.blkN ?_)
          refine id (Post.thnN ?_)
          refine T.region ?_
          refine R.addI rfl rfl rfl (by omega) ?_
          refine R.mvE rfl (by conv => lhs; whnf) ?_
          refine TL.nil (Post.thnN ?_)
          -- round's end, way yyn
          exact ⟨(q.1 + 1, q.2.1, q.2.2), s_0.trans s7, ⟨by show q.1 + 1 ≤ xs.length; omega, rfl, rfl, by rw [filtP_no hy (by rw [decide_eq_true g18, c21]; rfl)]; exact ho.mono s7⟩, by show xs.length - (q.1 + 1) < xs.length - q.1; omega, ⟨rfl, rfl, rfl, rfl, rfl, rfl, trivial⟩⟩
      · refine TL.off rfl rfl rfl ?_
        refine TL.off rfl rfl rfl ?_
        refine R.pkFE rfl rfl (by conv => lhs; whnf) ?_
        refine TL.nil (Post.thnN ?_)
        refine T.condN rfl ?_
        refine T.skip (Post.blkN ?_)
        refine id (Post.thnN ?_)
        refine T.region ?_
        refine R.addI rfl rfl rfl (by omega) ?_
        refine R.mvE rfl (by conv => lhs; whnf) ?_
        refine TL.nil (Post.thnN ?_)
        -- round's end, way yn
        exact ⟨(q.1 + 1, q.2.1, q.2.2), s_0.trans s7, ⟨by show q.1 + 1 ≤ xs.length; omega, rfl, rfl, by rw [filtP_no hy (by rw [decide_eq_false g18]; rfl)]; exact ho.mono s7⟩, by show xs.length - (q.1 + 1) < xs.length - q.1; omega, ⟨rfl, rfl, rfl, rfl, rfl, rfl, trivial⟩⟩
    · refine T.exit (Post.thnE (Post.thnE (Post.blkX ?_)))
      refine id (Post.thnN ?_)
      refine T.seq ?_
      refine T.shut .hd ?_
      intro HS sS qS
      have hkx : q.1 = xs.length := by omega
      rw [hkx, List.take_length, fromL_eq] at ho
      have hw := ho.read sS qS
      refine T.region ?_
      refine R.mvE rfl (by conv => lhs; whnf) ?_
      refine R.asE rfl (by conv => lhs; whnf) ?_
      refine TL.nil (Post.thnN ?_)
      refine T.ret ?_
      -- way n
      exact fin1 rfl rfl ⟨rfl, hw⟩

end Go.SX

set_option linter.unusedVariables false
set_option linter.unusedSimpArgs false
namespace Go.SX
open Go Go.Proofs

set_option maxHeartbeats 1600000 in
theorem waves_c (H : Heap) (v : Value) (xs : List Lk) (a : Int) (b : Bool) (hr : RdS pairE H v xs) (hl : xs.length ≤ 1000) : Fp Tryz.prog (fnv 86) [v, .int .i64 a, .bool b] H (fun v' H' => RdS (slE (intE .i64)) H' v' (wavesL b xs a)) := by
  refine Fc.of_body (N := 64) Tryz.func86 rfl (by kernel_rfl) rfl rfl ?_
  intro w0
  obtain ⟨A, c, rfl, hc1, hc2, hr⟩ := hr.shape
  refine T.seq ?_
  refine T.region ?_
  refine R.asE rfl (by conv => lhs; whnf) ?_
  refine TL.nil (Post.thnN ?_)
  refine T.seq ?_
  refine T.region ?_
  refine R.mvE rfl (by conv => lhs; whnf) ?_
  refine R.bs rfl (run_buildSlice1 Tryz.underlying24 Tryz.sizeOf3 Tryz.zeroValue3 rfl rfl) ?_
  intro b16
  refine R.bs rfl (run_buildSlice1 Tryz.underlying114 Tryz.sizeOf24 Tryz.zeroValue24 rfl rfl) ?_
  intro b17
  refine R.asE rfl (by conv => lhs; whnf) ?_
  refine TL.nil (Post.thnN ?_)
  refine T.seq ?_
  refine T.shut (.tl .hd) ?_
  intro H16 s16 q16
  have f16 : RdS (intE .i64) H16 (.slice (some ⟨b16, 0, none⟩) 1 1) [a] := RdS.lit1 q16
  have ho0 := OwnS.one (E := (slE (intE .i64))) (e := 24) (H := H16) (b := b17) (x := [a]) rfl (slE_one f16)
  have hm0 : ∀ b19, OwnS (intE .i64) 3 H16 (.slice (some ⟨b19, 0, none⟩) 1 1) [a] [(b19, .cells #[.int .i64 a] 3)] := fun b19 => OwnS.one (E := (intE .i64)) (e := 3) (H := H16) (b := b19) (x := a) rfl rfl
  refine T.region ?_
  refine R.mvE rfl (by conv => lhs; whnf) ?_
  refine R.bs rfl (run_buildSlice1 Tryz.underlying24 Tryz.sizeOf3 Tryz.zeroValue3 rfl rfl) ?_
  intro b19
  refine R.asE rfl (by conv => lhs; whnf) ?_
  refine TL.nil (Post.thnN ?_)
  refine T.block ?_
  refine T.loop (ι := Nat × List (List Int) × List Int × List Int × Value × Value × Chunk × Chunk) (fun ⟨n, outs, met, last, vo, vm, co, cm⟩ H' L' ds' => L' = [cm, co] ∧ ds' = [] ∧ WInv b xs a n outs met last ∧ OwnS (slE (intE .i64)) 24 H' vo outs co ∧ OwnS (intE .i64) 3 H' vm met cm) (fun ⟨n, outs, met, last, vo, vm, co, cm⟩ => [(0, .slice A xs.length c), (1, .int .i64 a), (2, .bool b), (7, vo), (8, vm)]) (fun ⟨n, outs, met, last, vo, vm, co, cm⟩ => n) ((xs.length + 1, [[a]], [a], [a], .slice (some ⟨b17, 0, none⟩) 1 1, .slice (some ⟨b19, 0, none⟩) 1 1, [(b17, .cells #[.slice (some ⟨b16, 0, none⟩) 1 1] 24)], [(b19, .cells #[.int .i64 a] 3)])) ?_ ?_ ?_
  · exact ⟨rfl, rfl, WInv.start b xs a, ho0, hm0 _⟩
  · exact ⟨rfl, rfl, rfl, rfl, rfl, trivial⟩
  · intro ⟨n, outs, met, last, vo, vm, co, cm⟩ σ0 H_0 L_0 ds_0 s_0 hI_0
    obtain ⟨rfl, rfl, hW, ho, hm⟩ := hI_0
    have hbd := hW.bnd hl
    have hon : 0 < outs.length := List.length_pos_iff.2 hW.2.2.2.2.2
    have hgl : outs[((outs.length : Int) - 1).toNat]? = some last := by
      have := hW.2.2.1
      rwa [show ((outs.length : Int) - 1).toNat = outs.length - 1 by omega]
    obtain ⟨bo, ko, cso, lo, hce, hve, hix, hR, hcs⟩ := ho.elem hgl
    subst hce
    subst hve
    obtain ⟨vl, rfl, hl0⟩ := hR
    obtain ⟨Al, pl, rfl, hl1, hl2, hl0⟩ := hl0.shape
    refine T.block ?_
    refine T.seq ?_
    refine T.region ?_
    refine R.asE rfl (by conv => lhs; whnf) ?_
    refine TL.nil (Post.thnN ?_)
    refine T.seq ?_
    refine T.seq ?_
    refine T.region ?_
    refine R.mvE rfl (by conv => lhs; whnf) ?_
    refine R.mvE rfl (by conv => lhs; whnf) ?_
    refine R.len Tryz.underlying114 rfl rfl ?_
    refine R.subI rfl rfl rfl (by omega) ?_
    refine R.ixp Tryz.underlying114 Tryz.sizeOf24 rfl rfl rfl (by omega) hix ?_
    refine R.ld Tryz.isAgg24 rfl rfl (.tl .hd) (hcs 0 _ rfl) ?_
    refine R.len Tryz.underlying24 rfl rfl ?_
    refine R.mvE rfl (by conv => lhs; whnf) ?_
    refine TL.nil (Post.thnN ?_)
    refine T.block ?_
    refine T.loop (ι := Nat × Value) (fun ⟨j, vn⟩ H' L' ds' => j ≤ last.length ∧ L' = [cm, [(bo, .cells cso 24)]] ∧ ds' = [] ∧ RdS (intE .i64) H' vn (outW (tbL b xs) met (last.take j)) ∧ Gd (endsL b xs) (outW (tbL b xs) met (last.take j))) (fun ⟨j, vn⟩ => [(0, .slice A xs.length c), (1, .int .i64 a), (2, .bool b), (7, .slice (some ⟨bo, 0, none⟩) outs.length ko), (8, vm), (9, vn), (25, .slice Al last.length pl), (26, .int .i64 last.length), (27, .int .i64 j)]) (fun ⟨j, vn⟩ => last.length - j) ((0, .slice none 0 0)) ?_ ?_ ?_
    · exact ⟨Nat.zero_le _, rfl, rfl, RdS.nil, Gd.nil⟩
    · exact ⟨rfl, rfl, rfl, rfl, rfl, rfl, rfl, rfl, rfl, trivial⟩
    · intro ⟨j, vn⟩ σ1 H_1 L_1 ds_1 s_1 hI_1
      obtain ⟨hj, rfl, rfl, hn, hg⟩ := hI_1
      refine T.seq ?_
      refine T.region ?_
      refine R.lss rfl rfl rfl ?_
      refine TL.nil (Post.thnN ?_)
      refine T.seq ?_
      refine T.condD rfl (fun c28 => ?_) (fun c28 => ?_)
      · have hlt : j < last.length := by omega
        obtain ⟨y, hy⟩ := getk hlt
        refine T.skip (Post.thnN ?_)
        refine T.seq ?_
        refine T.block ?_
        refine T.seq ?_
        refine T.region ?_
        obtain ⟨b29, o29, i29, e29⟩ := (hl0.mono s_1).elem (hy)
        refine R.ixp Tryz.underlying24 Tryz.sizeOf3 rfl rfl rfl (by omega) i29 ?_
        refine R.ldC Tryz.isAgg3 rfl rfl (e29).int ?_
        refine R.asE rfl (by conv => lhs; whnf) ?_
        refine TL.nil (Post.thnN ?_)
        refine T.seq ?_
        refine T.region ?_
        refine R.mvE rfl (by conv => lhs; whnf) ?_
        refine R.mvE rfl (by conv => lhs; whnf) ?_
        refine R.callp rfl rfl rfl (to16_c _ _ xs y (hr.mono (s16.trans (s_0.trans s_1))) (by omega)) ?_
        intro v33 H33 s33 q33
        refine R.asE rfl (by conv => lhs; whnf) ?_
        refine TL.nil (Post.thnN ?_)
        refine T.cut (ι := Value) (fun w H' L' ds' => L' = [cm, [(bo, .cells cso 24)]] ∧ ds' = [] ∧ RdS (intE .i64) H' w (tbL b xs y)) (fun w => [(0, .slice A xs.length c), (1, .int .i64 a), (2, .bool b), (7, .slice (some ⟨bo, 0, none⟩) outs.length ko), (8, vm), (9, vn), (12, w), (25, .slice Al last.length pl), (26, .int .i64 last.length), (27, .int .i64 j)]) ?_ ?_
        · refine T.seq ?_
          refine T.region ?_
          refine R.mvE rfl (by conv => lhs; whnf) ?_
          refine TL.nil (Post.thnN ?_)
          refine T.cond rfl (fun c34 => ?_) (fun c34 => ?_)
          · refine T.region ?_
            refine R.mvE rfl (by conv => lhs; whnf) ?_
            refine R.mvE rfl (by conv => lhs; whnf) ?_
            refine R.callp rfl rfl rfl (from16_c _ _ xs y (hr.mono (s16.trans (s_0.trans (s_1.trans s33)))) (by omega)) ?_
            intro v37 H37 s37 q37
            refine R.asE rfl (by conv => lhs; whnf) ?_
            refine TL.nil (Post.thnN ?_)
            -- cut c34, way y
            exact ⟨v37, s37, ⟨rfl, rfl, by unfold tbL; rw [if_pos c34]; exact q37⟩, rfl, rfl, rfl, rfl, rfl, rfl, rfl, rfl, rfl, rfl, trivial⟩
          · refine T.skip (Post.thnN ?_)
            -- cut c34, way n
            exact ⟨v33, HLe.refl _, ⟨rfl, rfl, by unfold tbL; rw [if_neg (by rw [c34]; simp)]; exact q33⟩, rfl, rfl, rfl, rfl, rfl, rfl, rfl, rfl, rfl, rfl, trivial⟩
        · intro w σ_c34 H_c34 L_c34 ds_c34 s_c34 hI_c34
          obtain ⟨rfl, rfl, hmore⟩ := hI_c34
          obtain ⟨Aw, pw, rfl, hw1, hw2, hmore⟩ := hmore.shape
          refine T.seq ?_
          refine T.region ?_
          refine R.mvE rfl (by conv => lhs; whnf) ?_
          refine R.len Tryz.underlying24 rfl rfl ?_
          refine R.mvE rfl (by conv => lhs; whnf) ?_
          refine TL.nil (Post.thnN ?_)
          refine T.block ?_
          refine T.loop (ι := Nat × Value) (fun ⟨i, vx⟩ H' L' ds' => i ≤ (tbL b xs y).length ∧ L' = [cm, [(bo, .cells cso 24)]] ∧ ds' = [] ∧ RdS (intE .i64) H' vx (inW met ((tbL b xs y).take i) (outW (tbL b xs) met (last.take j))) ∧ Gd (endsL b xs) (inW met ((tbL b xs y).take i) (outW (tbL b xs) met (last.take j)))) (fun ⟨i, vx⟩ => [(0, .slice A xs.length c), (1, .int .i64 a), (2, .bool b), (7, .slice (some ⟨bo, 0, none⟩) outs.length ko), (8, vm), (9, vx), (25, .slice Al last.length pl), (26, .int .i64 last.length), (27, .int .i64 j), (38, .slice Aw (tbL b xs y).length pw), (39, .int .i64 (tbL b xs y).length), (40, .int .i64 i)]) (fun ⟨i, vx⟩ => (tbL b xs y).length - i) ((0, vn)) ?_ ?_ ?_
          · exact ⟨Nat.zero_le _, rfl, rfl, hn.mono (s33.trans s_c34), hg⟩
          · exact ⟨rfl, rfl, rfl, rfl, rfl, rfl, rfl, rfl, rfl, rfl, rfl, rfl, trivial⟩
          · intro ⟨i, vx⟩ σ2 H_2 L_2 ds_2 s_2 hI_2
            obtain ⟨hi, rfl, rfl, hn2, hg2⟩ := hI_2
            refine T.seq ?_
            refine T.region ?_
            refine R.lss rfl rfl rfl ?_
            refine TL.nil (Post.thnN ?_)
            refine T.seq ?_
            refine T.condD rfl (fun c41 => ?_) (fun c41 => ?_)
            · have hlt2 : i < (tbL b xs y).length := by omega
              obtain ⟨z, hz⟩ := getk hlt2
              refine T.skip (Post.thnN ?_)
              refine T.seq ?_
              refine T.block ?_
              refine T.seq ?_
              refine T.region ?_
              obtain ⟨b42, o42, i42, e42⟩ := (hmore.mono s_2).elem (hz)
              refine R.ixp Tryz.underlying24 Tryz.sizeOf3 rfl rfl rfl (by omega) i42 ?_
              refine R.ldC Tryz.isAgg3 rfl rfl (e42).int ?_
              refine R.asE rfl (by conv => lhs; whnf) ?_
              refine TL.nil (Post.thnN ?_)
              refine T.seq ?_
              refine T.region ?_
              refine R.mvE rfl (by conv => lhs; whnf) ?_
              refine R.mvE rfl (by conv => lhs; whnf) ?_
              refine TL.call [true] rfl rfl rfl (Fv.borrow (fun H2 hl hc => has16_c _ _ _ _ ((hm.mono (s_1.trans (s33.trans (s_c34.trans s_2)))).read hl hc))) ?_
              intro v46 H46 L46 s46 q46
              obtain ⟨rfl, rfl⟩ := q46
              refine R.not rfl rfl ?_
              refine TL.nil (Post.thnN ?_)
              refine T.cond rfl (fun c47 => ?_) (fun c47 => ?_)
              · refine T.region ?_
                refine R.mvE rfl (by conv => lhs; whnf) ?_
                refine R.mvE rfl (by conv => lhs; whnf) ?_
                refine R.callp rfl rfl rfl (put16_c _ _ _ z (hn2.mono s46) (by have := hg2.len; rw [ends_len] at this; omega)) ?_
                intro v50 H50 s50 q50
                refine R.asE rfl (by conv => lhs; whnf) ?_
                refine TL.nil (Post.blkN ?_)
                refine id (Post.thnN ?_)
                refine T.region ?_
                refine R.addI rfl rfl rfl (by omega) ?_
                refine R.mvE rfl (by conv => lhs; whnf) ?_
                refine TL.nil (Post.thnN ?_)
                -- round's end, way yyy
                exact ⟨(i + 1, v50), s_2.trans (s46.trans s50), ⟨by show i + 1 ≤ _; omega, rfl, rfl, by rw [inW_snoc hz, stepW_put c47]; exact q50, by rw [inW_snoc hz, stepW_put c47]; exact hg2.put (tb_mem (List.mem_of_getElem? hz))⟩, by show (tbL b xs y).length - (i + 1) < (tbL b xs y).length - i; omega, ⟨rfl, rfl, rfl, rfl, rfl, rfl, rfl, rfl, rfl, rfl, rfl, rfl, trivial⟩⟩
              · refine T.skip (Post.blkN ?_)
                refine id (Post.thnN ?_)
                refine T.region ?_
                refine R.addI rfl rfl rfl (by omega) ?_
                refine R.mvE rfl (by conv => lhs; whnf) ?_
                refine TL.nil (Post.thnN ?_)
                -- round's end, way yyn
                exact ⟨(i + 1, vx), s_2.trans s46, ⟨by show i + 1 ≤ _; omega, rfl, rfl, by rw [inW_snoc hz, stepW_skip c47]; exact hn2.mono s46, by rw [inW_snoc hz, stepW_skip c47]; exact hg2⟩, by show (tbL b xs y).length - (i + 1) < (tbL b xs y).length - i; omega, ⟨rfl, rfl, rfl, rfl, rfl, rfl, rfl, rfl, rfl, rfl, rfl, rfl, trivial⟩⟩
            · refine T.exit (Post.thnE (Post.thnE (Post.blkX ?_)))
              refine id (Post.blkN ?_)
              refine id (Post.thnN ?_)
              refine T.region ?_
              refine R.addI rfl rfl rfl (by omega) ?_
              refine R.mvE rfl (by conv => lhs; whnf) ?_
              refine TL.nil (Post.thnN ?_)
              -- round's end, way yn
              have hfull : i = (tbL b xs y).length := by omega
              rw [hfull, List.take_length] at hn2 hg2
              exact ⟨(j + 1, vx), s_1.trans (s33.trans (s_c34.trans s_2)), ⟨by show j + 1 ≤ _; omega, rfl, rfl, by rw [outW_snoc hy]; exact hn2, by rw [outW_snoc hy]; exact hg2⟩, by show last.length - (j + 1) < last.length - j; omega, ⟨rfl, rfl, rfl, rfl, rfl, rfl, rfl, rfl, rfl, trivial⟩⟩
      · have hfull : j = last.length := by omega
        rw [hfull, List.take_length] at hn hg
        obtain ⟨An, pn, hvn, hn1, hn3, hn⟩ := hn.shape
        subst hvn
        refine T.exit (Post.thnE (Post.thnE (Post.blkX ?_)))
        refine id (Post.thnN ?_)
        refine T.seq ?_
        refine T.seq ?_
        refine T.region ?_
        refine R.mvE rfl (by conv => lhs; whnf) ?_
        refine R.len Tryz.underlying24 rfl rfl ?_
        refine R.eql rfl rfl rfl ?_
        refine TL.nil (Post.thnN ?_)
        refine T.condD rfl (fun c55 => ?_) (fun c55 => ?_)
        · have h0 : outW (tbL b xs) met last = [] := List.length_eq_zero_iff.1 (by omega)
          have hst := hW.stop h0
          refine T.seq ?_
          refine T.shut (.tl .hd) ?_
          intro HX sX qX
          have hx := (ho.mono s_1).read sX qX
          refine T.region ?_
          refine R.mvE rfl (by conv => lhs; whnf) ?_
          refine R.asE rfl (by conv => lhs; whnf) ?_
          refine TL.nil (Post.thnN ?_)
          refine T.ret (Post.thnR (Post.blkR (Post.thnR (Post.blkR ?_))))
          -- way ny
          exact fin1 rfl rfl ⟨rfl, by rw [hst]; exact hx⟩
        · have h0 : outW (tbL b xs) met last ≠ [] := fun e => by rw [e] at c55; exact c55 rfl
          have hgo := hW.go rfl hg h0
          have hgl2 := hg.len
          rw [ends_len] at hgl2
          refine T.skip (Post.thnN ?_)
          refine T.seq ?_
          refine T.region ?_
          refine R.mvE rfl (by conv => lhs; whnf) ?_
          refine R.mvE rfl (by conv => lhs; whnf) ?_
          obtain ⟨cs59, y59, r59⟩ := Src.rdA hn
          refine R.app Tryz_ty24 rfl rfl rfl (hm.mono s_1) .hd (r59 _) y59 (by first | omega | (simp; omega)) (by first | omega | (simp; omega)) ?_
          intro v59 c59 w59
          refine R.asE rfl (by conv => lhs; whnf) ?_
          refine TL.nil (Post.thnN ?_)
          refine T.region ?_
          refine R.mvE rfl (by conv => lhs; whnf) ?_
          refine R.mvE rfl (by conv => lhs; whnf) ?_
          refine R.bs rfl (run_buildSlice1 Tryz.underlying114 Tryz.sizeOf24 Tryz.zeroValue24 rfl rfl) ?_
          intro b62
          refine R.app (ys := [outW (tbL b xs) met last]) Tryz_ty114 rfl rfl rfl (ho.mono s_1) (.tl (.tl .hd)) (Src.lit (vs := [.slice An (outW (tbL b xs) met last).length pn]) .hd) ⟨[_], [], rfl, ⟨_, rfl, hn⟩, rfl⟩ (by first | omega | (simp; omega)) (by first | omega | (simp; omega)) ?_
          intro v63 c63 w63
          refine TL.del (.tl .hd) ?_
          refine TL.permL (L' := [c59, c63]) (by simpa using List.perm_append_comm) ?_
          refine R.asE rfl (by conv => lhs; whnf) ?_
          refine TL.nil (Post.blkN ?_)
          refine id (Post.thnN ?_)
          -- round's end, way nn
          refine ⟨(n - 1, outs ++ [outW (tbL b xs) met last], met ++ outW (tbL b xs) met last, outW (tbL b xs) met last, v63, v59, c63, c59), s_0.trans s_1, ⟨rfl, rfl, hgo.1, w63, w59⟩, by show n - 1 < n; have := hgo.2; omega, ⟨rfl, rfl, rfl, rfl, rfl, trivial⟩⟩

end Go.SX

set_option linter.unusedVariables false
set_option linter.unusedSimpArgs false
namespace Go.SX
open Go Go.Proofs

set_option maxHeartbeats 1600000 in
theorem round_c (H : Heap) (v : Value) (xs : List Lk) (hr : RdS pairE H v xs) (hl : xs.length ≤ 1000) : Fv Tryz.prog (fnv 27) [v] H (.bool (roundR xs)) := by
  refine Fc.of_body (N := 91) Tryz.func27 rfl (by kernel_rfl) rfl rfl ?_
  intro w0
  obtain ⟨A, c, rfl, hc1, hc2, hr⟩ := hr.shape
  refine T.seq ?_
  refine T.region ?_
  refine R.asE rfl (by conv => lhs; whnf) ?_
  refine TL.nil (Post.thnN ?_)
  refine T.seq ?_
  refine T.seq ?_
  refine T.region ?_
  refine R.mvE rfl (by conv => lhs; whnf) ?_
  refine R.callv rfl rfl rfl (ccheck_c _ _ _ hr) ?_
  refine R.neq rfl rfl rfl ?_
  refine TL.nil (Post.thnN ?_)
  refine T.condD rfl (fun c16 => ?_) (fun c16 => ?_)
  · have hcb : chainB xs = false := by
      cases h : chainB xs with
      | false => rfl
      | true => rw [h] at c16; exact absurd rfl c16
    refine T.seq ?_
    refine T.region ?_
    refine R.asE rfl (by conv => lhs; whnf) ?_
    refine TL.nil (Post.thnN ?_)
    refine T.ret (Post.thnR ?_)
    -- way y
    exact fin1 rfl rfl ⟨rfl, congrArg Value.bool (round_bad hcb).symm⟩
  · have hc : chainB xs = true := by
      cases h : chainB xs with
      | true => rfl
      | false => rw [h] at c16; exact absurd (by decide) c16
    refine T.skip (Post.thnN ?_)
    refine T.seq ?_
    refine T.region ?_
    refine R.mkm rfl ?_
    intro b17
    refine R.asE rfl (by conv => lhs; whnf) ?_
    refine TL.nil (Post.thnN ?_)
    refine T.seq ?_
    refine T.region ?_
    refine R.mvE rfl (by conv => lhs; whnf) ?_
    refine R.callp rfl rfl rfl (steps_c _ _ xs true hr hl) ?_
    intro v19 H19 s19 q19
    obtain ⟨hcf, hst⟩ := q19
    refine R.asE rfl (by conv => lhs; whnf) ?_
    refine TL.nil (Post.thnN ?_)
    refine T.seq ?_
    refine T.seq ?_
    refine T.region ?_
    refine R.mvE rfl (by conv => lhs; whnf) ?_
    refine R.len Tryz.underlying22 rfl rfl ?_
    refine R.mvE rfl (by conv => lhs; whnf) ?_
    refine TL.nil (Post.thnN ?_)
    refine T.block ?_
    refine T.loop (ι := Nat × MapL × Array MapEntry × Nat) (fun ⟨k, m, es, ck⟩ H' L' ds' => k ≤ xs.length ∧ ds' = [] ∧ L' = [[(b17, .map es ck)]] ∧ MapK .i64 es ck m ∧ CntIs m (cntN xs k) (isV (xs.take k))) (fun ⟨k, m, es, ck⟩ => [(3, .map (some b17)), (4, v19), (20, .slice A xs.length c), (21, .int .i64 xs.length), (22, .int .i64 k)]) (fun ⟨k, m, es, ck⟩ => xs.length - k) ((0, [], #[], 0)) ?_ ?_ ?_
    · exact ⟨Nat.zero_le _, rfl, rfl, MapK.nil _, CntIs.nil.congr (fun k => by simp [cntN]) (fun k => by simp [isV])⟩
    · exact ⟨rfl, rfl, rfl, rfl, rfl, trivial⟩
    · intro ⟨k, m, es, ck⟩ σ0 H_0 L_0 ds_0 s_0 hI_0
      obtain ⟨hk, rfl, rfl, hi, hC⟩ := hI_0
      have hcb := cntN_le xs k
      refine T.seq ?_
      refine T.region ?_
      refine R.lss rfl rfl rfl ?_
      refine TL.nil (Post.thnN ?_)
      refine T.seq ?_
      refine T.condD rfl (fun c23 => ?_) (fun c23 => ?_)
      · have hlt : k < xs.length := by omega
        obtain ⟨y, hy⟩ := getk hlt
        have hcb1 := hcb y.1
        have hcb2 := hcb y.2
        have hC1 := hC.put y.1 (cntN xs k y.1 + 1)
        refine T.skip (Post.thnN ?_)
        refine T.seq ?_
        refine T.block ?_
        refine T.seq ?_
        refine T.region ?_
        obtain ⟨b24, o24, i24, e24⟩ := ((hr.mono s19).mono s_0).elem (hy)
        refine R.ixp Tryz.underlying22 Tryz.sizeOf45 rfl rfl rfl (by omega) i24 ?_
        refine R.ldP Tryz.isAgg45 Tryz.sizeOf45 rfl rfl (e24) ?_
        refine R.alloc Tryz.zeroValue45 rfl ?_
        intro b6
        refine R.stA (old := [.int .i64 0, .int .i64 0]) Tryz.sizeOf45 rfl rfl rfl rfl rfl (by intro v hv; simp at hv; rcases hv with rfl | rfl <;> rfl) .hd ?_
        refine TL.nil (Post.thnN ?_)
        refine T.seq ?_
        refine T.shut .hd ?_
        intro H6 s6 q6
        have h6 : H6 b6 = some (.cells #[.int .i64 y.1, .int .i64 y.2] 45) := shut1 q6
        refine T.region ?_
        refine R.mvE rfl (by conv => lhs; whnf) ?_
        refine R.fldA Tryz.underlying45 rfl Tryz.sizeOf3 (by decide) rfl rfl ?_
        refine R.ldH Tryz.isAgg3 rfl rfl (h6) rfl ?_
        refine R.lku Tryz.underlying93 Tryz.underlying3 Tryz.zeroValue3 rfl rfl rfl .hd hi.1 ?_
        refine TL.set 29 (.int .i64 (cntN xs k y.1)) (hC.2.2 y.1) ?_
        refine R.addI rfl rfl rfl (by omega) ?_
        refine R.mupK Tryz.underlying93 Tryz.underlying3 rfl rfl rfl rfl .hd hi ?_
        intro es30 ck30 i30
        refine TL.nil (Post.thnN ?_)
        refine T.region ?_
        refine R.mvE rfl (by conv => lhs; whnf) ?_
        refine R.fldA Tryz.underlying45 rfl Tryz.sizeOf3 (by decide) rfl rfl ?_
        refine R.ldH Tryz.isAgg3 rfl rfl (h6) rfl ?_
        refine R.lku Tryz.underlying93 Tryz.underlying3 Tryz.zeroValue3 rfl rfl rfl .hd i30.1 ?_
        refine TL.set 34 (.int .i64 (if y.2 = y.1 then cntN xs k y.1 + 1 else cntN xs k y.2)) (hC1.2.2 y.2) ?_
        refine R.addI rfl rfl rfl (by split <;> omega) ?_
        refine R.mupK Tryz.underlying93 Tryz.underlying3 rfl rfl rfl rfl .hd i30 ?_
        intro es35 ck35 i35
        refine TL.nil (Post.blkN ?_)
        refine id (Post.thnN ?_)
        refine T.region ?_
        refine R.addI rfl rfl rfl (by omega) ?_
        refine R.mvE rfl (by conv => lhs; whnf) ?_
        refine TL.nil (Post.thnN ?_)
        -- round's end, way ny
        exact ⟨(k + 1, _, es35, ck35), s_0.trans s6, ⟨by show k + 1 ≤ _; omega, rfl, rfl, i35, cnt_step hy hC⟩, by show xs.length - (k + 1) < xs.length - k; omega, ⟨rfl, rfl, rfl, rfl, rfl, trivial⟩⟩
      · have hkx : k = xs.length := by omega
        subst hkx
        have hC := cnt_full hC
        refine T.exit (Post.thnE (Post.thnE (Post.blkX ?_)))
        refine id (Post.thnN ?_)
        refine T.seq ?_
        refine T.region ?_
        refine R.asE rfl (by conv => lhs; whnf) ?_
        refine TL.nil (Post.thnN ?_)
        refine T.seq ?_
        refine T.seq ?_
        refine T.region ?_
        refine R.mvE rfl (by conv => lhs; whnf) ?_
        refine R.rng Tryz.underlying93 rfl rfl .hd ?_
        intro b38
        refine TL.nilc ?_
        refine TL.nil (Post.thnN ?_)
        refine T.block ?_
        refine T.loop (ι := Array Nat × List Int × Value × Chunk) (fun ⟨sn, vk, vf, cf⟩ H' L' ds' => ds' = [] ∧ L' = [cf, [(b38, .mapIter (some b17) ck sn ck)], [(b17, .map es ck)]] ∧ Seen es (isV xs) sn vk ∧ OwnS (intE .i64) 3 H' vf (vk.filter (fun k => decide ((dg xs [] k : Int) = 0))) cf) (fun ⟨sn, vk, vf, cf⟩ => [(3, .map (some b17)), (4, v19), (7, vf), (38, .pointer (some ⟨b38, 0, none⟩))]) (fun ⟨sn, vk, vf, cf⟩ => m.length - vk.length) ((#[], [], .slice none 0 0, [])) ?_ ?_ ?_
        · exact ⟨rfl, rfl, Seen.nil _ _, OwnS.nil⟩
        · exact ⟨rfl, rfl, rfl, rfl, trivial⟩
        · intro ⟨sn, vk, vf, cf⟩ σ1 H_1 L_1 ds_1 s_1 hI_1
          obtain ⟨rfl, rfl, hse, ho⟩ := hI_1
          have hvl := hse.len hC
          have hml0 := cnt_len hC
          have hfl0 := List.length_filter_le (fun k => decide ((dg xs [] k : Int) = 0)) vk
          refine T.seq ?_
          refine T.region ?_
          refine R.nxt rfl rfl (.tl .hd) (.tl .hd) hi.2 ?_
          intro v39 sn2 h39
          refine TL.permL (L' := [cf, [(b38, .mapIter (some b17) ck sn2 ck)], [(b17, .map es ck)]]) perm4 ?_
          rcases h39 with ⟨hv39, hs39, hall⟩ | ⟨e, he, hne, hv39, hs39⟩ <;> subst hv39 <;> subst hs39
          · refine R.ext rfl rfl rfl ?_
            refine TL.nil (Post.thnN ?_)
            refine T.seq ?_
            refine T.condN rfl ?_
            refine T.exit (Post.thnE (Post.thnE (Post.blkX ?_)))
            refine id (Post.thnN ?_)
            refine T.seq ?_
            obtain ⟨n0, hn0⟩ : ∃ n, n = m.length := ⟨_, rfl⟩
            have hKI0 := free_start hse.nd (hse.over hi.1 hC hall)
            refine T.region ?_
            refine R.mvE rfl (by conv => lhs; whnf) ?_
            refine R.lenM Tryz.underlying93 rfl rfl (.tl (.tl .hd)) ?_
            refine TL.set 51 (.int .i64 m.length) (by rw [← map_size hi.1]; rfl) ?_
            refine TL.del (.tl .hd) ?_
            refine R.asE rfl (by conv => lhs; whnf) ?_
            refine TL.nil (Post.thnN ?_)
            refine T.seq ?_
            refine T.block ?_
            refine T.loop (ι := List Int × List Int × Value × Chunk × MapL × Array MapEntry × Nat) (fun ⟨RV, Fr, vf, cf, m, es, ck⟩ H' L' ds' => ds' = [] ∧ L' = [cf, [(b17, .map es ck)]] ∧ KI xs RV Fr ∧ MapK .i64 es ck m ∧ CntIs m (fun w => (dg xs RV w : Int)) (isV xs) ∧ OwnS (intE .i64) 3 H' vf Fr cf ∧ m.length = n0) (fun ⟨RV, Fr, vf, cf, m, es, ck⟩ => [(3, .map (some b17)), (4, v19), (7, vf), (10, .int .i64 ((n0 : Int) - (RV.length : Int)))]) (fun ⟨RV, Fr, vf, cf, m, es, ck⟩ => n0 - RV.length) (([], vk.filter (fun k => decide ((dg xs [] k : Int) = 0)), vf, cf, m, es, ck)) ?_ ?_ ?_
            · exact ⟨rfl, rfl, hKI0, hi, hC, ho, hn0.symm⟩
            · exact ⟨rfl, rfl, rfl, congrArg (Value.int .i64) (by rw [hn0]; simp), trivial⟩
            · intro ⟨RV, Fr, vf, cf, m, es, ck⟩ σ2 H_2 L_2 ds_2 s_2 hI_2
              obtain ⟨rfl, rfl, hKI, hi, hC, ho, hml⟩ := hI_2
              have hkl := hKI.len hC
              obtain ⟨Af, pf, hvf, hf1, hf2⟩ := ho.shape
              subst hvf
              refine T.seq ?_
              refine T.seq ?_
              refine T.region ?_
              refine R.mvE rfl (by conv => lhs; whnf) ?_
              refine R.len Tryz.underlying24 rfl rfl ?_
              refine R.gtr rfl rfl rfl ?_
              refine TL.nil (Post.thnN ?_)
              refine T.condD rfl (fun c54 => ?_) (fun c54 => ?_)
              · obtain ⟨F, v, rfl⟩ := last_split (l := Fr) (fun e => by rw [e] at c54; exact absurd c54 (by decide))
                have hfp : (F ++ [v]).length = F.length + 1 := by simp
                refine T.skip (Post.thnN ?_)
                refine T.block ?_
                refine T.seq ?_
                refine T.region ?_
                refine R.mvE rfl (by conv => lhs; whnf) ?_
                refine R.mvE rfl (by conv => lhs; whnf) ?_
                refine R.len Tryz.underlying24 rfl rfl ?_
                refine R.subI rfl rfl rfl (by omega) ?_
                obtain ⟨bo, ko, cso, lo, hce, hve, hix, hR, hcs⟩ := ho.elem (show (F ++ [v])[(((F ++ [v]).length : Int) - 1).toNat]? = some v by rw [show (((F ++ [v]).length : Int) - 1).toNat = F.length by simp]; simp)
                obtain rfl : lo = [.int .i64 v] := hR
                subst hce
                refine R.ixp Tryz.underlying24 Tryz.sizeOf3 rfl rfl rfl (by simp) hix ?_
                refine R.ld Tryz.isAgg3 rfl rfl .hd (hcs 0 _ rfl) ?_
                refine R.asE rfl (by conv => lhs; whnf) ?_
                refine TL.nil (Post.thnN ?_)
                refine T.seq ?_
                refine T.region ?_
                refine R.mvE rfl (by conv => lhs; whnf) ?_
                refine R.mvE rfl (by conv => lhs; whnf) ?_
                refine R.len Tryz.underlying24 rfl rfl ?_
                refine R.subI rfl rfl rfl (by omega) ?_
                refine R.sH Tryz.underlying24 Tryz.sizeOf3 rfl rfl rfl (by simp) (by simp; omega) ?_
                have hfl : (((F ++ [v]).length : Int) - 1).toNat = F.length := by simp
                refine TL.set 65 (.slice Af F.length pf) (by rw [← hfl]; exact slc_take0 (n := (F ++ [v]).length)) ?_
                have w65 := own_take0 ho (i := F.length) (by simp)
                rw [List.take_left] at w65
                refine R.asE rfl (by conv => lhs; whnf) ?_
                refine TL.nil (Post.thnN ?_)
                refine T.seq ?_
                refine T.region ?_
                refine R.mvE rfl (by conv => lhs; whnf) ?_
                refine R.subI rfl rfl rfl (by omega) ?_
                refine R.asE rfl (by conv => lhs; whnf) ?_
                refine TL.nil (Post.thnN ?_)
                refine T.seq ?_
                refine T.region ?_
                refine R.mvE rfl (by conv => lhs; whnf) ?_
                refine R.mvE rfl (by conv => lhs; whnf) ?_
                refine R.callp rfl rfl rfl (hst _ (s_0.trans (s_1.trans s_2)) v) ?_
                intro v70 H70 s70 q70
                have q70 : RdS (intE .i64) H70 v70 (fromL xs v) := q70
                obtain ⟨A70, k70, rfl, m70, n70, g70⟩ := q70.shape
                refine R.len Tryz.underlying24 rfl rfl ?_
                refine R.mvE rfl (by conv => lhs; whnf) ?_
                refine TL.nil (Post.thnN ?_)
                refine T.block ?_
                refine T.loop (ι := Nat × Value × Chunk × MapL × Array MapEntry × Nat) (fun ⟨i, vf, cf, m, es, ck⟩ H' L' ds' => i ≤ (fromL xs v).length ∧ ds' = [] ∧ L' = [cf, [(b17, .map es ck)]] ∧ MapK .i64 es ck m ∧ CntIs m (cI xs RV v i) (isV xs) ∧ OwnS (intE .i64) 3 H' vf (fI xs RV F v i) cf ∧ m.length = n0) (fun ⟨i, vf, cf, m, es, ck⟩ => [(3, .map (some b17)), (4, v19), (7, vf), (10, .int .i64 ((n0 : Int) - (RV.length : Int) - 1)), (70, .slice A70 (fromL xs v).length k70), (71, .int .i64 (fromL xs v).length), (72, .int .i64 i)]) (fun ⟨i, vf, cf, m, es, ck⟩ => (fromL xs v).length - i) ((0, .slice Af F.length pf, [(bo, .cells cso 3)], m, es, ck)) ?_ ?_ ?_
                · exact ⟨Nat.zero_le _, rfl, rfl, hi, hC.congr (fun k => (cI_zero xs RV v k).symm) (fun k => Iff.rfl), by rw [fI_zero]; exact w65.mono s70, hml⟩
                · exact ⟨rfl, rfl, rfl, rfl, rfl, rfl, rfl, trivial⟩
                · intro ⟨i, vf, cf, m, es, ck⟩ σ3 H_3 L_3 ds_3 s_3 hI_3
                  obtain ⟨hiw, rfl, rfl, hi, hC, ho, hml⟩ := hI_3
                  have hfll := fI_len xs RV F v i
                  refine T.seq ?_
                  refine T.region ?_
                  refine R.lss rfl rfl rfl ?_
                  refine TL.nil (Post.thnN ?_)
                  refine T.seq ?_
                  refine T.condD rfl (fun c73 => ?_) (fun c73 => ?_)
                  · have hlt : i < (fromL xs v).length := by omega
                    obtain ⟨w, hw⟩ := getk hlt
                    have hwV := from_isV (List.mem_of_getElem? hw)
                    have hcI := cI_bnd xs RV v i w
                    refine T.skip (Post.thnN ?_)
                    refine T.seq ?_
                    refine T.block ?_
                    refine T.seq ?_
                    refine T.region ?_
                    obtain ⟨b74, o74, i74, e74⟩ := (g70.mono s_3).elem (hw)
                    refine R.ixp Tryz.underlying24 Tryz.sizeOf3 rfl rfl rfl (by omega) i74 ?_
                    refine R.ldC Tryz.isAgg3 rfl rfl (e74).int ?_
                    refine R.asE rfl (by conv => lhs; whnf) ?_
                    refine TL.nil (Post.thnN ?_)
                    refine T.seq ?_
                    refine T.region ?_
                    refine R.mvE rfl (by conv => lhs; whnf) ?_
                    refine R.mvE rfl (by conv => lhs; whnf) ?_
                    refine R.lku Tryz.underlying93 Tryz.underlying3 Tryz.zeroValue3 rfl rfl rfl (.tl .hd) hi.1 ?_
                    refine TL.set 78 (.int .i64 (cI xs RV v i w)) (hC.2.2 w) ?_
                    refine R.subI rfl rfl rfl (by omega) ?_
                    refine R.mupK Tryz.underlying93 Tryz.underlying3 rfl rfl rfl rfl (.tl .hd) hi ?_
                    intro es79 ck79 i79
                    refine TL.permL (L' := [cf, [(b17, .map es79 ck79)]]) permS ?_
                    have hC2 : CntIs _ (cI xs RV v (i + 1)) (isV xs) := (hC.put w (cI xs RV v i w - 1)).congr (congrFun (cI_step hw)) (fun k => ⟨fun h => h.elim (fun e => e ▸ hwV) id, .inr⟩)
                    have hml2 := (mput_len m w (.int .i64 (cI xs RV v i w - 1)) ((hC.2.1 w).2 hwV)).trans hml
                    refine TL.nil (Post.thnN ?_)
                    refine T.seq ?_
                    refine T.region ?_
                    refine R.mvE rfl (by conv => lhs; whnf) ?_
                    refine R.mvE rfl (by conv => lhs; whnf) ?_
                    refine R.lku Tryz.underlying93 Tryz.underlying3 Tryz.zeroValue3 rfl rfl rfl (.tl .hd) i79.1 ?_
                    refine TL.set 82 (.int .i64 (cI xs RV v (i + 1) w)) (hC2.2.2 w) ?_
                    refine R.eql rfl rfl rfl ?_
                    refine TL.nil (Post.thnN ?_)
                    refine T.condD rfl (fun c83 => ?_) (fun c83 => ?_)
                    · refine T.region ?_
                      refine R.mvE rfl (by conv => lhs; whnf) ?_
                      refine R.mvE rfl (by conv => lhs; whnf) ?_
                      refine R.bs rfl (run_buildSlice1 Tryz.underlying24 Tryz.sizeOf3 Tryz.zeroValue3 rfl rfl) ?_
                      intro b86
                      refine R.app (ys := [w]) Tryz_ty24 rfl rfl rfl ho (.tl .hd) (Src.lit (vs := [.int .i64 w]) .hd) ⟨[.int .i64 w], [], rfl, rfl, rfl⟩ (by simp; omega) (by simp; omega) ?_
                      intro v87 c87 w87
                      refine TL.del (.tl .hd) ?_
                      refine R.asE rfl (by conv => lhs; whnf) ?_
                      refine TL.nil (Post.blkN ?_)
                      refine id (Post.thnN ?_)
                      refine T.region ?_
                      refine R.addI rfl rfl rfl (by omega) ?_
                      refine R.mvE rfl (by conv => lhs; whnf) ?_
                      refine TL.nil (Post.thnN ?_)
                      -- round's end, way nnnyyy
                      exact ⟨(i + 1, v87, c87, _, es79, ck79), s_3, ⟨by show i + 1 ≤ _; omega, rfl, rfl, i79, hC2, by rw [fI_yes hw c83]; exact w87, hml2⟩, by show (fromL xs v).length - (i + 1) < (fromL xs v).length - i; omega, ⟨rfl, rfl, rfl, rfl, rfl, rfl, rfl, trivial⟩⟩
                    · refine T.skip (Post.blkN ?_)
                      refine id (Post.thnN ?_)
                      refine T.region ?_
                      refine R.addI rfl rfl rfl (by omega) ?_
                      refine R.mvE rfl (by conv => lhs; whnf) ?_
                      refine TL.nil (Post.thnN ?_)
                      -- round's end, way nnnyyn
                      exact ⟨(i + 1, vf, cf, _, es79, ck79), s_3, ⟨by show i + 1 ≤ _; omega, rfl, rfl, i79, hC2, by rw [fI_no hw c83]; exact ho, hml2⟩, by show (fromL xs v).length - (i + 1) < (fromL xs v).length - i; omega, ⟨rfl, rfl, rfl, rfl, rfl, rfl, rfl, trivial⟩⟩
                  · refine T.exit (Post.thnE (Post.thnE (Post.blkX ?_)))
                    refine id (Post.blkN ?_)
                    refine id (Post.thnN ?_)
                    -- round's end, way nnnyn
                    have hix : i = (fromL xs v).length := by omega
                    have hgo := hKI.go hc
                    have hvR : v ∉ RV := fun hm => (List.nodup_append.1 hKI.nd).2.2 v hm v (by simp) rfl
                    exact ⟨(RV ++ [v], fI xs RV F v i, vf, cf, m, es, ck), s_2.trans (s70.trans s_3), ⟨rfl, rfl, by rw [hix]; exact hgo, hi, hC.congr (fun k => by rw [hix]; exact cI_last hc hvR k) (fun k => Iff.rfl), ho, hml⟩, by show n0 - (RV ++ [v]).length < n0 - RV.length; simp at hkl ⊢; omega, ⟨rfl, rfl, rfl, congrArg (Value.int .i64) (by simp; omega), trivial⟩⟩
              · have hF0 : Fr = [] := List.length_eq_zero_iff.1 (by omega)
                subst hF0
                have hend := round_end hc hKI hC
                rw [hml] at hend
                refine T.exit (Post.thnE (Post.thnE (Post.blkX ?_)))
                refine id (Post.thnN ?_)
                refine T.seq ?_
                refine T.region ?_
                refine R.mvE rfl (by conv => lhs; whnf) ?_
                refine R.gtr rfl rfl rfl ?_
                refine R.asE rfl (by conv => lhs; whnf) ?_
                refine TL.nil (Post.thnN ?_)
                refine T.ret ?_
                -- way nnnn
                exact fin1 rfl rfl ⟨rfl, congrArg Value.bool hend⟩
          · refine R.ext rfl rfl rfl ?_
            refine TL.nil (Post.thnN ?_)
            refine T.seq ?_
            refine T.condY rfl ?_
            refine T.skip (Post.thnN ?_)
            refine T.block ?_
            refine T.seq ?_
            refine T.region ?_
            obtain ⟨kk, hk1, hk2, hK⟩ := cnt_entry hi.1 hC he
            obtain ⟨hse2, hkv⟩ := hse.step hi hC he hne hk1 hK
            refine R.ent rfl rfl (.tl .hd) (.tl (.tl .hd)) hi.2 he ?_
            refine R.ext rfl rfl rfl ?_
            refine TL.set 42 (.int .i64 kk) hk1 ?_
            refine R.ext rfl rfl rfl ?_
            refine TL.set 43 (.int .i64 (dg xs [] kk : Int)) hk2 ?_
            refine R.asE rfl (by conv => lhs; whnf) ?_
            refine R.asE rfl (by conv => lhs; whnf) ?_
            refine TL.nil (Post.thnN ?_)
            refine T.seq ?_
            refine T.region ?_
            refine R.mvE rfl (by conv => lhs; whnf) ?_
            refine R.eql rfl rfl rfl ?_
            refine TL.nil (Post.thnN ?_)
            refine T.condD rfl (fun c45 => ?_) (fun c45 => ?_)
            · refine T.region ?_
              refine R.mvE rfl (by conv => lhs; whnf) ?_
              refine R.mvE rfl (by conv => lhs; whnf) ?_
              refine R.bs rfl (run_buildSlice1 Tryz.underlying24 Tryz.sizeOf3 Tryz.zeroValue3 rfl rfl) ?_
              intro b48
              refine R.app (ys := [kk]) Tryz_ty24 rfl rfl rfl ho (.tl .hd) (Src.lit (vs := [.int .i64 kk]) .hd) ⟨[.int .i64 kk], [], rfl, rfl, rfl⟩ (by simp only [List.length_cons, List.length_nil]; omega) (by simp only [List.length_cons, List.length_nil]; omega) ?_
              intro v49 c49 w49
              refine TL.del (.tl .hd) ?_
              refine R.asE rfl (by conv => lhs; whnf) ?_
              refine TL.nil (Post.blkN ?_)
              refine id (Post.thnN ?_)
              -- round's end, way nnyy
              have hsl := hse2.len hC
              simp at hsl
              exact ⟨(_, vk ++ [kk], v49, c49), s_1, ⟨rfl, rfl, hse2, by rw [filt1_yes (decide_eq_true c45)]; exact w49⟩, by show m.length - (vk ++ [kk]).length < m.length - vk.length; simp; omega, ⟨rfl, rfl, rfl, rfl, trivial⟩⟩
            · refine T.skip (Post.blkN ?_)
              refine id (Post.thnN ?_)
              -- round's end, way nnyn
              have hsl := hse2.len hC
              simp at hsl
              exact ⟨(_, vk ++ [kk], vf, cf), s_1, ⟨rfl, rfl, hse2, by rw [filt1_no (decide_eq_false c45)]; exact ho⟩, by show m.length - (vk ++ [kk]).length < m.length - vk.length; simp; omega, ⟨rfl, rfl, rfl, rfl, trivial⟩⟩


set_option maxHeartbeats 1600000 in
theorem rleads_c (H : Heap) (v : Value) (xs : List Lk) (a z : Int) (hr : RdS pairE H v xs) (hl : xs.length ≤ 1000) : Fv Tryz.prog (fnv 40) [v, .int .i64 a, .int .i64 z] H (.bool (leadsQ xs a z)) := by
  refine Fc.of_body (N := 32) Tryz.func40 rfl (by kernel_rfl) rfl rfl ?_
  intro w0
  obtain ⟨A, c, rfl, hc1, hc2, hr⟩ := hr.shape
  refine T.seq ?_
  refine T.region ?_
  refine R.asE rfl (by conv => lhs; whnf) ?_
  refine TL.nil (Post.thnN ?_)
  refine T.seq ?_
  refine T.seq ?_
  refine T.region ?_
  refine R.mvE rfl (by conv => lhs; whnf) ?_
  refine R.mvE rfl (by conv => lhs; whnf) ?_
  refine R.callp rfl rfl rfl (to16_c _ _ xs a hr (by omega)) ?_
  intro v13 H13 s13 q13
  obtain ⟨A13, c13, rfl, m13, n13, g13⟩ := q13.shape
  refine R.len Tryz.underlying24 rfl rfl ?_
  refine R.mvE rfl (by conv => lhs; whnf) ?_
  refine TL.nil (Post.thnN ?_)
  refine T.block ?_
  refine T.loop (ι := Nat) (fun k H' L' ds' => k ≤ (toL xs a).length ∧ L' = [] ∧ ds' = [] ∧ ((toL xs a).take k).any (fun v => (wavesL false xs v).any (fun w => w.any (fun y => decide (y = z)))) = false) (fun k => [(0, .slice A xs.length c), (2, .int .i64 z), (13, .slice A13 (toL xs a).length c13), (14, .int .i64 (toL xs a).length), (15, .int .i64 k)]) (fun k => (toL xs a).length - k) (0) ?_ ?_ ?_
  · exact ⟨Nat.zero_le _, rfl, rfl, rfl⟩
  · exact ⟨rfl, rfl, rfl, rfl, rfl, trivial⟩
  · intro k σ0 H_0 L_0 ds_0 s_0 hI_0
    obtain ⟨hk, rfl, rfl, hn⟩ := hI_0
    refine T.seq ?_
    refine T.region ?_
    refine R.lss rfl rfl rfl ?_
    refine TL.nil (Post.thnN ?_)
    refine T.seq ?_
    refine T.condD rfl (fun c16 => ?_) (fun c16 => ?_)
    · have hlt : k < (toL xs a).length := by omega
      obtain ⟨y, hy⟩ := getk hlt
      refine T.skip (Post.thnN ?_)
      refine T.seq ?_
      refine T.block ?_
      refine T.seq ?_
      refine T.region ?_
      obtain ⟨b17, o17, i17, e17⟩ := (g13.mono s_0).elem (hy)
      refine R.ixp Tryz.underlying24 Tryz.sizeOf3 rfl rfl rfl (by omega) i17 ?_
      refine R.ldC Tryz.isAgg3 rfl rfl (e17).int ?_
      refine R.asE rfl (by conv => lhs; whnf) ?_
      refine TL.nil (Post.thnN ?_)
      refine T.seq ?_
      refine T.region ?_
      refine R.mvE rfl (by conv => lhs; whnf) ?_
      refine R.mvE rfl (by conv => lhs; whnf) ?_
      refine R.callp rfl rfl rfl (waves_c _ _ xs y false (hr.mono (s13.trans s_0)) hl) ?_
      intro v21 H21 s21 q21
      obtain ⟨A21, c21, rfl, m21, n21, g21⟩ := q21.shape
      refine R.len Tryz.underlying114 rfl rfl ?_
      refine R.mvE rfl (by conv => lhs; whnf) ?_
      refine TL.nil (Post.thnN ?_)
      refine T.block ?_
      refine T.loop (ι := Nat) (fun q H' L' ds' => q ≤ (wavesL false xs y).length ∧ L' = [] ∧ ds' = [] ∧ ((wavesL false xs y).take q).any (fun w => w.any (fun y => decide (y = z))) = false) (fun q => [(0, .slice A xs.length c), (2, .int .i64 z), (13, .slice A13 (toL xs a).length c13), (14, .int .i64 (toL xs a).length), (15, .int .i64 k), (21, .slice A21 (wavesL false xs y).length c21), (22, .int .i64 (wavesL false xs y).length), (23, .int .i64 q)]) (fun q => (wavesL false xs y).length - q) (0) ?_ ?_ ?_
      · exact ⟨Nat.zero_le _, rfl, rfl, rfl⟩
      · exact ⟨rfl, rfl, rfl, rfl, rfl, rfl, rfl, rfl, trivial⟩
      · intro q σ1 H_1 L_1 ds_1 s_1 hI_1
        obtain ⟨hq, rfl, rfl, hn2⟩ := hI_1
        refine T.seq ?_
        refine T.region ?_
        refine R.lss rfl rfl rfl ?_
        refine TL.nil (Post.thnN ?_)
        refine T.seq ?_
        refine T.condD rfl (fun c24 => ?_) (fun c24 => ?_)
        · have hlt2 : q < (wavesL false xs y).length := by omega
          obtain ⟨w, hw⟩ := getk hlt2
          refine T.skip (Post.thnN ?_)
          refine T.seq ?_
          refine T.block ?_
          refine T.seq ?_
          refine T.region ?_
          obtain ⟨b25, o25, i25, e25⟩ := (g21.mono s_1).elem (hw)
          refine R.ixp Tryz.underlying114 Tryz.sizeOf24 rfl rfl rfl (by omega) i25 ?_
          obtain ⟨v26, k26, r26⟩ := (e25).sl
          obtain ⟨A26, c26, rfl, m26, n26, r26⟩ := r26.shape
          refine R.ldC Tryz.isAgg24 rfl rfl k26 ?_
          refine R.asE rfl (by conv => lhs; whnf) ?_
          refine TL.nil (Post.thnN ?_)
          refine T.seq ?_
          refine T.region ?_
          refine R.mvE rfl (by conv => lhs; whnf) ?_
          refine R.mvE rfl (by conv => lhs; whnf) ?_
          refine R.callv rfl rfl rfl (has16_c _ _ _ z r26) ?_
          refine TL.nil (Post.thnN ?_)
          refine T.cond rfl (fun c29 => ?_) (fun c29 => ?_)
          · refine T.seq ?_
            refine T.region ?_
            refine R.asE rfl (by conv => lhs; whnf) ?_
            refine TL.nil (Post.thnN ?_)
            refine T.ret (Post.blkR (Post.thnR (Post.thnR (Post.blkR (Post.blkR (Post.thnR (Post.thnR (Post.blkR (Post.thnR ?_)))))))))
            -- way yyy
            exact fin1 rfl rfl ⟨rfl, congrArg Value.bool (List.any_eq_true.2 ⟨y, List.mem_of_getElem? hy, List.any_eq_true.2 ⟨w, List.mem_of_getElem? hw, c29⟩⟩).symm⟩
          · refine T.skip (Post.blkN ?_)
            refine id (Post.thnN ?_)
            refine T.region ?_
            refine R.addI rfl rfl rfl (by omega) ?_
            refine R.mvE rfl (by conv => lhs; whnf) ?_
            refine TL.nil (Post.thnN ?_)
            -- round's end, way yyn
            exact ⟨q + 1, s_1, ⟨by omega, rfl, rfl, by rw [take_snoc _ _ _ hw, List.any_append, hn2]; simpa using c29⟩, by omega, ⟨rfl, rfl, rfl, rfl, rfl, rfl, rfl, rfl, trivial⟩⟩
        · refine T.exit (Post.thnE (Post.thnE (Post.blkX ?_)))
          refine id (Post.blkN ?_)
          refine id (Post.thnN ?_)
          refine T.region ?_
          refine R.addI rfl rfl rfl (by omega) ?_
          refine R.mvE rfl (by conv => lhs; whnf) ?_
          refine TL.nil (Post.thnN ?_)
          -- round's end, way yn
          have hqx : q = (wavesL false xs y).length := by omega
          rw [hqx, List.take_length] at hn2
          exact ⟨k + 1, s_0.trans (s21.trans s_1), ⟨by omega, rfl, rfl, by rw [take_snoc _ _ _ hy, List.any_append, hn]; simpa using hn2⟩, by omega, ⟨rfl, rfl, rfl, rfl, rfl, trivial⟩⟩
    · have hkx : k = (toL xs a).length := by omega
      rw [hkx, List.take_length] at hn
      refine T.exit (Post.thnE (Post.thnE (Post.blkX ?_)))
      refine id (Post.thnN ?_)
      refine T.seq ?_
      refine T.region ?_
      refine R.asE rfl (by conv => lhs; whnf) ?_
      refine TL.nil (Post.thnN ?_)
      refine T.ret ?_
      -- way n
      exact fin1 rfl rfl ⟨rfl, congrArg Value.bool hn.symm⟩



end Go.SX

set_option linter.unusedVariables false
set_option linter.unusedSimpArgs false
namespace Go.SX
open Go
def smallC : List Lk := [(3, 4), (4, 5), (5, 3), (5, 6)]
theorem roundQ (xs : List Lk) : roundR xs = (chainB xs && xs.any (fun y => leadsQ xs y.1 y.1)) := by
  unfold roundR
  congr 2
  funext y
  rw [leadsQ_eq]
/-- A way, gone back. -/
theorem Wy.rev {to fr : Int → List Int} (h : ∀ x y, y ∈ to x → x ∈ fr y) : ∀ {p : List Int} {a z : Int}, Wy to a z p → Wy fr z a p.reverse
  | [], a, z, hp => hp.1.elim
  | x :: p, a, z, hp => by
    rcases hp.un with ⟨e, rfl⟩ | ⟨v, r, e, hv, hr⟩
    · injection e with e1 e2
      subst e1; subst e2
      exact Wy.one _ _
    · injection e with e1 e2
      subst e1; subst e2
      have ih := Wy.rev h hr
      rw [List.reverse_cons]
      exact ih.snoc (h _ _ hv)
theorem Dist.rev {to fr : Int → List Int} (h : ∀ x y, y ∈ to x ↔ x ∈ fr y) {a z : Int} {n : Nat} (hd : Dist to a z n) : Dist fr z a n := by
  obtain ⟨⟨p, h1, h2⟩, h3⟩ := hd
  refine ⟨⟨p.reverse, h1.rev (fun x y => (h x y).1), by simpa using h2⟩, fun q hq => ?_⟩
  have := h3 _ (hq.rev (fun x y hy => (h y x).2 hy))
  simpa using this
theorem to_from {xs : List Lk} (x y : Int) : y ∈ toL xs x ↔ x ∈ fromL xs y := by
  unfold toL fromL
  cases chainB xs with
  | false => simp
  | true =>
    simp only [if_true, List.mem_map, List.mem_filter, decide_eq_true_eq]
    constructor
    · rintro ⟨l, ⟨h1, h2⟩, h3⟩; exact ⟨l, ⟨h1, h3⟩, h2⟩
    · rintro ⟨l, ⟨h1, h2⟩, h3⟩; exact ⟨l, ⟨h1, h3⟩, h2⟩
theorem flat_snoc {ws : List (List Int)} {k i : Nat} {w : List Int} {v : Int} (h : w[i]? = some v) : (ws.take k).flatten ++ w.take (i + 1) = ((ws.take k).flatten ++ w.take i) ++ [v] := by
  rw [take_snoc _ _ _ h, List.append_assoc]
end Go.SX

set_option linter.unusedVariables false
set_option linter.unusedSimpArgs false
namespace Go.SX
open Go
def Rch (to : Int → List Int) (a z : Int) : Prop := ∃ p, Wy to a z p
theorem Rch.refl (to : Int → List Int) (a : Int) : Rch to a a := ⟨_, Wy.one to a⟩
theorem Rch.cons {to : Int → List Int} {a v z : Int} (hv : v ∈ to a) (h : Rch to v z) : Rch to a z := by
  obtain ⟨p, hp⟩ := h
  exact ⟨_, hp.cons hv⟩
theorem Rch.un {to : Int → List Int} {a z : Int} (h : Rch to a z) : z = a ∨ ∃ v, v ∈ to a ∧ Rch to v z := by
  obtain ⟨p, hp⟩ := h
  rcases hp.un with ⟨_, h⟩ | ⟨v, r, _, h1, h2⟩
  · exact .inl h
  · exact .inr ⟨v, h1, _, h2⟩
theorem Rch.trans {to : Int → List Int} {a y z : Int} (h : Rch to a y) (k : Rch to y z) : Rch to a z := by
  obtain ⟨p, hp⟩ := h
  obtain ⟨q, hq⟩ := k
  rcases hq.un with ⟨rfl, rfl⟩ | ⟨v, r, rfl, h1, h2⟩
  · exact ⟨p, hp⟩
  · exact ⟨_, hp.join hq⟩
/-- A link more: what is reached is reached without it, or over it. -/
theorem Rch.more {to to' : Int → List Int} {m : Lk} (h : ∀ x y, y ∈ to' x → y ∈ to x ∨ (x = m.1 ∧ y = m.2)) : ∀ {p : List Int} {a z : Int}, Wy to' a z p → Rch to a z ∨ (Rch to a m.1 ∧ Rch to m.2 z)
  | [], a, z, hp => hp.1.elim
  | x :: p, a, z, hp => by
    rcases hp.un with ⟨e, rfl⟩ | ⟨v, r, e, hv, hr⟩
    · exact .inl (Rch.refl _ _)
    · injection e with e1 e2
      subst e1; subst e2
      have ih := Rch.more h hr
      rcases h _ _ hv with h1 | ⟨h1, h2⟩
      · rcases ih with h3 | ⟨h3, h4⟩
        · exact .inl (.cons h1 h3)
        · exact .inr ⟨.cons h1 h3, h4⟩
      · subst h1; subst h2
        rcases ih with h3 | ⟨h3, h4⟩
        · exact .inr ⟨Rch.refl _ _, h3⟩
        · exact .inr ⟨Rch.refl _ _, h4⟩
theorem Rch.mono {to to' : Int → List Int} (h : ∀ x y, y ∈ to x → y ∈ to' x) : ∀ {p : List Int} {a z : Int}, Wy to a z p → Rch to' a z
  | [], a, z, hp => hp.1.elim
  | x :: p, a, z, hp => by
    rcases hp.un with ⟨e, rfl⟩ | ⟨v, r, e, hv, hr⟩
    · exact Rch.refl _ _
    · injection e with e1 e2
      subst e1; subst e2
      exact .cons (h _ _ hv) (Rch.mono h hr)
theorem leads_rch {xs : List Lk} {a z : Int} : leadsR xs a z = true ↔ ∃ v ∈ toL xs a, Rch (toL xs) v z := leads_iff
theorem mem_toL {xs : List Lk} (hc : chainB xs = true) {x y : Int} : y ∈ toL xs x ↔ (x, y) ∈ xs := by
  unfold toL
  rw [if_pos hc]
  simp only [List.mem_map, List.mem_filter, decide_eq_true_eq]
  constructor
  · rintro ⟨l, ⟨h1, h2⟩, h3⟩
    subst h2; subst h3
    exact h1
  · intro h
    exact ⟨_, ⟨h, rfl⟩, rfl⟩
theorem round_iff {xs : List Lk} (hc : chainB xs = true) : roundR xs = true ↔ ∃ x y, (x, y) ∈ xs ∧ Rch (toL xs) y x := by
  unfold roundR
  rw [hc, Bool.true_and, List.any_eq_true]
  constructor
  · rintro ⟨y, _, h2⟩
    obtain ⟨v, hv, h3⟩ := leads_rch.1 h2
    exact ⟨y.1, v, (mem_toL hc).1 hv, h3⟩
  · rintro ⟨x, y, h1, h2⟩
    exact ⟨_, h1, leads_rch.2 ⟨y, (mem_toL hc).2 h1, h2⟩⟩
theorem closes_rch {xs : List Lk} {a z : Int} : (decide (a = z) || leadsR xs z a) = true ↔ Rch (toL xs) z a := by
  rw [Bool.or_eq_true, decide_eq_true_eq, leads_rch]
  constructor
  · rintro (rfl | ⟨v, h1, h2⟩)
    · exact Rch.refl _ _
    · exact .cons h1 h2
  · intro h
    exact h.un
/-- The stage's theorem, in plain words. -/
theorem ring_more {xs n : List Lk} {m : Lk} (hc : chainB xs = true) (hn : chainB n = true) (hmem : ∀ y, y ∈ n ↔ y ∈ xs ∨ y = m) : roundR n = (roundR xs || (decide (m.1 = m.2) || leadsR xs m.2 m.1)) := by
  have h1 : ∀ x y, y ∈ toL n x → y ∈ toL xs x ∨ (x = m.1 ∧ y = m.2) := fun x y h => by
    rcases (hmem _).1 ((mem_toL hn).1 h) with h | h
    · exact .inl ((mem_toL hc).2 h)
    · exact .inr (by rw [← h]; exact ⟨rfl, rfl⟩)
  have h2 : ∀ x y, y ∈ toL xs x → y ∈ toL n x := fun x y h => (mem_toL hn).2 ((hmem _).2 (.inl ((mem_toL hc).1 h)))
  rw [Bool.eq_iff_iff, Bool.or_eq_true, closes_rch, round_iff hc, round_iff hn]
  constructor
  · rintro ⟨x, y, hxy, p, hp⟩
    rcases (hmem _).1 hxy with hxy | hxy
    · rcases Rch.more h1 hp with h | ⟨h, h'⟩
      · exact .inl ⟨x, y, hxy, h⟩
      · exact .inr (h'.trans (.cons ((mem_toL hc).2 hxy) h))
    · subst hxy
      rcases Rch.more h1 hp with h | ⟨h, h'⟩
      · exact .inr h
      · exact .inr h'
  · rintro (⟨x, y, hxy, p, hp⟩ | ⟨p, hp⟩)
    · exact ⟨x, y, (hmem _).2 (.inl hxy), Rch.mono h2 hp⟩
    · exact ⟨m.1, m.2, (hmem _).2 (.inr rfl), Rch.mono h2 hp⟩
theorem ofP_chain {zs : List Lk} (h : zs.length ≤ 1000) (ha : zs.all linkB = true) : chainB (ofP zs) = true := by
  rw [chainB_iff]
  have := ofP_len zs
  exact ⟨by omega, fun y hy => List.all_eq_true.1 ha y ((ofP_mem zs y).1 hy), ofP_up zs⟩
end Go.SX
namespace Go.SX
open Go
end Go.SX

set_option linter.unusedVariables false
set_option linter.unusedSimpArgs false
namespace Go.SX
open Go
def Acyc (xs : List Lk) : Prop := chainB xs = true ∧ roundR xs = false
def maxL (l : List Int) : Int := l.foldl max 0
theorem maxL_snoc (l : List Int) (a : Int) : maxL (l ++ [a]) = max (maxL l) a := by unfold maxL; rw [List.foldl_append]; rfl
theorem maxL_fold : ∀ (l : List Int) (b c : Int), (∀ a ∈ l, a ≤ c) → b ≤ c → l.foldl max b ≤ c
  | [], b, c, _, h => h
  | a :: l, b, c, h, hb => maxL_fold l (max b a) c (fun x hx => h x (List.mem_cons_of_mem _ hx)) (by have := h a (List.mem_cons_self ..); omega)
theorem maxL_base : ∀ (l : List Int) (b : Int), b ≤ l.foldl max b
  | [], b => Int.le_refl _
  | a :: l, b => by have := maxL_base l (max b a); simp only [List.foldl_cons]; omega
theorem maxL_has : ∀ (l : List Int) (b : Int) {a : Int}, a ∈ l → a ≤ l.foldl max b
  | x :: l, b, a, h => by
    rcases List.mem_cons.1 h with rfl | h
    · have := maxL_base l (max b a); simp only [List.foldl_cons]; omega
    · exact maxL_has l _ h
theorem maxL_nn (l : List Int) : 0 ≤ maxL l := maxL_base l 0
theorem maxL_mem {l : List Int} {a : Int} (h : a ∈ l) : a ≤ maxL l := maxL_has l 0 h
theorem maxL_le {l : List Int} {c : Int} (h : ∀ a ∈ l, a ≤ c) (hc : 0 ≤ c) : maxL l ≤ c := maxL_fold l 0 c h hc
theorem filter_lt {α : Type} {p q : α → Bool} : ∀ {l : List α} {y : α}, (∀ x ∈ l, p x = true → q x = true) → y ∈ l → q y = true → p y = false → (l.filter p).length < (l.filter q).length
  | [], y, _, h, _, _ => by simp at h
  | x :: l, y, hpq, h, hq, hp => by
    have hle : ∀ m : List α, (∀ x ∈ m, p x = true → q x = true) → (m.filter p).length ≤ (m.filter q).length := fun m => by
      induction m with
      | nil => intro _; simp
      | cons z m ih =>
        intro hm
        have i1 := ih (fun x hx => hm x (List.mem_cons_of_mem _ hx))
        by_cases hz : p z = true
        · rw [List.filter_cons_of_pos hz, List.filter_cons_of_pos (hm z (List.mem_cons_self ..) hz)]; simp; exact i1
        · rw [List.filter_cons_of_neg hz]
          by_cases hz2 : q z = true
          · rw [List.filter_cons_of_pos hz2]; simp only [List.length_cons]; omega
          · rw [List.filter_cons_of_neg hz2]; exact i1
    have h1 := hle l (fun x hx => hpq x (List.mem_cons_of_mem _ hx))
    rcases List.mem_cons.1 h with rfl | h
    · rw [List.filter_cons_of_neg (by rw [hp]; simp), List.filter_cons_of_pos hq]; simp only [List.length_cons]; omega
    · have ih := filter_lt (fun x hx => hpq x (List.mem_cons_of_mem _ hx)) h hq hp
      by_cases hx : p x = true
      · rw [List.filter_cons_of_pos hx, List.filter_cons_of_pos (hpq x (List.mem_cons_self ..) hx)]; simp only [List.length_cons]; omega
      · rw [List.filter_cons_of_neg hx]
        by_cases hx2 : q x = true
        · rw [List.filter_cons_of_pos hx2]; simp only [List.length_cons]; omega
        · rw [List.filter_cons_of_neg hx2]; exact ih
def rankL (xs : List Lk) (n : Int) : Nat := (xs.filter (fun x => decide (x.1 = n) || leadsR xs n x.1)).length
theorem acyc_no {xs : List Lk} (h : Acyc xs) {n t : Int} (hl : (n, t) ∈ xs) : ¬ Rch (toL xs) t n := fun hr => by
  have := (round_iff h.1).2 ⟨n, t, hl, hr⟩
  rw [h.2] at this; cases this
theorem rank_lt {xs : List Lk} (h : Acyc xs) {n t : Int} (ht : t ∈ toL xs n) : rankL xs t < rankL xs n := by
  have hm := (mem_toL h.1).1 ht
  refine filter_lt (y := (n, t)) (fun x _ hx => closes_rch.2 (.cons ht (closes_rch.1 hx))) hm (closes_rch.2 (Rch.refl _ _)) ?_
  rw [Bool.eq_false_iff]
  intro hx
  exact acyc_no h hm (closes_rch.1 hx)
theorem rank_le (xs : List Lk) (n : Int) : rankL xs n ≤ xs.length := List.length_filter_le _ _
def depF (xs : List Lk) : Nat → Int → Int
  | 0, _ => 0
  | k + 1, n => maxL ((toL xs n).map (fun t => depF xs k t + 1))
def depL (xs : List Lk) (n : Int) : Int := depF xs xs.length n
theorem depF_eq {xs : List Lk} (h : Acyc xs) : ∀ (k j : Nat) (n : Int), rankL xs n ≤ k → rankL xs n ≤ j → depF xs k n = depF xs j n
  | 0, 0, n, _, _ => rfl
  | 0, j + 1, n, h1, h2 => by
    have h0 : toL xs n = [] := by
      cases e : toL xs n with
      | nil => rfl
      | cons t r => have := rank_lt h (n := n) (t := t) (by rw [e]; exact List.mem_cons_self ..); omega
    simp [depF, h0, maxL]
  | k + 1, 0, n, h1, h2 => by
    have h0 : toL xs n = [] := by
      cases e : toL xs n with
      | nil => rfl
      | cons t r => have := rank_lt h (n := n) (t := t) (by rw [e]; exact List.mem_cons_self ..); omega
    simp [depF, h0, maxL]
  | k + 1, j + 1, n, h1, h2 => by
    unfold depF
    congr 1
    refine List.map_congr_left fun t ht => ?_
    have := rank_lt h ht
    rw [depF_eq h k j t (by omega) (by omega)]
theorem dep_eq {xs : List Lk} (h : Acyc xs) (n : Int) : depL xs n = maxL ((toL xs n).map (fun t => depL xs t + 1)) := by
  have := depF_eq h xs.length (xs.length + 1) n (rank_le _ _) (by have := rank_le xs n; omega)
  unfold depL
  rw [this]; rfl
theorem depF_bd (xs : List Lk) : ∀ (k : Nat) (n : Int), 0 ≤ depF xs k n ∧ depF xs k n ≤ k
  | 0, n => by simp [depF]
  | k + 1, n => ⟨maxL_nn _, maxL_le (fun a ha => by
    obtain ⟨t, _, rfl⟩ := List.mem_map.1 ha
    have := (depF_bd xs k t).2
    omega) (by omega)⟩
theorem dep_bd (xs : List Lk) (n : Int) : 0 ≤ depL xs n ∧ depL xs n ≤ xs.length := depF_bd xs _ n
theorem dep_lt {xs : List Lk} (h : Acyc xs) {n t : Int} (ht : t ∈ toL xs n) : depL xs t < depL xs n := by
  have := maxL_mem (List.mem_map.2 ⟨t, ht, rfl⟩ : depL xs t + 1 ∈ (toL xs n).map (fun t => depL xs t + 1))
  rw [dep_eq h n]; omega
theorem dep_none {xs : List Lk} (h : Acyc xs) {n : Int} (hn : toL xs n = []) : depL xs n = 0 := by rw [dep_eq h n, hn]; rfl

/-- each once, of neighbours -/
def compactI : List Int → List Int
  | [] => []
  | [a] => [a]
  | a :: b :: r => if a = b then compactI (b :: r) else a :: compactI (b :: r)
theorem compactI_snoc : ∀ (l : List Int) (z y : Int), compactI (l ++ [z] ++ [y]) = if y = z then compactI (l ++ [z]) else compactI (l ++ [z]) ++ [y]
  | [], z, y => by
    show compactI [z, y] = _
    by_cases h : y = z
    · subst h; simp [compactI]
    · simp [compactI, h, Ne.symm h]
  | [a], z, y => by
    have ih := compactI_snoc [] z y
    simp only [List.nil_append, List.cons_append] at ih ⊢
    show compactI (a :: z :: [y]) = if y = z then compactI [a, z] else compactI [a, z] ++ [y]
    by_cases h : a = z
    · simp only [compactI, if_pos h] at ih ⊢; exact ih
    · simp only [compactI, if_neg h] at ih ⊢
      by_cases e : y = z
      · rw [if_pos e] at ih ⊢; rw [ih]
      · rw [if_neg e] at ih ⊢; rw [ih]; rfl
  | a :: b :: l, z, y => by
    have ih := compactI_snoc (b :: l) z y
    simp only [List.cons_append] at ih ⊢
    by_cases h : a = b
    · simp only [compactI, if_pos h]; exact ih
    · simp only [compactI, if_neg h]
      by_cases e : y = z
      · rw [if_pos e] at ih ⊢; rw [ih]
      · rw [if_neg e] at ih ⊢; rw [ih]; rfl
theorem compactI_take {xs : List Int} {k : Nat} {z y : Int} (hz : xs[k]? = some z) (hy : xs[k + 1]? = some y) : compactI (xs.take (k + 2)) = if y = z then compactI (xs.take (k + 1)) else compactI (xs.take (k + 1)) ++ [y] := by
  rw [take_snoc _ _ _ hy, take_snoc _ _ _ hz]
  exact compactI_snoc _ z y
theorem compactI_len : ∀ l : List Int, (compactI l).length ≤ l.length
  | [] => by simp [compactI]
  | [a] => by simp [compactI]
  | a :: b :: r => by
    have := compactI_len (b :: r)
    unfold compactI
    split
    · simp only [List.length_cons] at this ⊢; omega
    · simp only [List.length_cons] at this ⊢; omega
theorem compactI_mem : ∀ {l : List Int} {x : Int}, x ∈ compactI l ↔ x ∈ l
  | [], x => by simp [compactI]
  | [a], x => by simp [compactI]
  | a :: b :: r, x => by
    have ih := compactI_mem (l := b :: r) (x := x)
    unfold compactI
    split
    · rename_i h; subst h; rw [ih]; simp
    · rw [List.mem_cons, ih, List.mem_cons (a := x) (b := a)]
theorem compactI_one (xs : List Int) : compactI (xs.take 1) = xs.take 1 := by
  cases xs with
  | nil => rfl
  | cons a r => rfl
theorem compactI_short {xs : List Int} (h : xs.length < 2) : compactI xs = xs := by
  match xs, h with
  | [], _ => rfl
  | [a], _ => rfl
def allL (xs : List Lk) : List Int := compactI (xs.map (·.1))
theorem all_mem {xs : List Lk} {n : Int} : n ∈ allL xs ↔ ∃ y ∈ xs, y.1 = n := by unfold allL; rw [compactI_mem, List.mem_map]
theorem all_len (xs : List Lk) : (allL xs).length ≤ xs.length := by have := compactI_len (xs.map (·.1)); simpa [allL] using this
theorem all_pos {xs : List Lk} (h : Acyc xs) {n : Int} (hn : n ∈ allL xs) : 0 < depL xs n := by
  obtain ⟨y, hy, rfl⟩ := all_mem.1 hn
  have h1 : y.2 ∈ toL xs y.1 := (mem_toL h.1).2 hy
  have := dep_lt h h1
  have := (dep_bd xs y.2).1
  omega
def ofD (xs : List Lk) : List Lk := (allL xs).map (fun n => (n, depL xs n))
theorem ofD_len (xs : List Lk) : (ofD xs).length ≤ xs.length := by unfold ofD; rw [List.length_map]; exact all_len xs
/-- Depths that may be. -/
def rightD (d : List Lk) : Bool := decide ((∀ y ∈ d, 1 ≤ y.1 ∧ y.1 ≤ 1048578 ∧ 1 ≤ y.2) ∧ d.Pairwise (fun a b => a.1 < b.1))
theorem rightD_iff {d : List Lk} : rightD d = true ↔ (∀ y ∈ d, 1 ≤ y.1 ∧ y.1 ≤ 1048578 ∧ 1 ≤ y.2) ∧ d.Pairwise (fun a b => a.1 < b.1) := by unfold rightD; simp
theorem rightD_nil : rightD [] = true := by rw [rightD_iff]; exact ⟨fun y h => by simp at h, List.Pairwise.nil⟩
def atD (d : List Lk) (n : Int) : Int := ((d.find? (fun x => decide (x.1 = n))).map (·.2)).getD 0
/-- Where a number stands among depths that may be. -/
def BSI (d : List Lk) (n : Int) (i : Nat) : Prop := i ≤ d.length ∧ (∀ (k : Nat) y, d[k]? = some y → (y.1 < n ↔ k < i))
theorem rise_get {d : List Lk} (h : rightD d = true) {j k : Nat} {x y : Lk} (hx : d[j]? = some x) (hy : d[k]? = some y) (hjk : j < k) : x.1 < y.1 := by
  have hp := (rightD_iff.1 h).2
  obtain ⟨h1, rfl⟩ := List.getElem?_eq_some_iff.1 hx
  obtain ⟨h2, rfl⟩ := List.getElem?_eq_some_iff.1 hy
  exact List.pairwise_iff_getElem.1 hp j k h1 h2 hjk
theorem bs_at {d : List Lk} (h : rightD d = true) {n : Int} {i : Nat} (hb : BSI d n i) : atD d n = (match d[i]? with | some y => if y.1 = n then y.2 else 0 | none => 0) := by
  have key : ∀ (d : List Lk) (i : Nat), d.Pairwise (fun a b => a.1 < b.1) → i ≤ d.length → (∀ (k : Nat) y, d[k]? = some y → (y.1 < n ↔ k < i)) → atD d n = (match d[i]? with | some y => if y.1 = n then y.2 else 0 | none => 0) := fun d => by
    induction d with
    | nil => intro i _ hi _; have : i = 0 := by simpa using hi
             subst this; rfl
    | cons x d ih =>
      intro i hp hi hk
      cases i with
      | zero =>
        have h0 := hk 0 x rfl
        have hx : ¬ x.1 < n := fun e => by have := h0.1 e; omega
        show atD (x :: d) n = if x.1 = n then x.2 else 0
        unfold atD
        by_cases e : x.1 = n
        · rw [List.find?_cons_of_pos (by simpa using e), if_pos e]; rfl
        · rw [List.find?_cons_of_neg (by simpa using e), if_neg e]
          have : d.find? (fun x => decide (x.1 = n)) = none := by
            rw [List.find?_eq_none]
            intro y hy
            have := (List.pairwise_cons.1 hp).1 y hy
            simp; omega
          rw [this]; rfl
      | succ i =>
        have h0 := (hk 0 x rfl).2 (by omega)
        have i1 := ih i (List.pairwise_cons.1 hp).2 (by simpa using hi) (fun k y hy => by have := hk (k + 1) y (by simpa using hy); omega)
        show atD (x :: d) n = (match d[i]? with | some y => if y.1 = n then y.2 else 0 | none => 0)
        rw [← i1]
        unfold atD
        rw [List.find?_cons_of_neg (by simp; omega)]
  exact key d i (rightD_iff.1 h).2 hb.1 hb.2
end Go.SX

set_option linter.unusedVariables false
set_option linter.unusedSimpArgs false
namespace Go.SX
open Go Go.Sort Go.Proofs
theorem maxL_ext {l m : List Int} (h : ∀ a, a ∈ l → a ∈ m) : maxL l ≤ maxL m := maxL_le (fun a ha => maxL_mem (h a ha)) (maxL_nn _)
/-- Who does not lead to it is as deep as it was. -/
theorem dep_same {xs ys : List Lk} (hx : Acyc xs) (hy : Acyc ys) {a : Int} (h : ∀ n, n ≠ a → ∀ t, t ∈ toL xs n ↔ t ∈ toL ys n) : ∀ (k : Nat) (n : Int), rankL xs n ≤ k → ¬ Rch (toL xs) n a → depL xs n = depL ys n := fun k => by
  induction k with
  | zero =>
    intro n hk hn
    have h0 : toL xs n = [] := by
      cases e : toL xs n with
      | nil => rfl
      | cons t r => have := rank_lt hx (n := n) (t := t) (by rw [e]; exact List.mem_cons_self ..); omega
    have hne : n ≠ a := fun e => hn (e ▸ Rch.refl _ _)
    have h1 : toL ys n = [] := by
      cases e : toL ys n with
      | nil => rfl
      | cons t r =>
        have := (h n hne t).2 (by rw [e]; exact List.mem_cons_self ..)
        rw [h0] at this; simp at this
    rw [dep_none hx h0, dep_none hy h1]
  | succ k ih =>
    intro n hk hn
    have hne : n ≠ a := fun e => hn (e ▸ Rch.refl _ _)
    have hstep : ∀ t ∈ toL xs n, depL xs t = depL ys t := fun t ht => ih t (by have := rank_lt hx ht; omega) (fun hr => hn (.cons ht hr))
    rw [dep_eq hx n, dep_eq hy n]
    apply Int.le_antisymm
    · refine maxL_ext (fun b hb => ?_)
      obtain ⟨t, ht, rfl⟩ := List.mem_map.1 hb
      exact List.mem_map.2 ⟨t, (h n hne t).1 ht, by rw [hstep t ht]⟩
    · refine maxL_ext (fun b hb => ?_)
      obtain ⟨t, ht, rfl⟩ := List.mem_map.1 hb
      have ht' := (h n hne t).2 ht
      exact List.mem_map.2 ⟨t, ht', by rw [hstep t ht']⟩
theorem back_mem {xs : List Lk} {a v : Int} : v ∈ (wavesL true xs a).flatten ↔ Rch (toL xs) v a := by
  have hW := wavesL_all true xs a
  constructor
  · intro h
    obtain ⟨w, h1, h2⟩ := List.mem_flatten.1 h
    obtain ⟨k, hk⟩ := List.mem_iff_getElem?.1 h1
    have hd : Dist (fromL xs) a v k := (hW.lv k v).1 ⟨w, hk, h2⟩
    obtain ⟨⟨p, hp, _⟩, _⟩ := hd.rev (fr := toL xs) (fun x y => (to_from y x).symm)
    exact ⟨p, hp⟩
  · rintro ⟨p, hp⟩
    obtain ⟨n, hn, _⟩ := Dist.of hp
    obtain ⟨w, h1, h2⟩ := (hW.lv n v).2 (hn.rev to_from)
    exact List.mem_flatten.2 ⟨w, List.mem_of_getElem? h1, h2⟩
/-- the links with one more -/
theorem more_mem {xs : List Lk} {m y : Lk} : y ∈ ofP (xs ++ [m]) ↔ y ∈ xs ∨ y = m := by rw [ofP_mem]; simp
theorem link_all {xs : List Lk} {m : Lk} (hc : chainB xs = true) (hm : linkB m = true) : (xs ++ [m]).all linkB = true := by
  rw [List.all_eq_true]
  intro y hy
  rcases List.mem_append.1 hy with h | h
  · exact (chainB_iff.1 hc).2.1 y h
  · rw [List.mem_singleton.1 h]; exact hm
theorem more_acyc {xs : List Lk} {m : Lk} (h : Acyc xs) (hl : xs.length ≤ 900) (hm : linkB m = true) (hn : (decide (m.1 = m.2) || leadsR xs m.2 m.1) = false) : Acyc (ofP (xs ++ [m])) := by
  have hch : chainB (ofP (xs ++ [m])) = true := ofP_chain (by simp; omega) (link_all h.1 hm)
  refine ⟨hch, ?_⟩
  rw [ring_more h.1 hch (fun y => more_mem), h.2, hn]; rfl
theorem more_put {xs : List Lk} {m : Lk} (hc : chainB xs = true) : putP xs m = ofP (xs ++ [m]) := by
  have e : ofP xs = xs := upP_ext (ofP_up xs) (chainB_iff.1 hc).2.2 (fun y => ofP_mem xs y)
  have := ofP_snoc (xs := xs ++ [m]) (k := xs.length) (y := m) (by rw [List.getElem?_append_right (Nat.le_refl _), Nat.sub_self]; rfl)
  rw [List.take_left' rfl, List.take_of_length_le (by simp), e] at this
  exact this.symm
/-- .. with one less -/
def delL (xs : List Lk) (m : Lk) : List Lk := xs.filter (fun y => !decide (y = m))
theorem del_mem {xs : List Lk} {m y : Lk} : y ∈ delL xs m ↔ y ∈ xs ∧ y ≠ m := by unfold delL; rw [List.mem_filter]; simp
theorem del_chain {xs : List Lk} (m : Lk) (hc : chainB xs = true) : chainB (delL xs m) = true := by
  obtain ⟨h1, h2, h3⟩ := chainB_iff.1 hc
  refine chainB_iff.2 ⟨Nat.le_trans (List.length_filter_le _ _) h1, fun y hy => h2 y (del_mem.1 hy).1, h3.sublist List.filter_sublist⟩
theorem del_acyc {xs : List Lk} (m : Lk) (h : Acyc xs) : Acyc (delL xs m) := by
  have hc := del_chain m h.1
  refine ⟨hc, ?_⟩
  rw [Bool.eq_false_iff]
  intro hr
  obtain ⟨x, y, hxy, p, hp⟩ := (round_iff hc).1 hr
  have hr2 := Rch.mono (to' := toL xs) (fun a b hb => (mem_toL h.1).2 (del_mem.1 ((mem_toL hc).1 hb)).1) hp
  exact acyc_no h (del_mem.1 hxy).1 hr2
theorem more_out {xs : List Lk} {m : Lk} (hc : chainB xs = true) (hl : xs.length ≤ 900) (hm : linkB m = true) : ∀ n, n ≠ m.1 → ∀ t, t ∈ toL (ofP (xs ++ [m])) n ↔ t ∈ toL xs n := fun n hn t => by
  have hch : chainB (ofP (xs ++ [m])) = true := ofP_chain (by simp; omega) (link_all hc hm)
  rw [mem_toL hch, mem_toL hc, more_mem]
  constructor
  · rintro (h | h)
    · exact h
    · exact absurd (by rw [← h]) hn
  · exact .inl
theorem del_out {xs : List Lk} {m : Lk} (hc : chainB xs = true) : ∀ n, n ≠ m.1 → ∀ t, t ∈ toL (delL xs m) n ↔ t ∈ toL xs n := fun n hn t => by
  rw [mem_toL (del_chain m hc), mem_toL hc, del_mem]
  constructor
  · exact fun h => h.1
  · exact fun h => ⟨h, fun e => hn (by rw [← e])⟩
/-! numbers by how deep they are -/
theorem perm_sorted {α : Type} {r : α → α → Prop} (has : ∀ a b, r a b → r b a → a = b) : ∀ {l m : List α}, l.Perm m → l.Pairwise r → m.Pairwise r → l = m
  | [], m, hp, _, _ => (hp.nil_eq).trans rfl
  | a :: l, [], hp, _, _ => absurd hp.length_eq (by simp)
  | a :: l, b :: m, hp, hl, hm => by
    have hab : a = b := by
      have h1 : a ∈ b :: m := hp.subset (List.mem_cons_self ..)
      have h2 : b ∈ a :: l := hp.symm.subset (List.mem_cons_self ..)
      rcases List.mem_cons.1 h1 with e | h1
      · exact e
      · rcases List.mem_cons.1 h2 with e | h2
        · exact e.symm
        · exact has a b ((List.pairwise_cons.1 hl).1 b h2) ((List.pairwise_cons.1 hm).1 a h1)
    subst hab
    rw [perm_sorted has (hp.cons_inv) (List.pairwise_cons.1 hl).2 (List.pairwise_cons.1 hm).2]
/-- how numbers stand -/
def leO (d : List Lk) (a b : Int) : Prop := atD d a < atD d b ∨ (atD d a = atD d b ∧ a ≤ b)
theorem leO_anti (d : List Lk) (a b : Int) (h : leO d a b) (k : leO d b a) : a = b := by unfold leO at *; omega
theorem leO_trans {d : List Lk} {a b c : Int} (h : leO d a b) (k : leO d b c) : leO d a c := by unfold leO at *; omega
instance (d : List Lk) (a b : Int) : Decidable (leO d a b) := by unfold leO; infer_instance
/-- the reference: each put behind all that stand not behind it, from the front -/
def insO (d : List Lk) (out : List Int) (n : Int) : List Int := out.takeWhile (fun y => decide (leO d y n)) ++ [n] ++ out.dropWhile (fun y => decide (leO d y n))
def refO (d : List Lk) (l : List Int) : List Int := l.foldl (insO d) []
theorem insO_perm (d : List Lk) (out : List Int) (n : Int) : (insO d out n).Perm (n :: out) := by
  unfold insO
  have h := List.takeWhile_append_dropWhile (p := fun y => decide (leO d y n)) (l := out)
  rw [List.append_assoc]
  refine List.perm_middle.trans ?_
  show (n :: (out.takeWhile (fun y => decide (leO d y n)) ++ out.dropWhile (fun y => decide (leO d y n)))).Perm (n :: out)
  rw [h]
theorem insO_sorted {d : List Lk} {out : List Int} (n : Int) (h : out.Pairwise (leO d)) : (insO d out n).Pairwise (leO d) := by
  unfold insO
  induction out with
  | nil => simp
  | cons a out ih =>
    obtain ⟨h1, h2⟩ := List.pairwise_cons.1 h
    by_cases ha : leO d a n
    · rw [List.takeWhile_cons_of_pos (by simpa using ha), List.dropWhile_cons_of_pos (by simpa using ha)]
      refine List.pairwise_cons.2 ⟨fun y hy => ?_, ih h2⟩
      have hp := insO_perm d out n
      unfold insO at hp
      rcases List.mem_cons.1 (hp.subset hy) with rfl | hy
      · exact ha
      · exact h1 y hy
    · rw [List.takeWhile_cons_of_neg (by simpa using ha), List.dropWhile_cons_of_neg (by simpa using ha)]
      have hna : leO d n a := by unfold leO at *; omega
      refine List.pairwise_cons.2 ⟨fun y hy => ?_, h⟩
      rcases List.mem_cons.1 hy with rfl | hy
      · exact hna
      · exact leO_trans hna (h1 y hy)
theorem refO_go (d : List Lk) : ∀ (l out : List Int), out.Pairwise (leO d) → (l.foldl (insO d) out).Pairwise (leO d) ∧ (l.foldl (insO d) out).Perm (l ++ out)
  | [], out, h => ⟨h, List.Perm.refl _⟩
  | a :: l, out, h => by
    have ih := refO_go d l (insO d out a) (insO_sorted a h)
    refine ⟨ih.1, ih.2.trans ?_⟩
    refine ((insO_perm d out a).append_left l).trans ?_
    exact List.perm_middle
theorem refO_sorted (d : List Lk) (l : List Int) : (refO d l).Pairwise (leO d) := (refO_go d l [] List.Pairwise.nil).1
theorem refO_perm (d : List Lk) (l : List Int) : (refO d l).Perm l := by have := (refO_go d l [] List.Pairwise.nil).2; rwa [List.append_nil] at this
theorem orderO_eq {d : List Lk} {l out : List Int} (hp : out.Perm l) (hs : out.Pairwise (leO d)) : out = refO d l := perm_sorted (leO_anti d) (hp.trans (refO_perm d l).symm) hs (refO_sorted d l)
end Go.SX
namespace Go.SX
open Go
/-- the indexes from which the first k links lead -/
def allK (xs : List Lk) (k : Nat) : List Int := compactI ((xs.take k).map (·.1))
theorem allK_all (xs : List Lk) : allK xs xs.length = allL xs := by unfold allK allL; rw [List.take_length]
theorem allK_len (xs : List Lk) (k : Nat) : (allK xs k).length ≤ xs.length := by
  have := compactI_len ((xs.take k).map (·.1))
  unfold allK
  simp at this ⊢; omega
theorem allK_zero {xs : List Lk} {y : Lk} (hy : xs[0]? = some y) : allK xs 1 = allK xs 0 ++ [y.1] := by
  unfold allK
  cases xs with
  | nil => simp at hy
  | cons a r => simp at hy; subst hy; rfl
theorem allK_snoc {xs : List Lk} {k : Nat} {z y : Lk} (hz : xs[k]? = some z) (hy : xs[k + 1]? = some y) : allK xs (k + 2) = if z.1 = y.1 then allK xs (k + 1) else allK xs (k + 1) ++ [y.1] := by
  unfold allK
  have h := compactI_take (xs := xs.map (·.1)) (k := k) (z := z.1) (y := y.1) (by rw [List.getElem?_map, hz]; rfl) (by rw [List.getElem?_map, hy]; rfl)
  rw [← List.map_take, ← List.map_take] at h
  rw [h]
  by_cases e : z.1 = y.1
  · rw [if_pos e, if_pos e.symm]
  · rw [if_neg e, if_neg (fun h => e h.symm)]
/-- the greatest depth behind the first k links of one -/
def mostL (xs : List Lk) (n : Int) (k : Nat) : Int := maxL (((xs.take k).filter (fun y => decide (y.1 = n))).map (fun y => depL xs y.2 + 1))
theorem mostL_zero (xs : List Lk) (n : Int) : mostL xs n 0 = 0 := by unfold mostL; rw [List.take_zero]; rfl
theorem mostL_snoc {xs : List Lk} {n : Int} {k : Nat} {y : Lk} (hy : xs[k]? = some y) : mostL xs n (k + 1) = if y.1 = n then max (mostL xs n k) (depL xs y.2 + 1) else mostL xs n k := by
  unfold mostL
  rw [take_snoc _ _ _ hy, List.filter_append]
  by_cases h : y.1 = n
  · rw [if_pos h, List.filter_cons_of_pos (by simpa using h), List.filter_nil, List.map_append, List.map_cons, List.map_nil, maxL_snoc]
  · rw [if_neg h, List.filter_cons_of_neg (by simpa using h), List.filter_nil, List.append_nil]
theorem mostL_all {xs : List Lk} (h : Acyc xs) (n : Int) : mostL xs n xs.length = depL xs n := by
  rw [dep_eq h n]
  unfold mostL toL
  rw [List.take_length, if_pos h.1, List.map_map]; rfl
/-- what is known of depths: a map whose entries are right -/
def KOK (xs : List Lk) (m : MapL) : Prop := ∀ k v, mget m k = some v → v = .int .i64 (depL xs k)
theorem KOK.nil (xs : List Lk) : KOK xs [] := fun k v h => by simp [mget] at h
theorem KOK.put {xs : List Lk} {m : MapL} (h : KOK xs m) {k d : Int} (hd : d = depL xs k) : KOK xs (mput m k (.int .i64 d)) := fun j v hj => by
  rw [mget_mput] at hj
  by_cases e : j = k
  · rw [if_pos e] at hj; injection hj with hj; rw [← hj, hd, e]
  · rw [if_neg e] at hj; exact h j v hj
def KLe (m m' : MapL) : Prop := ∀ k, mget m k ≠ none → mget m' k ≠ none
theorem KLe.refl (m : MapL) : KLe m m := fun k h => h
theorem KLe.trans {a b c : MapL} (h : KLe a b) (k : KLe b c) : KLe a c := fun j hj => k j (h j hj)
theorem KLe.put (m : MapL) (k : Int) (v : Value) : KLe m (mput m k v) := fun j hj => by
  rw [mget_mput]; split
  · simp
  · exact hj
theorem mput_at (m : MapL) (k : Int) (v : Value) : mget (mput m k v) k ≠ none := by rw [mget_mput, if_pos rfl]; simp
theorem KOK.is {xs : List Lk} {m : MapL} (h : KOK xs m) {k : Int} (hk : mget m k ≠ none) {z : Value} : (mget m k).getD z = .int .i64 (depL xs k) := by
  cases e : mget m k with
  | none => exact absurd e hk
  | some v => exact h k v e
end Go.SX
namespace Go.SX
open Go
def ofDR (xs : List Lk) : List Lk × Int := if chainB xs then (if roundR xs then ([], 270) else (ofD xs, 0)) else ([], 260)
theorem ofDR_a {xs : List Lk} (h : chainB xs = false) : ofDR xs = ([], 260) := by unfold ofDR; rw [h]; rfl
theorem ofDR_b {xs : List Lk} (h : chainB xs = true) (h2 : roundR xs = true) : ofDR xs = ([], 270) := by unfold ofDR; rw [h, h2]; rfl
theorem ofDR_c {xs : List Lk} (h : Acyc xs) : ofDR xs = (ofD xs, 0) := by unfold ofDR; rw [h.1, h.2]; rfl
end Go.SX
