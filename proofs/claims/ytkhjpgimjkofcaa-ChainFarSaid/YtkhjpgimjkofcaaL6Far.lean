/- ChainFar answers true, whatever the input. -/
import Derived.Test.YtkhjpgimjkofcaaCo4
set_option linter.unusedVariables false
set_option linter.unusedSimpArgs false
namespace Go.SX
open Go Go.Proofs

set_option maxHeartbeats 1600000 in
theorem far1_c (H : Heap) (b : Nat) (z : Int) (v : Value) (xs : List Int) (h1 : H b = some (.cells #[.int .i64 z] 3)) (hr : RdS (intE .i64) H v xs) : Fv Try.prog (.func (.func 56) #[] ([.pointer (some ⟨b, 0, none⟩)] : List Value).toArray) [v] H (.bool (xs.any (fun y => decide (z = y)))) := by
  refine Fc.of_body (N := 7) Try.func56 rfl (by kernel_rfl) rfl rfl ?_
  intro w0
  refine T.seq ?_
  refine T.region ?_
  refine R.asE rfl (by conv => lhs; whnf) ?_
  refine TL.nil (Post.thnN ?_)
  refine T.seq ?_
  refine T.region ?_
  refine R.mvE rfl (by conv => lhs; whnf) ?_
  refine R.ldH Try.isAgg3 rfl rfl (h1) rfl ?_
  refine R.callv rfl rfl rfl (containsI23_c _ _ _ z hr) ?_
  refine R.asE rfl (by conv => lhs; whnf) ?_
  refine TL.nil (Post.thnN ?_)
  refine T.ret ?_
  exact fin1 rfl rfl ⟨rfl, rfl⟩


set_option maxHeartbeats 1600000 in
theorem chainFar_c (H : Heap) (u : Value) (xs : List Lk) (a : Int) (hr : RdS pairE H u xs) : Fv Try.prog (fnv 12) [u, .int .i64 a] H (.bool true) := by
  refine Fc.of_body (N := 111) Try.func12 rfl (by kernel_rfl) rfl rfl ?_
  intro w0
  obtain ⟨A, c, rfl, hc1, hc2, hr⟩ := hr.shape
  obtain ⟨fx, hfx⟩ : ∃ l, l = xs.take 30 := ⟨_, rfl⟩
  have hfl : fx.length ≤ 1000 := by rw [hfx]; simp; omega
  refine T.seq ?_
  refine T.region ?_
  refine R.asE rfl (by conv => lhs; whnf) ?_
  refine TL.nil (Post.thnN ?_)
  refine T.seq ?_
  refine T.seq ?_
  refine T.region ?_
  refine R.callv rfl rfl rfl (wakes16_c _) ?_
  refine R.not rfl rfl ?_
  refine TL.nil (Post.thnN ?_)
  refine T.condN rfl ?_
  refine T.skip (Post.thnN ?_)
  refine T.seq ?_
  refine T.region ?_
  refine R.mvE rfl (by conv => lhs; whnf) ?_
  refine TL.call [] rfl rfl rfl (own16_c _ _ _ hr) ?_
  intro v19 H19 L19 s19 q19
  obtain ⟨c19, rfl, w19⟩ := q19
  rw [← hfx] at w19
  refine TL.shut .hd ?_
  intro HF19 sF19 qF19
  have f19 := w19.read sF19 qF19
  obtain ⟨AF19, pF19, rfl, mF19, nF19, f19⟩ := f19.shape
  refine R.asE rfl (by conv => lhs; whnf) ?_
  refine TL.nil (Post.thnN ?_)
  refine T.seq ?_
  refine T.region ?_
  refine R.mvE rfl (by conv => lhs; whnf) ?_
  refine R.mvE rfl (by conv => lhs; whnf) ?_
  refine R.callp rfl rfl rfl (cwaves_c _ _ fx a f19 hfl false) ?_
  intro v22 H22 s22 q22
  obtain ⟨A22, c22, rfl, m22, n22, q22⟩ := q22.shape
  refine R.asE rfl (by conv => lhs; whnf) ?_
  refine TL.nil (Post.thnN ?_)
  refine T.seq ?_
  refine T.region ?_
  refine R.mkm rfl ?_
  intro b23
  refine R.asE rfl (by conv => lhs; whnf) ?_
  refine TL.nil (Post.thnN ?_)
  refine T.seq ?_
  refine T.seq ?_
  refine T.region ?_
  refine R.mvE rfl (by conv => lhs; whnf) ?_
  refine R.len Try.underlying52 rfl rfl ?_
  refine R.mvE rfl (by conv => lhs; whnf) ?_
  refine TL.nil (Post.thnN ?_)
  refine T.block ?_
  refine T.loop (ι := Nat × Array MapEntry × Nat × MapL) (fun ⟨k, es, ck, m⟩ H' L' ds' => k ≤ (wavesL false fx a).length ∧ ds' = [] ∧ L' = [[(b23, .map es ck)]] ∧ MapIs .i64 es m ∧ MetIs m ((wavesL false fx a).take k).flatten) (fun ⟨k, es, ck, m⟩ => [(0, .slice A xs.length c), (1, .int .i64 a), (5, .slice AF19 fx.length pF19), (6, .slice A22 (wavesL false fx a).length c22), (7, .map (some b23)), (24, .slice A22 (wavesL false fx a).length c22), (25, .int .i64 (wavesL false fx a).length), (26, .int .i64 k)]) (fun ⟨k, es, ck, m⟩ => (wavesL false fx a).length - k) ((0, #[], 0, [])) ?_ ?_ ?_
  · exact ⟨Nat.zero_le _, rfl, rfl, mapIs_nil _, MetIs.nil⟩
  · exact ⟨rfl, rfl, rfl, rfl, rfl, rfl, rfl, rfl, trivial⟩
  · intro ⟨k, es, ck, m⟩ σ0 H_0 L_0 ds_0 s_0 hI_0
    obtain ⟨hk, rfl, rfl, hm, hM⟩ := hI_0
    refine T.seq ?_
    refine T.region ?_
    refine R.lss rfl rfl rfl ?_
    refine TL.nil (Post.thnN ?_)
    refine T.seq ?_
    refine T.condD rfl (fun c27 => ?_) (fun c27 => ?_)
    · have hlt : k < (wavesL false fx a).length := by omega
      obtain ⟨w, hw⟩ := getk hlt
      have hfw := far_wave hw
      refine T.skip (Post.thnN ?_)
      refine T.seq ?_
      refine T.block ?_
      refine T.seq ?_
      refine T.region ?_
      refine R.mvE rfl (by conv => lhs; whnf) ?_
      obtain ⟨b29, o29, i29, e29⟩ := (q22.mono s_0).elem (hw)
      refine R.ixp Try.underlying52 Try.sizeOf23 rfl rfl rfl (by omega) i29 ?_
      obtain ⟨v30, k30, r30⟩ := (e29).sl
      obtain ⟨A30, c30, rfl, m30, n30, r30⟩ := r30.shape
      refine R.ldC Try.isAgg23 rfl rfl k30 ?_
      refine R.asE rfl (by conv => lhs; whnf) ?_
      refine R.asE rfl (by conv => lhs; whnf) ?_
      refine TL.nil (Post.thnN ?_)
      refine T.seq ?_
      refine T.seq ?_
      refine T.region ?_
      refine R.mvE rfl (by conv => lhs; whnf) ?_
      refine R.len Try.underlying23 rfl rfl ?_
      refine R.eql rfl rfl rfl ?_
      refine R.mvE rfl (by conv => lhs; whnf) ?_
      refine TL.set 34 (.bool false) (congrArg Value.bool (decide_eq_false (fun e => hfw.1 (List.length_eq_zero_iff.1 (by omega))))) ?_
      refine R.mvE rfl (by conv => lhs; whnf) ?_
      refine R.callv rfl rfl rfl (isSorted_c _ _ w r30 hfw.2) ?_
      refine R.not rfl rfl ?_
      refine R.pkFE rfl rfl (by conv => lhs; whnf) ?_
      refine TL.nil (Post.thnN ?_)
      refine T.condN rfl ?_
      refine T.skip (Post.thnN ?_)
      refine T.seq ?_
      refine T.region ?_
      refine R.mvE rfl (by conv => lhs; whnf) ?_
      refine R.len Try.underlying23 rfl rfl ?_
      refine R.mvE rfl (by conv => lhs; whnf) ?_
      refine TL.nil (Post.thnN ?_)
      refine T.block ?_
      refine T.loop (ι := Nat × Array MapEntry × Nat × MapL) (fun ⟨i, es2, ck2, m2⟩ H' L' ds' => i ≤ w.length ∧ ds' = [] ∧ L' = [[(b23, .map es2 ck2)]] ∧ MapIs .i64 es2 m2 ∧ MetIs m2 (((wavesL false fx a).take k).flatten ++ w.take i)) (fun ⟨i, es2, ck2, m2⟩ => [(0, .slice A xs.length c), (1, .int .i64 a), (5, .slice AF19 fx.length pF19), (6, .slice A22 (wavesL false fx a).length c22), (7, .map (some b23)), (8, .int .i64 k), (9, .slice A30 w.length c30), (24, .slice A22 (wavesL false fx a).length c22), (25, .int .i64 (wavesL false fx a).length), (26, .int .i64 k), (39, .slice A30 w.length c30), (40, .int .i64 w.length), (41, .int .i64 i)]) (fun ⟨i, es2, ck2, m2⟩ => w.length - i) ((0, es, ck, m)) ?_ ?_ ?_
      · exact ⟨Nat.zero_le _, rfl, rfl, hm, by rw [List.take_zero, List.append_nil]; exact hM⟩
      · exact ⟨rfl, rfl, rfl, rfl, rfl, rfl, rfl, rfl, rfl, rfl, rfl, rfl, rfl, trivial⟩
      · intro ⟨i, es2, ck2, m2⟩ σ1 H_1 L_1 ds_1 s_1 hI_1
        obtain ⟨hi, rfl, rfl, hm2, hM2⟩ := hI_1
        refine T.seq ?_
        refine T.region ?_
        refine R.lss rfl rfl rfl ?_
        refine TL.nil (Post.thnN ?_)
        refine T.seq ?_
        refine T.condD rfl (fun c42 => ?_) (fun c42 => ?_)
        · have hlt2 : i < w.length := by omega
          obtain ⟨v, hv⟩ := getk hlt2
          have hd := far_dist hw (List.mem_of_getElem? hv)
          have hnew := far_new hw hv
          refine T.skip (Post.thnN ?_)
          refine T.seq ?_
          refine T.block ?_
          refine T.seq ?_
          refine T.region ?_
          obtain ⟨b43, o43, i43, e43⟩ := (r30.mono s_1).elem (hv)
          refine R.ixp Try.underlying23 Try.sizeOf3 rfl rfl rfl (by omega) i43 ?_
          refine R.ldC Try.isAgg3 rfl rfl (e43).int ?_
          refine R.asE rfl (by conv => lhs; whnf) ?_
          refine TL.nil (Post.thnN ?_)
          refine T.seq ?_
          refine T.cut (ι := Unit) (fun _ H' L' ds' => ds' = [] ∧ L' = [[(b23, .map es2 ck2)]]) (fun _ => [(0, .slice A xs.length c), (1, .int .i64 a), (5, .slice AF19 fx.length pF19), (6, .slice A22 (wavesL false fx a).length c22), (7, .map (some b23)), (8, .int .i64 k), (9, .slice A30 w.length c30), (11, .int .i64 v), (24, .slice A22 (wavesL false fx a).length c22), (25, .int .i64 (wavesL false fx a).length), (26, .int .i64 k), (39, .slice A30 w.length c30), (40, .int .i64 w.length), (41, .int .i64 i), (67, .bool false)]) ?_ ?_
          · refine T.region ?_
            refine R.mvE rfl (by conv => lhs; whnf) ?_
            refine R.mvE rfl (by conv => lhs; whnf) ?_
            refine R.lku Try.underlying51 Try.underlying3 Try.zeroValue4 rfl rfl rfl .hd hm2 ?_
            refine TL.set 47 (.bool false) ((hM2 v).trans (congrArg Value.bool (decide_eq_false hnew))) ?_
            refine R.mvE rfl (by conv => lhs; whnf) ?_
            refine R.mvE rfl (by conv => lhs; whnf) ?_
            refine R.eql rfl rfl rfl ?_
            refine R.mvE rfl (by conv => lhs; whnf) ?_
            refine TL.gsplitD 51 rfl (fun g51 => ?_) (fun g51 => ?_)
            · obtain rfl : k = 0 := by omega
              have hva : v = a := (dist_zero hd)
              refine R.mvE rfl (by conv => lhs; whnf) ?_
              refine R.mvE rfl (by conv => lhs; whnf) ?_
              refine R.neq rfl rfl rfl ?_
              refine R.pkTE rfl rfl (by conv => lhs; whnf) ?_
              refine R.pkFE rfl rfl (by conv => lhs; whnf) ?_
              refine R.mvE rfl (by conv => lhs; whnf) ?_
              refine TL.set 57 (.bool false) (congrArg Value.bool (decide_eq_false (fun h => h hva))) ?_
              refine R.mvE rfl (by conv => lhs; whnf) ?_
              refine R.gtr rfl rfl rfl ?_
              refine R.mvE rfl (by conv => lhs; whnf) ?_
              refine TL.set 60 (.bool false) (congrArg Value.bool (decide_eq_false (by omega))) ?_
              refine TL.off rfl rfl rfl ?_
              refine TL.off rfl rfl rfl ?_
              refine TL.off rfl rfl rfl ?_
              refine TL.off rfl rfl rfl ?_
              refine TL.off rfl rfl rfl ?_
              refine R.pkFE rfl rfl (by conv => lhs; whnf) ?_
              refine R.pkFE rfl rfl (by conv => lhs; whnf) ?_
              refine TL.nil (Post.thnN ?_)
              -- cut r14, way y
              exact ⟨(), HLe.refl _, ⟨rfl, rfl⟩, rfl, rfl, rfl, rfl, rfl, rfl, rfl, rfl, rfl, rfl, rfl, rfl, rfl, rfl, rfl, trivial⟩
            · refine TL.off rfl rfl rfl ?_
              refine TL.off rfl rfl rfl ?_
              refine TL.off rfl rfl rfl ?_
              refine R.pkFE rfl rfl (by conv => lhs; whnf) ?_
              refine R.pkFE rfl rfl (by conv => lhs; whnf) ?_
              refine R.mvE rfl (by conv => lhs; whnf) ?_
              refine R.mvE rfl (by conv => lhs; whnf) ?_
              refine R.gtr rfl rfl rfl ?_
              refine R.mvE rfl (by conv => lhs; whnf) ?_
              refine TL.set 60 (.bool true) (congrArg Value.bool (decide_eq_true (by omega))) ?_
              refine R.mvE rfl (by conv => lhs; whnf) ?_
              refine R.mvE rfl (by conv => lhs; whnf) ?_
              refine R.mvE rfl (by conv => lhs; whnf) ?_
              refine R.callv rfl rfl rfl (leads_c _ _ fx a (f19.mono (s22.trans (s_0.trans s_1))) hfl v) ?_
              refine TL.set 64 (.bool true) (congrArg Value.bool (far_leads hd (by omega))) ?_
              refine R.not rfl rfl ?_
              refine R.pkTE rfl rfl (by conv => lhs; whnf) ?_
              refine R.pkFE rfl rfl (by conv => lhs; whnf) ?_
              refine TL.nil (Post.thnN ?_)
              -- cut r14, way n
              exact ⟨(), HLe.refl _, ⟨rfl, rfl⟩, rfl, rfl, rfl, rfl, rfl, rfl, rfl, rfl, rfl, rfl, rfl, rfl, rfl, rfl, rfl, trivial⟩
          · intro _ σ_r14 H_r14 L_r14 ds_r14 s_r14 hI_r14
            obtain ⟨rfl, rfl⟩ := hI_r14
            refine T.condN rfl ?_
            refine T.skip (Post.thnN ?_)
            refine T.seq ?_
            refine T.region ?_
            refine R.mvE rfl (by conv => lhs; whnf) ?_
            refine R.mvE rfl (by conv => lhs; whnf) ?_
            refine R.mup Try.underlying51 Try.underlying3 rfl rfl rfl rfl .hd hm2 ?_
            intro es16 ck16 i16
            refine TL.nil (Post.thnN ?_)
            refine T.seq ?_
            refine T.region ?_
            refine R.mvE rfl (by conv => lhs; whnf) ?_
            refine R.mvE rfl (by conv => lhs; whnf) ?_
            refine R.callp rfl rfl rfl (cwaves_c _ _ fx v (f19.mono (s22.trans (s_0.trans (s_1.trans s_r14)))) hfl true) ?_
            intro v72 H72 s72 q72
            obtain ⟨A72, c72, rfl, m72, n72, q72⟩ := q72.shape
            obtain ⟨wb, hwb, hab⟩ := far_back hd
            have hkb : k < (wavesL true fx v).length := (List.getElem?_eq_some_iff.1 hwb).1
            refine R.asE rfl (by conv => lhs; whnf) ?_
            refine TL.nil (Post.thnN ?_)
            refine T.seq ?_
            refine T.seq ?_
            refine T.region ?_
            refine R.mvE rfl (by conv => lhs; whnf) ?_
            refine R.len Try.underlying52 rfl rfl ?_
            refine R.mvE rfl (by conv => lhs; whnf) ?_
            refine R.leq rfl rfl rfl ?_
            refine R.mvE rfl (by conv => lhs; whnf) ?_
            refine TL.set 77 (.bool false) (congrArg Value.bool (decide_eq_false (by omega))) ?_
            refine R.mvE rfl (by conv => lhs; whnf) ?_
            refine R.mvE rfl (by conv => lhs; whnf) ?_
            obtain ⟨b80, o80, i80, e80⟩ := (q72).elem (hwb)
            refine R.ixp Try.underlying52 Try.sizeOf23 rfl rfl rfl (by omega) i80 ?_
            obtain ⟨v81, k81, r81⟩ := (e80).sl
            obtain ⟨A81, c81, rfl, m81, n81, r81⟩ := r81.shape
            refine R.ldC Try.isAgg23 rfl rfl k81 ?_
            refine R.mvE rfl (by conv => lhs; whnf) ?_
            refine R.callv rfl rfl rfl (containsI23_c _ _ wb a r81) ?_
            refine TL.set 83 (.bool true) (congrArg Value.bool (List.any_eq_true.2 ⟨a, hab, decide_eq_true rfl⟩)) ?_
            refine R.not rfl rfl ?_
            refine R.pkFE rfl rfl (by conv => lhs; whnf) ?_
            refine TL.nil (Post.thnN ?_)
            refine T.condN rfl ?_
            refine T.skip (Post.thnN ?_)
            refine T.seq ?_
            refine T.region ?_
            refine R.mvE rfl (by conv => lhs; whnf) ?_
            refine R.mvE rfl (by conv => lhs; whnf) ?_
            refine R.callp rfl rfl rfl (to_c _ _ fx v (f19.mono (s22.trans (s_0.trans (s_1.trans (s_r14.trans s72))))) hfl) ?_
            intro v88 H88 s88 q88
            change RdS _ _ _ (toL fx v) at q88
            obtain ⟨A88, c88, rfl, m88, n88, q88⟩ := q88.shape
            refine R.len Try.underlying23 rfl rfl ?_
            refine R.mvE rfl (by conv => lhs; whnf) ?_
            refine TL.nil (Post.thnN ?_)
            refine T.block ?_
            refine T.loop (ι := Nat) (fun q H' L' ds' => q ≤ (toL fx v).length ∧ ds' = [] ∧ L' = [[(b23, .map es16 ck16)]]) (fun q => [(0, .slice A xs.length c), (1, .int .i64 a), (5, .slice AF19 fx.length pF19), (6, .slice A22 (wavesL false fx a).length c22), (7, .map (some b23)), (8, .int .i64 k), (9, .slice A30 w.length c30), (11, .int .i64 v), (24, .slice A22 (wavesL false fx a).length c22), (25, .int .i64 (wavesL false fx a).length), (26, .int .i64 k), (39, .slice A30 w.length c30), (40, .int .i64 w.length), (41, .int .i64 i), (88, .slice A88 (toL fx v).length c88), (89, .int .i64 (toL fx v).length), (90, .int .i64 q)]) (fun q => (toL fx v).length - q) (0) ?_ ?_ ?_
            · exact ⟨Nat.zero_le _, rfl, rfl⟩
            · exact ⟨rfl, rfl, rfl, rfl, rfl, rfl, rfl, rfl, rfl, rfl, rfl, rfl, rfl, rfl, rfl, rfl, rfl, trivial⟩
            · intro q σ2 H_2 L_2 ds_2 s_2 hI_2
              obtain ⟨hq, rfl, rfl⟩ := hI_2
              refine T.seq ?_
              refine T.region ?_
              refine R.lss rfl rfl rfl ?_
              refine TL.nil (Post.thnN ?_)
              refine T.seq ?_
              refine T.condD rfl (fun c91 => ?_) (fun c91 => ?_)
              · have hlt3 : q < (toL fx v).length := by omega
                obtain ⟨y0, hy0⟩ := getk hlt3
                have hnr := far_near hd (List.mem_of_getElem? hy0)
                refine T.skip (Post.thnN ?_)
                refine T.seq ?_
                refine T.block ?_
                refine T.seq ?_
                refine T.region ?_
                obtain ⟨b92, o92, i92, e92⟩ := (q88.mono s_2).elem (hy0)
                refine R.ixp Try.underlying23 Try.sizeOf3 rfl rfl rfl (by omega) i92 ?_
                refine R.ldC Try.isAgg3 rfl rfl (e92).int ?_
                refine R.alloc Try.zeroValue3 rfl ?_
                intro b14
                refine R.st Try.sizeOf3 rfl rfl (by conv => lhs; whnf) rfl (by first | exact .hd | exact .tl .hd | exact .tl (.tl .hd) | exact .tl (.tl (.tl .hd)) | exact .tl (.tl (.tl (.tl .hd))) | exact .tl (.tl (.tl (.tl (.tl .hd)))) | exact .tl (.tl (.tl (.tl (.tl (.tl .hd))))) | exact .tl (.tl (.tl (.tl (.tl (.tl (.tl .hd)))))) | exact .tl (.tl (.tl (.tl (.tl (.tl (.tl (.tl .hd))))))) | exact .tl (.tl (.tl (.tl (.tl (.tl (.tl (.tl (.tl .hd))))))))) ?_
                refine TL.nil (Post.thnN ?_)
                refine T.seq ?_
                refine T.shut .hd ?_
                intro H14 s14 q14
                have h14 : H14 b14 = some (.cells #[.int .i64 y0] 3) := shut1 q14
                refine T.region ?_
                refine R.mvE rfl (by conv => lhs; whnf) ?_
                refine R.mkf (cs := [_]) rfl rfl ?_
                refine R.callv rfl rfl rfl (indexFR_c _ _ _ _ (fun w => w.any (fun y => decide (y0 = y))) (q22.mono (s_0.trans (s_1.trans (s_r14.trans (s72.trans (s88.trans (s_2.trans s14))))))) (fun H2 h2 r y hy => far1_c _ b14 y0 r y (h2 _ _ h14) hy)) ?_
                refine TL.set 96 (.int .i64 (farL fx a y0)) (congrArg _ (far_idx fx a y0)) ?_
                refine R.asE rfl (by conv => lhs; whnf) ?_
                refine TL.nil (Post.thnN ?_)
                refine T.seq ?_
                refine T.region ?_
                refine R.mvE rfl (by conv => lhs; whnf) ?_
                refine R.lss rfl rfl rfl ?_
                refine R.mvE rfl (by conv => lhs; whnf) ?_
                refine TL.set 99 (.bool false) (congrArg Value.bool (decide_eq_false (by omega))) ?_
                refine R.mvE rfl (by conv => lhs; whnf) ?_
                refine R.mvE rfl (by conv => lhs; whnf) ?_
                refine R.addI rfl rfl rfl (by omega) ?_
                refine R.gtr rfl rfl rfl ?_
                refine R.pkFE rfl rfl (by conv => lhs; whnf) ?_
                refine TL.nil (Post.thnN ?_)
                refine T.set 104 (.bool false) (congrArg Value.bool (decide_eq_false (by omega))) ?_
                refine T.condN rfl ?_
                refine T.skip (Post.blkN ?_)
                refine id (Post.thnN ?_)
                refine T.region ?_
                refine R.addI rfl rfl rfl (by omega) ?_
                refine R.mvE rfl (by conv => lhs; whnf) ?_
                refine TL.nil (Post.thnN ?_)
                -- round's end, way yyy
                exact ⟨q + 1, s_2.trans s14, ⟨by omega, rfl, rfl⟩, by omega, ⟨rfl, rfl, rfl, rfl, rfl, rfl, rfl, rfl, rfl, rfl, rfl, rfl, rfl, rfl, rfl, rfl, rfl, trivial⟩⟩
              · refine T.exit (Post.thnE (Post.thnE (Post.blkX ?_)))
                refine id (Post.blkN ?_)
                refine id (Post.thnN ?_)
                refine T.region ?_
                refine R.addI rfl rfl rfl (by omega) ?_
                refine R.mvE rfl (by conv => lhs; whnf) ?_
                refine TL.nil (Post.thnN ?_)
                -- round's end, way yyn
                exact ⟨(i + 1, es16, ck16, mput m2 v (.bool true)), s_1.trans (s_r14.trans (s72.trans (s88.trans s_2))), ⟨by show i + 1 ≤ _; omega, rfl, rfl, i16, by rw [flat_snoc hv]; exact hM2.put v⟩, by show w.length - (i + 1) < w.length - i; omega, ⟨rfl, rfl, rfl, rfl, rfl, rfl, rfl, rfl, rfl, rfl, rfl, rfl, rfl, trivial⟩⟩
        · refine T.exit (Post.thnE (Post.thnE (Post.blkX ?_)))
          refine id (Post.blkN ?_)
          refine id (Post.thnN ?_)
          refine T.region ?_
          refine R.addI rfl rfl rfl (by omega) ?_
          refine R.mvE rfl (by conv => lhs; whnf) ?_
          refine TL.nil (Post.thnN ?_)
          -- round's end, way yn
          have hfull : i = w.length := by omega
          rw [hfull, List.take_length] at hM2
          exact ⟨(k + 1, es2, ck2, m2), s_0.trans s_1, ⟨by show k + 1 ≤ _; omega, rfl, rfl, hm2, by rw [take_snoc _ _ _ hw, List.flatten_append, List.flatten_cons, List.flatten_nil, List.append_nil]; exact hM2⟩, by show (wavesL false fx a).length - (k + 1) < (wavesL false fx a).length - k; omega, ⟨rfl, rfl, rfl, rfl, rfl, rfl, rfl, rfl, trivial⟩⟩
    · refine T.exit (Post.thnE (Post.thnE (Post.blkX ?_)))
      refine id (Post.thnN ?_)
      refine T.seq ?_
      refine T.region ?_
      refine R.mvE rfl (by conv => lhs; whnf) ?_
      refine R.len Try.underlying52 rfl rfl ?_
      refine R.gtr rfl rfl rfl ?_
      refine R.asE rfl (by conv => lhs; whnf) ?_
      refine TL.nil (Post.thnN ?_)
      refine T.ret ?_
      -- way n
      exact fin1 rfl rfl ⟨rfl, congrArg Value.bool (decide_eq_true (by have := waves_ne false fx a; omega))⟩

end Go.SX
