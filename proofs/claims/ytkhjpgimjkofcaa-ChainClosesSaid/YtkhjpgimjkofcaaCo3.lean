/- rings: chain.Round; Leads, Round, of the reference. -/
import Derived.Test.YtkhjpgimjkofcaaCo2
import Derived.Test.YtkhjpgimjkofcaaCw3
import Derived.Test.YtkhjpgimjkofcaaWq
import Derived.Test.YtkhjpgimjkofcaaCh3
import Derived.Test.YtkhjpgimjkofcaaHe1
set_option linter.unusedVariables false
set_option linter.unusedSimpArgs false
namespace Go.SX
open Go Go.Proofs

set_option maxHeartbeats 1600000 in
theorem round_c (H : Heap) (v : Value) (xs : List Lk) (hr : RdS pairE H v xs) (hl : xs.length ≤ 1000) : Fv Try.prog (fnv 47) [v] H (.bool (roundR xs)) := by
  refine Fc.of_body (N := 91) Try.func47 rfl (by kernel_rfl) rfl rfl ?_
  intro w0
  obtain ⟨A, c, rfl, hc1, hc2, hr⟩ := hr.shape
  refine T.seq ?_
  refine T.region ?_
  refine R.asE rfl (by conv => lhs; whnf) ?_
  refine TL.nil (Post.thnN ?_)
  refine T.seq ?_
  refine T.seq ?_
  refine T.region ?_
  refine R.mvE rfl (by conv => lhs; whnf) ?_
  refine R.callv rfl rfl rfl (ccheck_c _ _ _ hr) ?_
  refine R.neq rfl rfl rfl ?_
  refine TL.nil (Post.thnN ?_)
  refine T.condD rfl (fun c16 => ?_) (fun c16 => ?_)
  · have hcb : chainB xs = false := by
      cases h : chainB xs with
      | false => rfl
      | true => rw [h] at c16; exact absurd rfl c16
    refine T.seq ?_
    refine T.region ?_
    refine R.asE rfl (by conv => lhs; whnf) ?_
    refine TL.nil (Post.thnN ?_)
    refine T.ret (Post.thnR ?_)
    -- way y
    exact fin1 rfl rfl ⟨rfl, congrArg Value.bool (round_bad hcb).symm⟩
  · have hc : chainB xs = true := by
      cases h : chainB xs with
      | true => rfl
      | false => rw [h] at c16; exact absurd (by decide) c16
    refine T.skip (Post.thnN ?_)
    refine T.seq ?_
    refine T.region ?_
    refine R.mkm rfl ?_
    intro b17
    refine R.asE rfl (by conv => lhs; whnf) ?_
    refine TL.nil (Post.thnN ?_)
    refine T.seq ?_
    refine T.region ?_
    refine R.mvE rfl (by conv => lhs; whnf) ?_
    refine R.callp rfl rfl rfl (steps_c _ _ xs true hr hl) ?_
    intro v19 H19 s19 q19
    obtain ⟨hcf, hst⟩ := q19
    refine R.asE rfl (by conv => lhs; whnf) ?_
    refine TL.nil (Post.thnN ?_)
    refine T.seq ?_
    refine T.seq ?_
    refine T.region ?_
    refine R.mvE rfl (by conv => lhs; whnf) ?_
    refine R.len Try.underlying22 rfl rfl ?_
    refine R.mvE rfl (by conv => lhs; whnf) ?_
    refine TL.nil (Post.thnN ?_)
    refine T.block ?_
    refine T.loop (ι := Nat × MapL × Array MapEntry × Nat) (fun ⟨k, m, es, ck⟩ H' L' ds' => k ≤ xs.length ∧ ds' = [] ∧ L' = [[(b17, .map es ck)]] ∧ MapK .i64 es ck m ∧ CntIs m (cntN xs k) (isV (xs.take k))) (fun ⟨k, m, es, ck⟩ => [(3, .map (some b17)), (4, v19), (20, .slice A xs.length c), (21, .int .i64 xs.length), (22, .int .i64 k)]) (fun ⟨k, m, es, ck⟩ => xs.length - k) ((0, [], #[], 0)) ?_ ?_ ?_
    · exact ⟨Nat.zero_le _, rfl, rfl, MapK.nil _, CntIs.nil.congr (fun k => by simp [cntN]) (fun k => by simp [isV])⟩
    · exact ⟨rfl, rfl, rfl, rfl, rfl, trivial⟩
    · intro ⟨k, m, es, ck⟩ σ0 H_0 L_0 ds_0 s_0 hI_0
      obtain ⟨hk, rfl, rfl, hi, hC⟩ := hI_0
      have hcb := cntN_le xs k
      refine T.seq ?_
      refine T.region ?_
      refine R.lss rfl rfl rfl ?_
      refine TL.nil (Post.thnN ?_)
      refine T.seq ?_
      refine T.condD rfl (fun c23 => ?_) (fun c23 => ?_)
      · have hlt : k < xs.length := by omega
        obtain ⟨y, hy⟩ := getk hlt
        have hcb1 := hcb y.1
        have hcb2 := hcb y.2
        have hC1 := hC.put y.1 (cntN xs k y.1 + 1)
        refine T.skip (Post.thnN ?_)
        refine T.seq ?_
        refine T.block ?_
        refine T.seq ?_
        refine T.region ?_
        obtain ⟨b24, o24, i24, e24⟩ := ((hr.mono s19).mono s_0).elem (hy)
        refine R.ixp Try.underlying22 Try.sizeOf37 rfl rfl rfl (by omega) i24 ?_
        refine R.ldP Try.isAgg37 Try.sizeOf37 rfl rfl (e24) ?_
        refine R.alloc Try.zeroValue37 rfl ?_
        intro b6
        refine R.stA (old := [.int .i64 0, .int .i64 0]) Try.sizeOf37 rfl rfl rfl rfl rfl (by intro v hv; simp at hv; rcases hv with rfl | rfl <;> rfl) .hd ?_
        refine TL.nil (Post.thnN ?_)
        refine T.seq ?_
        refine T.shut .hd ?_
        intro H6 s6 q6
        have h6 : H6 b6 = some (.cells #[.int .i64 y.1, .int .i64 y.2] 37) := shut1 q6
        refine T.region ?_
        refine R.mvE rfl (by conv => lhs; whnf) ?_
        refine R.fldA Try.underlying37 rfl Try.sizeOf3 (by decide) rfl rfl ?_
        refine R.ldH Try.isAgg3 rfl rfl (h6) rfl ?_
        refine R.lku Try.underlying94 Try.underlying3 Try.zeroValue3 rfl rfl rfl .hd hi.1 ?_
        refine TL.set 29 (.int .i64 (cntN xs k y.1)) (hC.2.2 y.1) ?_
        refine R.addI rfl rfl rfl (by omega) ?_
        refine R.mupK Try.underlying94 Try.underlying3 rfl rfl rfl rfl .hd hi ?_
        intro es30 ck30 i30
        refine TL.nil (Post.thnN ?_)
        refine T.region ?_
        refine R.mvE rfl (by conv => lhs; whnf) ?_
        refine R.fldA Try.underlying37 rfl Try.sizeOf3 (by decide) rfl rfl ?_
        refine R.ldH Try.isAgg3 rfl rfl (h6) rfl ?_
        refine R.lku Try.underlying94 Try.underlying3 Try.zeroValue3 rfl rfl rfl .hd i30.1 ?_
        refine TL.set 34 (.int .i64 (if y.2 = y.1 then cntN xs k y.1 + 1 else cntN xs k y.2)) (hC1.2.2 y.2) ?_
        refine R.addI rfl rfl rfl (by split <;> omega) ?_
        refine R.mupK Try.underlying94 Try.underlying3 rfl rfl rfl rfl .hd i30 ?_
        intro es35 ck35 i35
        refine TL.nil (Post.blkN ?_)
        refine id (Post.thnN ?_)
        refine T.region ?_
        refine R.addI rfl rfl rfl (by omega) ?_
        refine R.mvE rfl (by conv => lhs; whnf) ?_
        refine TL.nil (Post.thnN ?_)
        -- round's end, way ny
        exact ⟨(k + 1, _, es35, ck35), s_0.trans s6, ⟨by show k + 1 ≤ _; omega, rfl, rfl, i35, cnt_step hy hC⟩, by show xs.length - (k + 1) < xs.length - k; omega, ⟨rfl, rfl, rfl, rfl, rfl, trivial⟩⟩
      · have hkx : k = xs.length := by omega
        subst hkx
        have hC := cnt_full hC
        refine T.exit (Post.thnE (Post.thnE (Post.blkX ?_)))
        refine id (Post.thnN ?_)
        refine T.seq ?_
        refine T.region ?_
        refine R.asE rfl (by conv => lhs; whnf) ?_
        refine TL.nil (Post.thnN ?_)
        refine T.seq ?_
        refine T.seq ?_
        refine T.region ?_
        refine R.mvE rfl (by conv => lhs; whnf) ?_
        refine R.rng Try.underlying94 rfl rfl .hd ?_
        intro b38
        refine TL.nilc ?_
        refine TL.nil (Post.thnN ?_)
        refine T.block ?_
        refine T.loop (ι := Array Nat × List Int × Value × Chunk) (fun ⟨sn, vk, vf, cf⟩ H' L' ds' => ds' = [] ∧ L' = [cf, [(b38, .mapIter (some b17) ck sn ck)], [(b17, .map es ck)]] ∧ Seen es (isV xs) sn vk ∧ OwnS (intE .i64) 3 H' vf (vk.filter (fun k => decide ((dg xs [] k : Int) = 0))) cf) (fun ⟨sn, vk, vf, cf⟩ => [(3, .map (some b17)), (4, v19), (7, vf), (38, .pointer (some ⟨b38, 0, none⟩))]) (fun ⟨sn, vk, vf, cf⟩ => m.length - vk.length) ((#[], [], .slice none 0 0, [])) ?_ ?_ ?_
        · exact ⟨rfl, rfl, Seen.nil _ _, OwnS.nil⟩
        · exact ⟨rfl, rfl, rfl, rfl, trivial⟩
        · intro ⟨sn, vk, vf, cf⟩ σ1 H_1 L_1 ds_1 s_1 hI_1
          obtain ⟨rfl, rfl, hse, ho⟩ := hI_1
          have hvl := hse.len hC
          have hml0 := cnt_len hC
          have hfl0 := List.length_filter_le (fun k => decide ((dg xs [] k : Int) = 0)) vk
          refine T.seq ?_
          refine T.region ?_
          refine R.nxt rfl rfl (.tl .hd) (.tl .hd) hi.2 ?_
          intro v39 sn2 h39
          refine TL.permL (L' := [cf, [(b38, .mapIter (some b17) ck sn2 ck)], [(b17, .map es ck)]]) perm4 ?_
          rcases h39 with ⟨hv39, hs39, hall⟩ | ⟨e, he, hne, hv39, hs39⟩ <;> subst hv39 <;> subst hs39
          · refine R.ext rfl rfl rfl ?_
            refine TL.nil (Post.thnN ?_)
            refine T.seq ?_
            refine T.condN rfl ?_
            refine T.exit (Post.thnE (Post.thnE (Post.blkX ?_)))
            refine id (Post.thnN ?_)
            refine T.seq ?_
            obtain ⟨n0, hn0⟩ : ∃ n, n = m.length := ⟨_, rfl⟩
            have hKI0 := free_start hse.nd (hse.over hi.1 hC hall)
            refine T.region ?_
            refine R.mvE rfl (by conv => lhs; whnf) ?_
            refine R.lenM Try.underlying94 rfl rfl (.tl (.tl .hd)) ?_
            refine TL.set 51 (.int .i64 m.length) (by rw [← map_size hi.1]; rfl) ?_
            refine TL.del (.tl .hd) ?_
            refine R.asE rfl (by conv => lhs; whnf) ?_
            refine TL.nil (Post.thnN ?_)
            refine T.seq ?_
            refine T.block ?_
            refine T.loop (ι := List Int × List Int × Value × Chunk × MapL × Array MapEntry × Nat) (fun ⟨RV, Fr, vf, cf, m, es, ck⟩ H' L' ds' => ds' = [] ∧ L' = [cf, [(b17, .map es ck)]] ∧ KI xs RV Fr ∧ MapK .i64 es ck m ∧ CntIs m (fun w => (dg xs RV w : Int)) (isV xs) ∧ OwnS (intE .i64) 3 H' vf Fr cf ∧ m.length = n0) (fun ⟨RV, Fr, vf, cf, m, es, ck⟩ => [(3, .map (some b17)), (4, v19), (7, vf), (10, .int .i64 ((n0 : Int) - (RV.length : Int)))]) (fun ⟨RV, Fr, vf, cf, m, es, ck⟩ => n0 - RV.length) (([], vk.filter (fun k => decide ((dg xs [] k : Int) = 0)), vf, cf, m, es, ck)) ?_ ?_ ?_
            · exact ⟨rfl, rfl, hKI0, hi, hC, ho, hn0.symm⟩
            · exact ⟨rfl, rfl, rfl, congrArg (Value.int .i64) (by rw [hn0]; simp), trivial⟩
            · intro ⟨RV, Fr, vf, cf, m, es, ck⟩ σ2 H_2 L_2 ds_2 s_2 hI_2
              obtain ⟨rfl, rfl, hKI, hi, hC, ho, hml⟩ := hI_2
              have hkl := hKI.len hC
              obtain ⟨Af, pf, hvf, hf1, hf2⟩ := ho.shape
              subst hvf
              refine T.seq ?_
              refine T.seq ?_
              refine T.region ?_
              refine R.mvE rfl (by conv => lhs; whnf) ?_
              refine R.len Try.underlying23 rfl rfl ?_
              refine R.gtr rfl rfl rfl ?_
              refine TL.nil (Post.thnN ?_)
              refine T.condD rfl (fun c54 => ?_) (fun c54 => ?_)
              · obtain ⟨F, v, rfl⟩ := last_split (l := Fr) (fun e => by rw [e] at c54; exact absurd c54 (by decide))
                have hfp : (F ++ [v]).length = F.length + 1 := by simp
                refine T.skip (Post.thnN ?_)
                refine T.block ?_
                refine T.seq ?_
                refine T.region ?_
                refine R.mvE rfl (by conv => lhs; whnf) ?_
                refine R.mvE rfl (by conv => lhs; whnf) ?_
                refine R.len Try.underlying23 rfl rfl ?_
                refine R.subI rfl rfl rfl (by omega) ?_
                obtain ⟨bo, ko, cso, lo, hce, hve, hix, hR, hcs⟩ := ho.elem (show (F ++ [v])[(((F ++ [v]).length : Int) - 1).toNat]? = some v by rw [show (((F ++ [v]).length : Int) - 1).toNat = F.length by simp]; simp)
                obtain rfl : lo = [.int .i64 v] := hR
                subst hce
                refine R.ixp Try.underlying23 Try.sizeOf3 rfl rfl rfl (by simp) hix ?_
                refine R.ld Try.isAgg3 rfl rfl .hd (hcs 0 _ rfl) ?_
                refine R.asE rfl (by conv => lhs; whnf) ?_
                refine TL.nil (Post.thnN ?_)
                refine T.seq ?_
                refine T.region ?_
                refine R.mvE rfl (by conv => lhs; whnf) ?_
                refine R.mvE rfl (by conv => lhs; whnf) ?_
                refine R.len Try.underlying23 rfl rfl ?_
                refine R.subI rfl rfl rfl (by omega) ?_
                refine R.sH Try.underlying23 Try.sizeOf3 rfl rfl rfl (by simp) (by simp; omega) ?_
                have hfl : (((F ++ [v]).length : Int) - 1).toNat = F.length := by simp
                refine TL.set 65 (.slice Af F.length pf) (by rw [← hfl]; exact slc_take0 (n := (F ++ [v]).length)) ?_
                have w65 := own_take0 ho (i := F.length) (by simp)
                rw [List.take_left] at w65
                refine R.asE rfl (by conv => lhs; whnf) ?_
                refine TL.nil (Post.thnN ?_)
                refine T.seq ?_
                refine T.region ?_
                refine R.mvE rfl (by conv => lhs; whnf) ?_
                refine R.subI rfl rfl rfl (by omega) ?_
                refine R.asE rfl (by conv => lhs; whnf) ?_
                refine TL.nil (Post.thnN ?_)
                refine T.seq ?_
                refine T.region ?_
                refine R.mvE rfl (by conv => lhs; whnf) ?_
                refine R.mvE rfl (by conv => lhs; whnf) ?_
                refine R.callp rfl rfl rfl (hst _ (s_0.trans (s_1.trans s_2)) v) ?_
                intro v70 H70 s70 q70
                have q70 : RdS (intE .i64) H70 v70 (fromL xs v) := q70
                obtain ⟨A70, k70, rfl, m70, n70, g70⟩ := q70.shape
                refine R.len Try.underlying23 rfl rfl ?_
                refine R.mvE rfl (by conv => lhs; whnf) ?_
                refine TL.nil (Post.thnN ?_)
                refine T.block ?_
                refine T.loop (ι := Nat × Value × Chunk × MapL × Array MapEntry × Nat) (fun ⟨i, vf, cf, m, es, ck⟩ H' L' ds' => i ≤ (fromL xs v).length ∧ ds' = [] ∧ L' = [cf, [(b17, .map es ck)]] ∧ MapK .i64 es ck m ∧ CntIs m (cI xs RV v i) (isV xs) ∧ OwnS (intE .i64) 3 H' vf (fI xs RV F v i) cf ∧ m.length = n0) (fun ⟨i, vf, cf, m, es, ck⟩ => [(3, .map (some b17)), (4, v19), (7, vf), (10, .int .i64 ((n0 : Int) - (RV.length : Int) - 1)), (70, .slice A70 (fromL xs v).length k70), (71, .int .i64 (fromL xs v).length), (72, .int .i64 i)]) (fun ⟨i, vf, cf, m, es, ck⟩ => (fromL xs v).length - i) ((0, .slice Af F.length pf, [(bo, .cells cso 3)], m, es, ck)) ?_ ?_ ?_
                · exact ⟨Nat.zero_le _, rfl, rfl, hi, hC.congr (fun k => (cI_zero xs RV v k).symm) (fun k => Iff.rfl), by rw [fI_zero]; exact w65.mono s70, hml⟩
                · exact ⟨rfl, rfl, rfl, rfl, rfl, rfl, rfl, trivial⟩
                · intro ⟨i, vf, cf, m, es, ck⟩ σ3 H_3 L_3 ds_3 s_3 hI_3
                  obtain ⟨hiw, rfl, rfl, hi, hC, ho, hml⟩ := hI_3
                  have hfll := fI_len xs RV F v i
                  refine T.seq ?_
                  refine T.region ?_
                  refine R.lss rfl rfl rfl ?_
                  refine TL.nil (Post.thnN ?_)
                  refine T.seq ?_
                  refine T.condD rfl (fun c73 => ?_) (fun c73 => ?_)
                  · have hlt : i < (fromL xs v).length := by omega
                    obtain ⟨w, hw⟩ := getk hlt
                    have hwV := from_isV (List.mem_of_getElem? hw)
                    have hcI := cI_bnd xs RV v i w
                    refine T.skip (Post.thnN ?_)
                    refine T.seq ?_
                    refine T.block ?_
                    refine T.seq ?_
                    refine T.region ?_
                    obtain ⟨b74, o74, i74, e74⟩ := (g70.mono s_3).elem (hw)
                    refine R.ixp Try.underlying23 Try.sizeOf3 rfl rfl rfl (by omega) i74 ?_
                    refine R.ldC Try.isAgg3 rfl rfl (e74).int ?_
                    refine R.asE rfl (by conv => lhs; whnf) ?_
                    refine TL.nil (Post.thnN ?_)
                    refine T.seq ?_
                    refine T.region ?_
                    refine R.mvE rfl (by conv => lhs; whnf) ?_
                    refine R.mvE rfl (by conv => lhs; whnf) ?_
                    refine R.lku Try.underlying94 Try.underlying3 Try.zeroValue3 rfl rfl rfl (.tl .hd) hi.1 ?_
                    refine TL.set 78 (.int .i64 (cI xs RV v i w)) (hC.2.2 w) ?_
                    refine R.subI rfl rfl rfl (by omega) ?_
                    refine R.mupK Try.underlying94 Try.underlying3 rfl rfl rfl rfl (.tl .hd) hi ?_
                    intro es79 ck79 i79
                    refine TL.permL (L' := [cf, [(b17, .map es79 ck79)]]) permS ?_
                    have hC2 : CntIs _ (cI xs RV v (i + 1)) (isV xs) := (hC.put w (cI xs RV v i w - 1)).congr (congrFun (cI_step hw)) (fun k => ⟨fun h => h.elim (fun e => e ▸ hwV) id, .inr⟩)
                    have hml2 := (mput_len m w (.int .i64 (cI xs RV v i w - 1)) ((hC.2.1 w).2 hwV)).trans hml
                    refine TL.nil (Post.thnN ?_)
                    refine T.seq ?_
                    refine T.region ?_
                    refine R.mvE rfl (by conv => lhs; whnf) ?_
                    refine R.mvE rfl (by conv => lhs; whnf) ?_
                    refine R.lku Try.underlying94 Try.underlying3 Try.zeroValue3 rfl rfl rfl (.tl .hd) i79.1 ?_
                    refine TL.set 82 (.int .i64 (cI xs RV v (i + 1) w)) (hC2.2.2 w) ?_
                    refine R.eql rfl rfl rfl ?_
                    refine TL.nil (Post.thnN ?_)
                    refine T.condD rfl (fun c83 => ?_) (fun c83 => ?_)
                    · refine T.region ?_
                      refine R.mvE rfl (by conv => lhs; whnf) ?_
                      refine R.mvE rfl (by conv => lhs; whnf) ?_
                      refine R.bs rfl (run_buildSlice1 Try.underlying23 Try.sizeOf3 Try.zeroValue3 rfl rfl) ?_
                      intro b86
                      refine R.app (ys := [w]) Try_ty23 rfl rfl rfl ho (.tl .hd) (Src.lit (vs := [.int .i64 w]) .hd) ⟨[.int .i64 w], [], rfl, rfl, rfl⟩ (by simp; omega) (by simp; omega) ?_
                      intro v87 c87 w87
                      refine TL.del (.tl .hd) ?_
                      refine R.asE rfl (by conv => lhs; whnf) ?_
                      refine TL.nil (Post.blkN ?_)
                      refine id (Post.thnN ?_)
                      refine T.region ?_
                      refine R.addI rfl rfl rfl (by omega) ?_
                      refine R.mvE rfl (by conv => lhs; whnf) ?_
                      refine TL.nil (Post.thnN ?_)
                      -- round's end, way nnnyyy
                      exact ⟨(i + 1, v87, c87, _, es79, ck79), s_3, ⟨by show i + 1 ≤ _; omega, rfl, rfl, i79, hC2, by rw [fI_yes hw c83]; exact w87, hml2⟩, by show (fromL xs v).length - (i + 1) < (fromL xs v).length - i; omega, ⟨rfl, rfl, rfl, rfl, rfl, rfl, rfl, trivial⟩⟩
                    · refine T.skip (Post.blkN ?_)
                      refine id (Post.thnN ?_)
                      refine T.region ?_
                      refine R.addI rfl rfl rfl (by omega) ?_
                      refine R.mvE rfl (by conv => lhs; whnf) ?_
                      refine TL.nil (Post.thnN ?_)
                      -- round's end, way nnnyyn
                      exact ⟨(i + 1, vf, cf, _, es79, ck79), s_3, ⟨by show i + 1 ≤ _; omega, rfl, rfl, i79, hC2, by rw [fI_no hw c83]; exact ho, hml2⟩, by show (fromL xs v).length - (i + 1) < (fromL xs v).length - i; omega, ⟨rfl, rfl, rfl, rfl, rfl, rfl, rfl, trivial⟩⟩
                  · refine T.exit (Post.thnE (Post.thnE (Post.blkX ?_)))
                    refine id (Post.blkN ?_)
                    refine id (Post.thnN ?_)
                    -- round's end, way nnnyn
                    have hix : i = (fromL xs v).length := by omega
                    have hgo := hKI.go hc
                    have hvR : v ∉ RV := fun hm => (List.nodup_append.1 hKI.nd).2.2 v hm v (by simp) rfl
                    exact ⟨(RV ++ [v], fI xs RV F v i, vf, cf, m, es, ck), s_2.trans (s70.trans s_3), ⟨rfl, rfl, by rw [hix]; exact hgo, hi, hC.congr (fun k => by rw [hix]; exact cI_last hc hvR k) (fun k => Iff.rfl), ho, hml⟩, by show n0 - (RV ++ [v]).length < n0 - RV.length; simp at hkl ⊢; omega, ⟨rfl, rfl, rfl, congrArg (Value.int .i64) (by simp; omega), trivial⟩⟩
              · have hF0 : Fr = [] := List.length_eq_zero_iff.1 (by omega)
                subst hF0
                have hend := round_end hc hKI hC
                rw [hml] at hend
                refine T.exit (Post.thnE (Post.thnE (Post.blkX ?_)))
                refine id (Post.thnN ?_)
                refine T.seq ?_
                refine T.region ?_
                refine R.mvE rfl (by conv => lhs; whnf) ?_
                refine R.gtr rfl rfl rfl ?_
                refine R.asE rfl (by conv => lhs; whnf) ?_
                refine TL.nil (Post.thnN ?_)
                refine T.ret ?_
                -- way nnnn
                exact fin1 rfl rfl ⟨rfl, congrArg Value.bool hend⟩
          · refine R.ext rfl rfl rfl ?_
            refine TL.nil (Post.thnN ?_)
            refine T.seq ?_
            refine T.condY rfl ?_
            refine T.skip (Post.thnN ?_)
            refine T.block ?_
            refine T.seq ?_
            refine T.region ?_
            obtain ⟨kk, hk1, hk2, hK⟩ := cnt_entry hi.1 hC he
            obtain ⟨hse2, hkv⟩ := hse.step hi hC he hne hk1 hK
            refine R.ent rfl rfl (.tl .hd) (.tl (.tl .hd)) hi.2 he ?_
            refine R.ext rfl rfl rfl ?_
            refine TL.set 42 (.int .i64 kk) hk1 ?_
            refine R.ext rfl rfl rfl ?_
            refine TL.set 43 (.int .i64 (dg xs [] kk : Int)) hk2 ?_
            refine R.asE rfl (by conv => lhs; whnf) ?_
            refine R.asE rfl (by conv => lhs; whnf) ?_
            refine TL.nil (Post.thnN ?_)
            refine T.seq ?_
            refine T.region ?_
            refine R.mvE rfl (by conv => lhs; whnf) ?_
            refine R.eql rfl rfl rfl ?_
            refine TL.nil (Post.thnN ?_)
            refine T.condD rfl (fun c45 => ?_) (fun c45 => ?_)
            · refine T.region ?_
              refine R.mvE rfl (by conv => lhs; whnf) ?_
              refine R.mvE rfl (by conv => lhs; whnf) ?_
              refine R.bs rfl (run_buildSlice1 Try.underlying23 Try.sizeOf3 Try.zeroValue3 rfl rfl) ?_
              intro b48
              refine R.app (ys := [kk]) Try_ty23 rfl rfl rfl ho (.tl .hd) (Src.lit (vs := [.int .i64 kk]) .hd) ⟨[.int .i64 kk], [], rfl, rfl, rfl⟩ (by simp only [List.length_cons, List.length_nil]; omega) (by simp only [List.length_cons, List.length_nil]; omega) ?_
              intro v49 c49 w49
              refine TL.del (.tl .hd) ?_
              refine R.asE rfl (by conv => lhs; whnf) ?_
              refine TL.nil (Post.blkN ?_)
              refine id (Post.thnN ?_)
              -- round's end, way nnyy
              have hsl := hse2.len hC
              simp at hsl
              exact ⟨(_, vk ++ [kk], v49, c49), s_1, ⟨rfl, rfl, hse2, by rw [filt1_yes (decide_eq_true c45)]; exact w49⟩, by show m.length - (vk ++ [kk]).length < m.length - vk.length; simp; omega, ⟨rfl, rfl, rfl, rfl, trivial⟩⟩
            · refine T.skip (Post.blkN ?_)
              refine id (Post.thnN ?_)
              -- round's end, way nnyn
              have hsl := hse2.len hC
              simp at hsl
              exact ⟨(_, vk ++ [kk], vf, cf), s_1, ⟨rfl, rfl, hse2, by rw [filt1_no (decide_eq_false c45)]; exact ho⟩, by show m.length - (vk ++ [kk]).length < m.length - vk.length; simp; omega, ⟨rfl, rfl, rfl, rfl, trivial⟩⟩


set_option maxHeartbeats 1600000 in
theorem rleads_c (H : Heap) (v : Value) (xs : List Lk) (a z : Int) (hr : RdS pairE H v xs) (hl : xs.length ≤ 1000) : Fv Try.prog (fnv 51) [v, .int .i64 a, .int .i64 z] H (.bool (leadsQ xs a z)) := by
  refine Fc.of_body (N := 32) Try.func51 rfl (by kernel_rfl) rfl rfl ?_
  intro w0
  obtain ⟨A, c, rfl, hc1, hc2, hr⟩ := hr.shape
  refine T.seq ?_
  refine T.region ?_
  refine R.asE rfl (by conv => lhs; whnf) ?_
  refine TL.nil (Post.thnN ?_)
  refine T.seq ?_
  refine T.seq ?_
  refine T.region ?_
  refine R.mvE rfl (by conv => lhs; whnf) ?_
  refine R.mvE rfl (by conv => lhs; whnf) ?_
  refine R.callp rfl rfl rfl (to16_c _ _ xs a hr (by omega)) ?_
  intro v13 H13 s13 q13
  obtain ⟨A13, c13, rfl, m13, n13, g13⟩ := q13.shape
  refine R.len Try.underlying23 rfl rfl ?_
  refine R.mvE rfl (by conv => lhs; whnf) ?_
  refine TL.nil (Post.thnN ?_)
  refine T.block ?_
  refine T.loop (ι := Nat) (fun k H' L' ds' => k ≤ (toL xs a).length ∧ L' = [] ∧ ds' = [] ∧ ((toL xs a).take k).any (fun v => (wavesL false xs v).any (fun w => w.any (fun y => decide (y = z)))) = false) (fun k => [(0, .slice A xs.length c), (2, .int .i64 z), (13, .slice A13 (toL xs a).length c13), (14, .int .i64 (toL xs a).length), (15, .int .i64 k)]) (fun k => (toL xs a).length - k) (0) ?_ ?_ ?_
  · exact ⟨Nat.zero_le _, rfl, rfl, rfl⟩
  · exact ⟨rfl, rfl, rfl, rfl, rfl, trivial⟩
  · intro k σ0 H_0 L_0 ds_0 s_0 hI_0
    obtain ⟨hk, rfl, rfl, hn⟩ := hI_0
    refine T.seq ?_
    refine T.region ?_
    refine R.lss rfl rfl rfl ?_
    refine TL.nil (Post.thnN ?_)
    refine T.seq ?_
    refine T.condD rfl (fun c16 => ?_) (fun c16 => ?_)
    · have hlt : k < (toL xs a).length := by omega
      obtain ⟨y, hy⟩ := getk hlt
      refine T.skip (Post.thnN ?_)
      refine T.seq ?_
      refine T.block ?_
      refine T.seq ?_
      refine T.region ?_
      obtain ⟨b17, o17, i17, e17⟩ := (g13.mono s_0).elem (hy)
      refine R.ixp Try.underlying23 Try.sizeOf3 rfl rfl rfl (by omega) i17 ?_
      refine R.ldC Try.isAgg3 rfl rfl (e17).int ?_
      refine R.asE rfl (by conv => lhs; whnf) ?_
      refine TL.nil (Post.thnN ?_)
      refine T.seq ?_
      refine T.region ?_
      refine R.mvE rfl (by conv => lhs; whnf) ?_
      refine R.mvE rfl (by conv => lhs; whnf) ?_
      refine R.callp rfl rfl rfl (waves_c _ _ xs y false (hr.mono (s13.trans s_0)) hl) ?_
      intro v21 H21 s21 q21
      obtain ⟨A21, c21, rfl, m21, n21, g21⟩ := q21.shape
      refine R.len Try.underlying52 rfl rfl ?_
      refine R.mvE rfl (by conv => lhs; whnf) ?_
      refine TL.nil (Post.thnN ?_)
      refine T.block ?_
      refine T.loop (ι := Nat) (fun q H' L' ds' => q ≤ (wavesL false xs y).length ∧ L' = [] ∧ ds' = [] ∧ ((wavesL false xs y).take q).any (fun w => w.any (fun y => decide (y = z))) = false) (fun q => [(0, .slice A xs.length c), (2, .int .i64 z), (13, .slice A13 (toL xs a).length c13), (14, .int .i64 (toL xs a).length), (15, .int .i64 k), (21, .slice A21 (wavesL false xs y).length c21), (22, .int .i64 (wavesL false xs y).length), (23, .int .i64 q)]) (fun q => (wavesL false xs y).length - q) (0) ?_ ?_ ?_
      · exact ⟨Nat.zero_le _, rfl, rfl, rfl⟩
      · exact ⟨rfl, rfl, rfl, rfl, rfl, rfl, rfl, rfl, trivial⟩
      · intro q σ1 H_1 L_1 ds_1 s_1 hI_1
        obtain ⟨hq, rfl, rfl, hn2⟩ := hI_1
        refine T.seq ?_
        refine T.region ?_
        refine R.lss rfl rfl rfl ?_
        refine TL.nil (Post.thnN ?_)
        refine T.seq ?_
        refine T.condD rfl (fun c24 => ?_) (fun c24 => ?_)
        · have hlt2 : q < (wavesL false xs y).length := by omega
          obtain ⟨w, hw⟩ := getk hlt2
          refine T.skip (Post.thnN ?_)
          refine T.seq ?_
          refine T.block ?_
          refine T.seq ?_
          refine T.region ?_
          obtain ⟨b25, o25, i25, e25⟩ := (g21.mono s_1).elem (hw)
          refine R.ixp Try.underlying52 Try.sizeOf23 rfl rfl rfl (by omega) i25 ?_
          obtain ⟨v26, k26, r26⟩ := (e25).sl
          obtain ⟨A26, c26, rfl, m26, n26, r26⟩ := r26.shape
          refine R.ldC Try.isAgg23 rfl rfl k26 ?_
          refine R.asE rfl (by conv => lhs; whnf) ?_
          refine TL.nil (Post.thnN ?_)
          refine T.seq ?_
          refine T.region ?_
          refine R.mvE rfl (by conv => lhs; whnf) ?_
          refine R.mvE rfl (by conv => lhs; whnf) ?_
          refine R.callv rfl rfl rfl (has16_c _ _ _ z r26) ?_
          refine TL.nil (Post.thnN ?_)
          refine T.cond rfl (fun c29 => ?_) (fun c29 => ?_)
          · refine T.seq ?_
            refine T.region ?_
            refine R.asE rfl (by conv => lhs; whnf) ?_
            refine TL.nil (Post.thnN ?_)
            refine T.ret (Post.blkR (Post.thnR (Post.thnR (Post.blkR (Post.blkR (Post.thnR (Post.thnR (Post.blkR (Post.thnR ?_)))))))))
            -- way yyy
            exact fin1 rfl rfl ⟨rfl, congrArg Value.bool (List.any_eq_true.2 ⟨y, List.mem_of_getElem? hy, List.any_eq_true.2 ⟨w, List.mem_of_getElem? hw, c29⟩⟩).symm⟩
          · refine T.skip (Post.blkN ?_)
            refine id (Post.thnN ?_)
            refine T.region ?_
            refine R.addI rfl rfl rfl (by omega) ?_
            refine R.mvE rfl (by conv => lhs; whnf) ?_
            refine TL.nil (Post.thnN ?_)
            -- round's end, way yyn
            exact ⟨q + 1, s_1, ⟨by omega, rfl, rfl, by rw [take_snoc _ _ _ hw, List.any_append, hn2]; simpa using c29⟩, by omega, ⟨rfl, rfl, rfl, rfl, rfl, rfl, rfl, rfl, trivial⟩⟩
        · refine T.exit (Post.thnE (Post.thnE (Post.blkX ?_)))
          refine id (Post.blkN ?_)
          refine id (Post.thnN ?_)
          refine T.region ?_
          refine R.addI rfl rfl rfl (by omega) ?_
          refine R.mvE rfl (by conv => lhs; whnf) ?_
          refine TL.nil (Post.thnN ?_)
          -- round's end, way yn
          have hqx : q = (wavesL false xs y).length := by omega
          rw [hqx, List.take_length] at hn2
          exact ⟨k + 1, s_0.trans (s21.trans s_1), ⟨by omega, rfl, rfl, by rw [take_snoc _ _ _ hy, List.any_append, hn]; simpa using hn2⟩, by omega, ⟨rfl, rfl, rfl, rfl, rfl, trivial⟩⟩
    · have hkx : k = (toL xs a).length := by omega
      rw [hkx, List.take_length] at hn
      refine T.exit (Post.thnE (Post.thnE (Post.blkX ?_)))
      refine id (Post.thnN ?_)
      refine T.seq ?_
      refine T.region ?_
      refine R.asE rfl (by conv => lhs; whnf) ?_
      refine TL.nil (Post.thnN ?_)
      refine T.ret ?_
      -- way n
      exact fin1 rfl rfl ⟨rfl, congrArg Value.bool hn.symm⟩


set_option maxHeartbeats 1600000 in
theorem rround_c (H : Heap) (v : Value) (xs : List Lk) (hr : RdS pairE H v xs) (hl : xs.length ≤ 1000) : Fv Try.prog (fnv 50) [v] H (.bool (xs.any (fun y => leadsQ xs y.1 y.1))) := by
  refine Fc.of_body (N := 18) Try.func50 rfl (by kernel_rfl) rfl rfl ?_
  intro w0
  obtain ⟨A, c, rfl, hc1, hc2, hr⟩ := hr.shape
  refine T.seq ?_
  refine T.region ?_
  refine R.asE rfl (by conv => lhs; whnf) ?_
  refine TL.nil (Post.thnN ?_)
  refine T.seq ?_
  refine T.seq ?_
  refine T.region ?_
  refine R.mvE rfl (by conv => lhs; whnf) ?_
  refine R.len Try.underlying22 rfl rfl ?_
  refine R.mvE rfl (by conv => lhs; whnf) ?_
  refine TL.nil (Post.thnN ?_)
  refine T.block ?_
  refine T.loop (ι := Nat) (fun k H' L' ds' => k ≤ xs.length ∧ L' = [] ∧ ds' = [] ∧ (xs.take k).any (fun y => leadsQ xs y.1 y.1) = false) (fun k => [(0, .slice A xs.length c), (5, .slice A xs.length c), (6, .int .i64 xs.length), (7, .int .i64 k)]) (fun k => xs.length - k) (0) ?_ ?_ ?_
  · exact ⟨Nat.zero_le _, rfl, rfl, rfl⟩
  · exact ⟨rfl, rfl, rfl, rfl, trivial⟩
  · intro k σ0 H_0 L_0 ds_0 s_0 hI_0
    obtain ⟨hk, rfl, rfl, hn⟩ := hI_0
    refine T.seq ?_
    refine T.region ?_
    refine R.lss rfl rfl rfl ?_
    refine TL.nil (Post.thnN ?_)
    refine T.seq ?_
    refine T.condD rfl (fun c8 => ?_) (fun c8 => ?_)
    · have hlt : k < xs.length := by omega
      obtain ⟨y, hy⟩ := getk hlt
      refine T.skip (Post.thnN ?_)
      refine T.seq ?_
      refine T.block ?_
      refine T.seq ?_
      refine T.region ?_
      obtain ⟨b9, o9, i9, e9⟩ := (hr.mono s_0).elem (hy)
      refine R.ixp Try.underlying22 Try.sizeOf37 rfl rfl rfl (by omega) i9 ?_
      refine R.ldP Try.isAgg37 Try.sizeOf37 rfl rfl (e9) ?_
      refine R.alloc Try.zeroValue37 rfl ?_
      intro b4
      refine R.stA (old := [.int .i64 0, .int .i64 0]) Try.sizeOf37 rfl rfl rfl rfl rfl (by intro v hv; simp at hv; rcases hv with rfl | rfl <;> rfl) .hd ?_
      refine TL.nil (Post.thnN ?_)
      refine T.seq ?_
      refine T.shut .hd ?_
      intro H4 s4 q4
      have h4 : H4 b4 = some (.cells #[.int .i64 y.1, .int .i64 y.2] 37) := shut1 q4
      refine T.region ?_
      refine R.mvE rfl (by conv => lhs; whnf) ?_
      refine R.fldA Try.underlying37 rfl Try.sizeOf3 (by decide) rfl rfl ?_
      refine R.ldH Try.isAgg3 rfl rfl (h4) rfl ?_
      refine R.fldA Try.underlying37 rfl Try.sizeOf3 (by decide) rfl rfl ?_
      refine R.ldH Try.isAgg3 rfl rfl (h4) rfl ?_
      refine R.callv rfl rfl rfl (rleads_c _ _ xs _ _ (hr.mono (s_0.trans s4)) hl) ?_
      refine TL.nil (Post.thnN ?_)
      refine T.cond rfl (fun c16 => ?_) (fun c16 => ?_)
      · refine T.seq ?_
        refine T.region ?_
        refine R.asE rfl (by conv => lhs; whnf) ?_
        refine TL.nil (Post.thnN ?_)
        refine T.ret (Post.blkR (Post.thnR (Post.thnR (Post.blkR (Post.thnR ?_)))))
        -- way yy
        exact fin1 rfl rfl ⟨rfl, congrArg Value.bool (List.any_eq_true.2 ⟨y, List.mem_of_getElem? hy, c16⟩).symm⟩
      · refine T.skip (Post.blkN ?_)
        refine id (Post.thnN ?_)
        refine T.region ?_
        refine R.addI rfl rfl rfl (by omega) ?_
        refine R.mvE rfl (by conv => lhs; whnf) ?_
        refine TL.nil (Post.thnN ?_)
        -- round's end, way yn
        exact ⟨k + 1, s_0.trans s4, ⟨by omega, rfl, rfl, by rw [take_snoc _ _ _ hy, List.any_append, hn]; simpa using c16⟩, by omega, ⟨rfl, rfl, rfl, rfl, trivial⟩⟩
    · have hkx : k = xs.length := by omega
      rw [hkx, List.take_length] at hn
      refine T.exit (Post.thnE (Post.thnE (Post.blkX ?_)))
      refine id (Post.thnN ?_)
      refine T.seq ?_
      refine T.region ?_
      refine R.asE rfl (by conv => lhs; whnf) ?_
      refine TL.nil (Post.thnN ?_)
      refine T.ret ?_
      -- way n
      exact fin1 rfl rfl ⟨rfl, congrArg Value.bool hn.symm⟩

end Go.SX
