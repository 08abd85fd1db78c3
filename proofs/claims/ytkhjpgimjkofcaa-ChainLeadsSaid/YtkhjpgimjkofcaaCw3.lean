/- chain: Waves, Leads, Closes; slices: Collect, AppendSeq, IsSorted, IndexFunc. -/
import Derived.Test.YtkhjpgimjkofcaaCw2
import Derived.Test.YtkhjpgimjkofcaaWo
set_option linter.unusedVariables false
set_option linter.unusedSimpArgs false
namespace Go.SX
open Go Go.Proofs

set_option maxHeartbeats 1600000 in
theorem waves_it (H : Heap) (u fv : Value) (first uni : List Int) (f : Int → List Int) (hcf : fv.cells = #[fv]) (hr : RdS (intE .i64) H u first) (hfv : StepF Try.prog fv f H) (huni : ∀ v, ∀ w ∈ f v, w ∈ uni) (hl : uni.length ≤ 2000) (hl2 : first.length ≤ 2000) : Fp Try.prog (fnv 70) [fv, u] H (fun v' H' => ∃ lb, v' = .func (.func 88) #[] lb ∧ Iter Try.prog v' YV H' (wavesW f uni.length first)) := by
  refine Fc.of_body (N := 6) Try.func70 rfl (by kernel_rfl) rfl rfl ?_
  intro w0
  have hcf2 := hcf
  obtain ⟨A, c, rfl, hc1, hc2, hr⟩ := hr.shape
  refine T.seq ?_
  refine T.region ?_
  refine R.box (v := fv) rfl rfl ?_
  intro b2
  refine R.box rfl (by conv => lhs; whnf) ?_
  intro b3
  refine R.asE rfl (by conv => lhs; whnf) ?_
  refine TL.nil (Post.thnN ?_)
  refine T.seq ?_
  refine T.shut .hd ?_
  intro H3 s3 q3
  refine T.shut .hd ?_
  intro H2 s2 q2
  refine T.region ?_
  refine R.mkf (cs := [_, _]) rfl rfl ?_
  refine R.asE rfl (by conv => lhs; whnf) ?_
  refine TL.nil (Post.thnN ?_)
  refine T.ret ?_
  exact fin1 rfl rfl ⟨rfl, _, rfl, wavesIt_c H2 b3 b2 _ fv first uni f (s2 _ _ (shut1 q3)) (by rw [← hcf2]; exact shut1 q2) ((hr.mono s3).mono s2) ((hfv.mono s3).mono s2) huni hl hl2⟩


set_option maxHeartbeats 1600000 in
theorem appseq_c (H : Heap) (gf : Nat) (lb : Array Value) (ws : List (List Int)) (hen : Enters Try.prog gf) (hl : ws.length ≤ 100000) (hit : Iter Try.prog (.func (.func gf) #[] lb) YV H ws) : Fp Try.prog (fnv 92) [.slice none 0 0, .func (.func gf) #[] lb] H (fun v' H' => RdS (slE (intE .i64)) H' v' ws) := by
  refine Fc.of_body (N := 13) Try.func92 rfl (by kernel_rfl) rfl rfl ?_
  intro w0
  refine T.seq ?_
  refine T.region ?_
  refine R.box rfl (by conv => lhs; whnf) ?_
  intro b2
  refine R.asE rfl (by conv => lhs; whnf) ?_
  refine TL.nil (Post.thnN ?_)
  refine T.seq ?_
  refine T.seq ?_
  refine T.nilc ?_
  refine T.region ?_
  refine R.mvE rfl (by conv => lhs; whnf) ?_
  refine TL.nil (Post.thnN ?_)
  refine T.block ?_
  refine T.rangeFunc rfl rfl hen hit (fun _ _ _ h => by obtain ⟨w, rfl, _⟩ := h; rfl) rfl (fun pre H' L' => ∃ v c, L' = [c, [(b2, .cells #[v] 52)]] ∧ OwnS (slE (intE .i64)) 23 H' v pre c) (fun c pre H' L' => False) (fun pre H H' L hle ⟨v, c, h1, h2⟩ => ⟨v, c, h1, h2.mono hle⟩) (fun _ _ _ _ _ _ h => h) ?_ ?_ ?_ ?_
  · exact ⟨_, _, rfl, OwnS.nil⟩
  · intro l0 r0 w0 pre y vs Hr0 Lr0 sr0 hp0 hI0 hY0
    obtain ⟨v, c, rfl, ho⟩ := hI0
    obtain ⟨w, rfl, hwy⟩ := hY0
    have hpl := hp0.length_le
    simp at hpl
    refine T.region ?_
    refine R.asE rfl (by conv => lhs; whnf) ?_
    refine TL.nil ?_
    refine onlyN.mk ?_
    refine T.block ?_
    refine T.region ?_
    refine R.ld Try.isAgg52 rfl rfl (by repeat (first | exact .hd | refine .tl ?_)) rfl ?_
    refine R.mvE rfl (by conv => lhs; whnf) ?_
    refine R.bs rfl (run_buildSlice1 Try.underlying52 Try.sizeOf23 Try.zeroValue23 rfl (by obtain ⟨_, _, e, _⟩ := hwy.shape; subst e; rfl)) ?_
    intro b10
    refine R.app (ys := [y]) Try_ty52 rfl rfl rfl ho (.tl .hd) (Src.lit (vs := [w]) .hd) ⟨[_], [], rfl, ⟨_, rfl, hwy⟩, rfl⟩ (by simp; omega) (by simp; omega) ?_
    intro v11 c11 w11
    refine R.st Try.sizeOf52 rfl rfl rfl (by obtain ⟨_, _, e, _⟩ := w11.shape; subst e; rfl) (by first | exact .hd | exact .tl .hd | exact .tl (.tl .hd) | exact .tl (.tl (.tl .hd)) | exact .tl (.tl (.tl (.tl .hd))) | exact .tl (.tl (.tl (.tl (.tl .hd)))) | exact .tl (.tl (.tl (.tl (.tl (.tl .hd))))) | exact .tl (.tl (.tl (.tl (.tl (.tl (.tl .hd)))))) | exact .tl (.tl (.tl (.tl (.tl (.tl (.tl (.tl .hd))))))) | exact .tl (.tl (.tl (.tl (.tl (.tl (.tl (.tl (.tl .hd))))))))) ?_
    refine TL.del (.tl .hd) ?_
    refine TL.nil (Post.blkN ?_)
    refine id ?_
    -- way b
    exact ⟨v11, c11, rfl, w11⟩
  · intro D0 Hr0 Lr0 sr0 hI0
    obtain ⟨v, c, rfl, ho⟩ := hI0
    refine id (Post.blkN ?_)
    refine id (Post.thnN ?_)
    refine T.seq ?_
    refine T.shut .hd ?_
    intro HW sW qW
    have hw := ho.read sW qW
    refine T.region ?_
    refine R.ld Try.isAgg52 rfl rfl (by repeat (first | exact .hd | refine .tl ?_)) rfl ?_
    refine R.asE rfl (by conv => lhs; whnf) ?_
    refine TL.nil (Post.thnN ?_)
    refine T.ret ?_
    -- way d
    exact fin1 rfl rfl ⟨rfl, hw⟩
  · intro D0 c0 pre y Hr0 Lr0 sr0 hp0 hI0
    exact hI0.elim


set_option maxHeartbeats 1600000 in
theorem collect_c (H : Heap) (gf : Nat) (lb : Array Value) (ws : List (List Int)) (hen : Enters Try.prog gf) (hl : ws.length ≤ 100000) (hit : Iter Try.prog (.func (.func gf) #[] lb) YV H ws) : Fp Try.prog (fnv 73) [.func (.func gf) #[] lb] H (fun v' H' => RdS (slE (intE .i64)) H' v' ws) := by
  refine Fc.of_body (N := 5) Try.func73 rfl (by kernel_rfl) rfl rfl ?_
  intro w0
  refine T.seq ?_
  refine T.region ?_
  refine R.asE rfl (by conv => lhs; whnf) ?_
  refine TL.nil (Post.thnN ?_)
  refine T.seq ?_
  refine T.region ?_
  refine R.mvE rfl (by conv => lhs; whnf) ?_
  refine R.callp rfl rfl rfl (appseq_c _ gf lb ws hen hl hit) ?_
  intro v4 H4 s4 q4
  refine R.asE rfl (by conv => lhs; whnf) ?_
  refine TL.nil (Post.thnN ?_)
  refine T.ret ?_
  exact fin1 rfl rfl ⟨rfl, q4⟩


set_option maxHeartbeats 1600000 in
theorem cwaves_c (H : Heap) (v : Value) (xs : List Lk) (a : Int) (hr : RdS pairE H v xs) (hl : xs.length ≤ 1000) (b : Bool) : Fp Try.prog (fnv 36) [v, .int .i64 a, .bool b] H (fun v' H' => RdS (slE (intE .i64)) H' v' (wavesL b xs a)) := by
  refine Fc.of_body (N := 14) Try.func36 rfl (by kernel_rfl) rfl rfl ?_
  intro w0
  obtain ⟨A, c, rfl, hc1, hc2, hr⟩ := hr.shape
  have hwl := wavesW_len (tbL b xs) xs.length [a]
  refine T.seq ?_
  refine T.region ?_
  refine R.asE rfl (by conv => lhs; whnf) ?_
  refine TL.nil (Post.thnN ?_)
  refine T.seq ?_
  refine T.region ?_
  refine R.mvE rfl (by conv => lhs; whnf) ?_
  refine R.mvE rfl (by conv => lhs; whnf) ?_
  refine R.callp rfl rfl rfl (steps_c _ _ xs b hr hl) ?_
  intro v9 H9 s9 q9
  obtain ⟨hcf, hst⟩ := q9
  refine R.mvE rfl (by conv => lhs; whnf) ?_
  refine R.bs rfl (run_buildSlice1 Try.underlying23 Try.sizeOf3 Try.zeroValue3 rfl rfl) ?_
  intro b11
  refine TL.shut .hd ?_
  intro H11 s11 q11
  refine R.callp rfl rfl rfl (waves_it _ _ _ [a] (endsL b xs) (tbL b xs) hcf (RdS.lit1 q11) (hst.mono s11) (fun v w hw => tb_mem hw) (by rw [ends_len]; omega) (by simp)) ?_
  intro v12 H12 s12 q12
  obtain ⟨lb, rfl, hit⟩ := q12
  rw [ends_len] at hit
  refine R.callp rfl rfl rfl (collect_c _ _ lb _ (enters_of Try.func88 (by kernel_rfl) rfl) (by simp at hwl; omega) hit) ?_
  intro v13 H13 s13 q13
  refine R.asE rfl (by conv => lhs; whnf) ?_
  refine TL.nil (Post.thnN ?_)
  refine T.ret ?_
  exact fin1 rfl rfl ⟨rfl, by rw [← wavesW_eq]; exact q13⟩


set_option maxHeartbeats 1600000 in
theorem leads_c (H : Heap) (v : Value) (xs : List Lk) (a : Int) (hr : RdS pairE H v xs) (hl : xs.length ≤ 1000) (z : Int) : Fv Try.prog (fnv 29) [v, .int .i64 a, .int .i64 z] H (.bool (leadsR xs a z)) := by
  refine Fc.of_body (N := 20) Try.func29 rfl (by kernel_rfl) rfl rfl ?_
  intro w0
  obtain ⟨A, c, rfl, hc1, hc2, hr⟩ := hr.shape
  refine T.seq ?_
  refine T.region ?_
  refine R.box rfl (by conv => lhs; whnf) ?_
  intro b5
  refine R.alloc Try.zeroValue4 rfl ?_
  intro b6
  refine TL.nil (Post.thnN ?_)
  refine T.seq ?_
  refine T.shut (.tl .hd) ?_
  intro H5 s5 q5
  refine T.region ?_
  refine R.mvE rfl (by conv => lhs; whnf) ?_
  refine R.callp rfl rfl rfl (steps_c _ _ xs false (hr.mono s5) hl) ?_
  intro v10 H10 s10 q10
  obtain ⟨hcf, hst⟩ := q10
  refine R.asE rfl (by conv => lhs; whnf) ?_
  refine TL.nil (Post.thnN ?_)
  refine T.seq ?_
  refine T.seq ?_
  refine T.region ?_
  refine R.mvE rfl (by conv => lhs; whnf) ?_
  refine R.mvE rfl (by conv => lhs; whnf) ?_
  refine R.mvE rfl (by conv => lhs; whnf) ?_
  refine R.callp rfl rfl rfl (hst _ (HLe.refl _) a) ?_
  intro v14 H14 s14 q14
  refine R.callp rfl rfl rfl (waves_it _ _ _ (toL xs a) (endsL false xs) (toL xs) hcf q14 (hst.mono s14) (fun v w hw => to_mem hw) (by rw [ends_len]; omega) (by have := toL_len xs a; omega)) ?_
  intro v15 H15 s15 q15
  obtain ⟨lb, rfl, hit⟩ := q15
  rw [ends_len] at hit
  refine TL.nil (Post.thnN ?_)
  refine T.block ?_
  refine T.rangeFunc rfl rfl (enters_of Try.func88 (by kernel_rfl) rfl) hit (fun _ _ _ h => by obtain ⟨w, rfl, _⟩ := h; rfl) rfl (fun pre H' L' => (∀ w ∈ pre, w.any (fun y => decide (z = y)) = false) ∧ L' = [[(b6, .cells #[.bool false] 4)]]) (fun c pre H' L' => c = .ret ∧ (∃ w ∈ pre, w.any (fun y => decide (z = y)) = true) ∧ L' = [[(b6, .cells #[.bool true] 4)]]) (fun _ _ _ _ _ h => h) (fun _ _ _ _ _ _ h => h) ?_ ?_ ?_ ?_
  · exact ⟨fun w h => (by cases h), rfl⟩
  · intro l0 r0 w0 pre y vs Hr0 Lr0 sr0 hp0 hI0 hY0
    obtain ⟨hno, rfl⟩ := hI0
    obtain ⟨w, rfl, hwy⟩ := hY0
    obtain ⟨Ay, cy, rfl, my, ny, hwy⟩ := hwy.shape
    refine T.region ?_
    refine R.asE rfl (by conv => lhs; whnf) ?_
    refine TL.nil ?_
    refine onlyN.mk ?_
    refine T.block ?_
    refine T.seq ?_
    refine T.region ?_
    refine R.mvE rfl (by conv => lhs; whnf) ?_
    refine R.ldH Try.isAgg3 rfl rfl ((s10.trans (s14.trans (s15.trans sr0))) _ _ (shut1 q5)) rfl ?_
    refine R.callv rfl rfl rfl (containsI23_c _ _ _ z hwy) ?_
    refine TL.nil (Post.thnN ?_)
    refine T.cond rfl (fun c19 => ?_) (fun c19 => ?_)
    · refine T.seq ?_
      refine T.region ?_
      refine R.st Try.sizeOf4 rfl rfl (by conv => lhs; whnf) rfl (by first | exact .hd | exact .tl .hd | exact .tl (.tl .hd) | exact .tl (.tl (.tl .hd)) | exact .tl (.tl (.tl (.tl .hd))) | exact .tl (.tl (.tl (.tl (.tl .hd)))) | exact .tl (.tl (.tl (.tl (.tl (.tl .hd))))) | exact .tl (.tl (.tl (.tl (.tl (.tl (.tl .hd)))))) | exact .tl (.tl (.tl (.tl (.tl (.tl (.tl (.tl .hd))))))) | exact .tl (.tl (.tl (.tl (.tl (.tl (.tl (.tl (.tl .hd))))))))) ?_
      refine TL.nil (Post.thnN ?_)
      refine T.ret (Post.blkR ?_)
      -- way by
      exact ⟨rfl, ⟨y, by simp, c19⟩, rfl⟩
    · refine T.skip (Post.blkN ?_)
      refine id ?_
      -- way bn
      refine ⟨fun w hw => ?_, rfl⟩
      rcases List.mem_append.1 hw with hw | hw
      · exact hno w hw
      · simp at hw; rw [hw]; exact c19
  · intro D0 Hr0 Lr0 sr0 hI0
    obtain ⟨hno, rfl⟩ := hI0
    refine id (Post.blkN ?_)
    refine id (Post.thnN ?_)
    refine T.seq ?_
    refine T.region ?_
    refine R.st Try.sizeOf4 rfl rfl (by conv => lhs; whnf) rfl (by first | exact .hd | exact .tl .hd | exact .tl (.tl .hd) | exact .tl (.tl (.tl .hd)) | exact .tl (.tl (.tl (.tl .hd))) | exact .tl (.tl (.tl (.tl (.tl .hd)))) | exact .tl (.tl (.tl (.tl (.tl (.tl .hd))))) | exact .tl (.tl (.tl (.tl (.tl (.tl (.tl .hd)))))) | exact .tl (.tl (.tl (.tl (.tl (.tl (.tl (.tl .hd))))))) | exact .tl (.tl (.tl (.tl (.tl (.tl (.tl (.tl (.tl .hd))))))))) ?_
    refine TL.nil (Post.thnN ?_)
    refine T.ret ?_
    -- way d
    exact fin1C [] rfl Try.isAgg4 rfl .hd rfl (List.nil_sublist _) ⟨rfl, congrArg Value.bool (leads_no hno).symm⟩
  · intro D0 c0 pre y Hr0 Lr0 sr0 hp0 hI0
    obtain ⟨rfl, ⟨w, hw, hyes⟩, rfl⟩ := hI0
    have hwm := hp0.subset hw
    refine T.ret (Post.blkR (Post.thnR ?_))
    -- way s
    exact fin1C [] rfl Try.isAgg4 rfl .hd rfl (List.nil_sublist _) ⟨rfl, congrArg Value.bool (leads_yes hwm hyes).symm⟩


set_option maxHeartbeats 1600000 in
theorem closes_c (H : Heap) (v : Value) (xs : List Lk) (a : Int) (hr : RdS pairE H v xs) (hl : xs.length ≤ 1000) (z : Int) : Fv Try.prog (fnv 49) [v, .int .i64 a, .int .i64 z] H (.bool (decide (a = z) || leadsR xs z a)) := by
  refine Fc.of_body (N := 16) Try.func49 rfl (by kernel_rfl) rfl rfl ?_
  intro w0
  obtain ⟨A, c, rfl, hc1, hc2, hr⟩ := hr.shape
  refine T.seq ?_
  refine T.region ?_
  refine R.asE rfl (by conv => lhs; whnf) ?_
  refine TL.nil (Post.thnN ?_)
  refine T.seq ?_
  refine T.region ?_
  refine R.mvE rfl (by conv => lhs; whnf) ?_
  refine R.mvE rfl (by conv => lhs; whnf) ?_
  refine R.eql rfl rfl rfl ?_
  refine R.mvE rfl (by conv => lhs; whnf) ?_
  refine TL.gsplitD 10 rfl (fun g10 => ?_) (fun g10 => ?_)
  · refine TL.off rfl rfl rfl ?_
    refine TL.off rfl rfl rfl ?_
    refine TL.off rfl rfl rfl ?_
    refine TL.off rfl rfl rfl ?_
    refine R.pkTE rfl rfl (by conv => lhs; whnf) ?_
    refine R.asE rfl (by conv => lhs; whnf) ?_
    refine TL.nil (Post.thnN ?_)
    refine T.ret ?_
    -- way y
    exact fin1 rfl rfl ⟨rfl, congrArg Value.bool (by simp [g10])⟩
  · refine R.mvE rfl (by conv => lhs; whnf) ?_
    refine R.mvE rfl (by conv => lhs; whnf) ?_
    refine R.mvE rfl (by conv => lhs; whnf) ?_
    refine R.callv rfl rfl rfl (leads_c _ _ xs z hr hl a) ?_
    refine R.pkFE rfl rfl (by conv => lhs; whnf) ?_
    refine R.asE rfl (by conv => lhs; whnf) ?_
    refine TL.nil (Post.thnN ?_)
    refine T.ret ?_
    -- way n
    exact fin1 rfl rfl ⟨rfl, congrArg Value.bool (by simp [g10])⟩


set_option maxHeartbeats 1600000 in
theorem isSorted_c (H : Heap) (v : Value) (xs : List Int) (hr : RdS (intE .i64) H v xs) (hs : xs.Pairwise (· ≤ ·)) : Fv Try.prog (fnv 33) [v] H (.bool true) := by
  refine Fc.of_body (N := 21) Try.func33 rfl (by kernel_rfl) rfl rfl ?_
  intro w0
  obtain ⟨A, c, rfl, hc1, hc2, hr⟩ := hr.shape
  refine T.seq ?_
  refine T.region ?_
  refine R.asE rfl (by conv => lhs; whnf) ?_
  refine TL.nil (Post.thnN ?_)
  refine T.seq ?_
  refine T.seq ?_
  refine T.region ?_
  refine R.mvE rfl (by conv => lhs; whnf) ?_
  refine R.len Try.underlying23 rfl rfl ?_
  refine R.subI rfl rfl rfl (by omega) ?_
  refine R.asE rfl (by conv => lhs; whnf) ?_
  refine TL.nil (Post.thnN ?_)
  refine T.block ?_
  refine T.loop (ι := Int) (fun k H' L' ds' => k ≤ (xs.length : Int) - 1) (fun k => [(0, .slice A xs.length c), (3, .int .i64 k)]) (fun k => k.toNat) ((xs.length : Int) - 1) ?_ ?_ ?_
  · exact Int.le_refl _
  · exact ⟨rfl, rfl, trivial⟩
  · intro k σ0 H_0 L_0 ds_0 s_0 hI_0
    refine T.seq ?_
    refine T.seq ?_
    refine T.region ?_
    refine R.mvE rfl (by conv => lhs; whnf) ?_
    refine R.gtr rfl rfl rfl ?_
    refine TL.nil (Post.thnN ?_)
    refine T.condD rfl (fun c8 => ?_) (fun c8 => ?_)
    · obtain ⟨x, hx⟩ := getk (xs := xs) (k := k.toNat) (by omega)
      obtain ⟨y, hy⟩ := getk (xs := xs) (k := (k - 1).toNat) (by omega)
      have hxy : ¬ x < y := fun h => by
        have := sorted_get hs hy hx (by omega); omega
      refine T.skip (Post.thnN ?_)
      refine T.seq ?_
      refine T.block ?_
      refine T.seq ?_
      refine T.draw Try_mixed (by kernel_rfl) ?_
      refine Plan.v 0 [1, 2, 3, 4, 5, 6, 7, 8, 9] (by kernel_rfl) (by kernel_rfl) (by kernel_rfl) (by kernel_rfl) rfl (fun _ _ h_ => R.mvE rfl (by conv => lhs; whnf) (TL.nil h_)) ?_
      refine Plan.v 1 [2, 3, 4, 5, 6, 7, 8, 9] (by kernel_rfl) (by kernel_rfl) (by kernel_rfl) (by kernel_rfl) rfl (fun _ _ h_ => R.mvE rfl (by conv => lhs; whnf) (TL.nil h_)) ?_
      obtain ⟨b13, o13, i13, e13⟩ := (hr.mono s_0).elem (hx)
      refine Plan.v 2 [3, 4, 5, 6, 7, 8, 9] (by kernel_rfl) (by kernel_rfl) (by kernel_rfl) (by kernel_rfl) rfl (fun _ _ h_ => R.ixp Try.underlying23 Try.sizeOf3 rfl rfl rfl (by omega) i13 (TL.nil h_)) ?_
      refine Plan.v 3 [4, 5, 6, 7, 8, 9] (by kernel_rfl) (by kernel_rfl) (by kernel_rfl) (by kernel_rfl) rfl (fun _ _ h_ => R.ldC Try.isAgg3 rfl rfl (e13).int (TL.nil h_)) ?_
      refine Plan.v 4 [5, 6, 7, 8, 9] (by kernel_rfl) (by kernel_rfl) (by kernel_rfl) (by kernel_rfl) rfl (fun _ _ h_ => R.mvE rfl (by conv => lhs; whnf) (TL.nil h_)) ?_
      refine Plan.v 5 [6, 7, 8, 9] (by kernel_rfl) (by kernel_rfl) (by kernel_rfl) (by kernel_rfl) rfl (fun _ _ h_ => R.mvE rfl (by conv => lhs; whnf) (TL.nil h_)) ?_
      refine Plan.v 6 [7, 8, 9] (by kernel_rfl) (by kernel_rfl) (by kernel_rfl) (by kernel_rfl) rfl (fun _ _ h_ => R.subI rfl rfl rfl (by omega) (TL.nil h_)) ?_
      obtain ⟨b18, o18, i18, e18⟩ := (hr.mono s_0).elem (hy)
      refine Plan.v 7 [8, 9] (by kernel_rfl) (by kernel_rfl) (by kernel_rfl) (by kernel_rfl) rfl (fun _ _ h_ => R.ixp Try.underlying23 Try.sizeOf3 rfl rfl rfl (by omega) i18 (TL.nil h_)) ?_
      refine Plan.v 8 [9] (by kernel_rfl) (by kernel_rfl) (by kernel_rfl) (by kernel_rfl) rfl (fun _ _ h_ => R.ldC Try.isAgg3 rfl rfl (e18).int (TL.nil h_)) ?_
      refine Plan.v 9 [] (by kernel_rfl) (by kernel_rfl) (by kernel_rfl) (by kernel_rfl) rfl (fun _ _ h_ => R.callv rfl rfl rfl (lessI3_c _ _ _) (TL.nil h_)) ?_
      refine Plan.done (Post.thnN ?_)
      refine T.set 20 (.bool false) (congrArg Value.bool (decide_eq_false hxy)) ?_
      refine T.condN rfl ?_
      refine T.skip (Post.blkN ?_)
      refine id (Post.thnN ?_)
      refine T.region ?_
      refine R.mvE rfl (by conv => lhs; whnf) ?_
      refine R.subI rfl rfl rfl (by omega) ?_
      refine R.asE rfl (by conv => lhs; whnf) ?_
      refine TL.nil (Post.thnN ?_)
      -- round's end, way y
      exact ⟨k - 1, s_0, by show k - 1 ≤ (xs.length : Int) - 1; omega, by omega, ⟨rfl, rfl, trivial⟩⟩
    · refine T.exit (Post.thnE (Post.thnE (Post.blkX ?_)))
      refine id (Post.thnN ?_)
      refine T.seq ?_
      refine T.region ?_
      refine R.asE rfl (by conv => lhs; whnf) ?_
      refine TL.nil (Post.thnN ?_)
      refine T.ret ?_
      -- way n
      exact fin1 rfl rfl ⟨rfl, rfl⟩


set_option maxHeartbeats 1600000 in
theorem indexF_c (H : Heap) (v fv : Value) (xs : List Int) (p : Int → Bool) (hr : RdS (intE .i64) H v xs) (hp : PredI Try.prog fv p H) : Fv Try.prog (fnv 34) [v, fv] H (.int .i64 (fidxI p xs)) := by
  refine Fc.of_body (N := 19) Try.func34 rfl (by kernel_rfl) rfl rfl ?_
  intro w0
  obtain ⟨A, c, rfl, hc1, hc2, hr⟩ := hr.shape
  refine T.seq ?_
  refine T.region ?_
  refine R.asE rfl (by conv => lhs; whnf) ?_
  refine TL.nil (Post.thnN ?_)
  refine T.seq ?_
  refine T.seq ?_
  refine T.region ?_
  refine R.mvE rfl (by conv => lhs; whnf) ?_
  refine R.len Try.underlying23 rfl rfl ?_
  refine R.mvE rfl (by conv => lhs; whnf) ?_
  refine TL.nil (Post.thnN ?_)
  refine T.block ?_
  refine T.loop (ι := Nat) (fun k H' L' ds' => k ≤ xs.length ∧ ∀ (j : Nat) z, j < k → xs[j]? = some z → p z = false) (fun k => [(0, .slice A xs.length c), (1, fv), (7, .int .i64 xs.length), (8, .int .i64 k)]) (fun k => xs.length - k) (0) ?_ ?_ ?_
  · exact ⟨Nat.zero_le _, fun j z h => absurd h (by omega)⟩
  · exact ⟨rfl, rfl, rfl, rfl, trivial⟩
  · intro k σ0 H_0 L_0 ds_0 s_0 hI_0
    obtain ⟨hk, hw⟩ := hI_0
    refine T.seq ?_
    refine T.region ?_
    refine R.lss rfl rfl rfl ?_
    refine TL.nil (Post.thnN ?_)
    refine T.seq ?_
    refine T.condD rfl (fun c9 => ?_) (fun c9 => ?_)
    · have hlt : k < xs.length := by omega
      obtain ⟨a, hx⟩ := getk hlt
      refine T.skip (Post.thnN ?_)
      refine T.seq ?_
      refine T.block ?_
      refine T.seq ?_
      refine T.region ?_
      refine R.mvE rfl (by conv => lhs; whnf) ?_
      refine R.asE rfl (by conv => lhs; whnf) ?_
      refine TL.nil (Post.thnN ?_)
      refine T.seq ?_
      refine T.region ?_
      refine R.mvE rfl (by conv => lhs; whnf) ?_
      refine R.mvE rfl (by conv => lhs; whnf) ?_
      refine R.mvE rfl (by conv => lhs; whnf) ?_
      obtain ⟨b14, o14, i14, e14⟩ := (hr.mono s_0).elem (hx)
      refine R.ixp Try.underlying23 Try.sizeOf3 rfl rfl rfl (by omega) i14 ?_
      refine R.ldC Try.isAgg3 rfl rfl (e14).int ?_
      refine R.callv rfl rfl rfl (hp _ s_0 a) ?_
      refine TL.nil (Post.thnN ?_)
      refine T.cond rfl (fun c16 => ?_) (fun c16 => ?_)
      · refine T.seq ?_
        refine T.region ?_
        refine R.mvE rfl (by conv => lhs; whnf) ?_
        refine R.asE rfl (by conv => lhs; whnf) ?_
        refine TL.nil (Post.thnN ?_)
        refine T.ret (Post.blkR (Post.thnR (Post.thnR (Post.blkR (Post.thnR ?_)))))
        -- way yy
        exact fin1 rfl rfl ⟨rfl, congrArg (Value.int .i64) (fidxI_at (p := p) hx c16 hw).symm⟩
      · refine T.skip (Post.blkN ?_)
        refine id (Post.thnN ?_)
        refine T.region ?_
        refine R.addI rfl rfl rfl (by omega) ?_
        refine R.mvE rfl (by conv => lhs; whnf) ?_
        refine TL.nil (Post.thnN ?_)
        -- round's end, way yn
        exact ⟨k + 1, s_0, ⟨by omega, fun j z h1 h2 => if e : j = k then by subst e; rw [hx] at h2; injection h2 with h2; subst h2; exact c16 else hw j z (by omega) h2⟩, by omega, ⟨rfl, rfl, rfl, rfl, trivial⟩⟩
    · refine T.exit (Post.thnE (Post.thnE (Post.blkX ?_)))
      refine id (Post.thnN ?_)
      refine T.seq ?_
      refine T.region ?_
      refine R.asE rfl (by conv => lhs; whnf) ?_
      refine TL.nil (Post.thnN ?_)
      refine T.ret ?_
      -- way n
      exact fin1 rfl rfl ⟨rfl, congrArg (Value.int .i64) (fidxI_none (p := p) (fun j z h => hw j z (by have := (List.getElem?_eq_some_iff.1 h).1; omega) h)).symm⟩

end Go.SX
