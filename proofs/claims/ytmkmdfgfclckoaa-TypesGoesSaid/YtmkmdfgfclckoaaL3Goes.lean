/- TypesGoes answers true, whatever the input. -/
import Derived.Test.YtmkmdfgfclckoaaL31
import Derived.Test.YtmkmdfgfclckoaaR32
set_option linter.unusedVariables false
set_option linter.unusedSimpArgs false
namespace Go.SX
open Go Go.Proofs

set_option maxHeartbeats 1600000 in
theorem goes_c (H : Heap) (v u z : Value) (xs more less : List Int) (hr : RdS (intE .u64) H v xs) (hr2 : RdS (intE .u64) H u more) (hr3 : RdS (intE .u64) H z less) (hU : Us xs) (hU2 : Us more) (hU3 : Us less) : Fv Try.prog (fnv 4) [v, u, z] H (.bool true) := by
  refine Fc.of_body (N := 121) Try.func4 rfl (by kernel_rfl) rfl rfl ?_
  intro w0
  obtain ⟨A, c, rfl, hc1, hc2, hr⟩ := hr.shape
  obtain ⟨A2, c2, rfl, hc3, hc4, hr2⟩ := hr2.shape
  obtain ⟨A3, c3, rfl, hc5, hc6, hr3⟩ := hr3.shape
  obtain ⟨fx, hfx⟩ : ∃ l, l = xs.take 20 := ⟨_, rfl⟩
  have hfU : Us fx := by rw [hfx]; exact few_us hU
  have hfl : fx.length ≤ 1000 := by rw [hfx]; simp; omega
  refine T.seq ?_
  refine T.region ?_
  refine R.asE rfl (by conv => lhs; whnf) ?_
  refine TL.nil (Post.thnN ?_)
  refine T.seq ?_
  refine T.seq ?_
  refine T.region ?_
  refine R.callv rfl rfl rfl (wakes_c _) ?_
  refine R.not rfl rfl ?_
  refine TL.nil (Post.thnN ?_)
  refine T.condN rfl ?_
  refine T.skip (Post.thnN ?_)
  refine T.seq ?_
  refine T.region ?_
  refine R.mvE rfl (by conv => lhs; whnf) ?_
  refine TL.call [] rfl rfl rfl (few_c _ _ _ hr) ?_
  intro v25 H25 L25 s25 q25
  obtain ⟨c25, rfl, w25⟩ := q25
  refine TL.shut .hd ?_
  intro HF25 sF25 qF25
  rw [← hfx] at w25
  have f25 := w25.read sF25 qF25
  obtain ⟨AF25, pF25, rfl, mF25, nF25, f25⟩ := f25.shape
  refine R.asE rfl (by conv => lhs; whnf) ?_
  refine TL.nil (Post.thnN ?_)
  refine T.seq ?_
  refine T.region ?_
  refine R.mvE rfl (by conv => lhs; whnf) ?_
  refine R.callv rfl rfl rfl (rright_c _ _ _ f25 hfU) ?_
  refine R.asE rfl (by conv => lhs; whnf) ?_
  refine TL.nil (Post.thnN ?_)
  refine T.cut (ι := Unit) (fun _ H' L' ds' => L' = [] ∧ ds' = []) (fun _ => [(0, .slice A xs.length c), (2, .slice A3 less.length c3), (7, .slice AF25 fx.length pF25), (8, .bool (typeB fx))]) ?_ ?_
  · refine T.seq ?_
    refine T.region ?_
    refine R.mvE rfl (by conv => lhs; whnf) ?_
    refine R.len Try.underlying22 rfl rfl ?_
    refine R.mvE rfl (by conv => lhs; whnf) ?_
    refine TL.nil (Post.thnN ?_)
    refine T.block ?_
    refine T.loop (ι := Nat) (fun k H' L' ds' => k ≤ more.length ∧ L' = [] ∧ ds' = []) (fun k => [(0, .slice A xs.length c), (2, .slice A3 less.length c3), (7, .slice AF25 fx.length pF25), (8, .bool (typeB fx)), (28, .slice A2 more.length c2), (29, .int .i64 more.length), (30, .int .i64 k)]) (fun k => more.length - k) (0) ?_ ?_ ?_
    · exact ⟨Nat.zero_le _, rfl, rfl⟩
    · exact ⟨rfl, rfl, rfl, rfl, rfl, rfl, rfl, trivial⟩
    · intro k σ0 H_0 L_0 ds_0 s_0 hI_0
      obtain ⟨hk, rfl, rfl⟩ := hI_0
      refine T.seq ?_
      refine T.region ?_
      refine R.lss rfl rfl rfl ?_
      refine TL.nil (Post.thnN ?_)
      refine T.seq ?_
      refine T.condD rfl (fun c31 => ?_) (fun c31 => ?_)
      · have hlt : k < more.length := by omega
        obtain ⟨y, hy⟩ := getk hlt
        have hyU := hU2 y (List.mem_of_getElem? hy)
        refine T.skip (Post.thnN ?_)
        refine T.seq ?_
        refine T.block ?_
        refine T.seq ?_
        refine T.region ?_
        refine R.mvE rfl (by conv => lhs; whnf) ?_
        obtain ⟨b33, o33, i33, e33⟩ := (hr2.mono ((s25.trans sF25).trans s_0)).elem (hy)
        refine R.ixp Try.underlying22 Try.sizeOf28 rfl rfl rfl (by omega) i33 ?_
        refine R.ldC Try.isAgg28 rfl rfl (e33).int ?_
        refine R.asE rfl (by conv => lhs; whnf) ?_
        refine R.asE rfl (by conv => lhs; whnf) ?_
        refine TL.nil (Post.thnN ?_)
        refine T.seq ?_
        refine T.seq ?_
        refine T.region ?_
        refine R.mvE rfl (by conv => lhs; whnf) ?_
        refine R.eql rfl rfl rfl ?_
        refine TL.nil (Post.thnN ?_)
        refine T.condD rfl (fun c36 => ?_) (fun c36 => ?_)
        · refine T.exit (Post.thnE (Post.blkE rfl (Post.thnE (Post.thnE (Post.blkX ?_)))))
          refine id (Post.thnN ?_)
          -- cut b0, way yy
          exact ⟨(), s_0, ⟨rfl, rfl⟩, rfl, rfl, rfl, rfl, trivial⟩
        · refine T.skip (Post.thnN ?_)
          refine T.seq ?_
          refine T.region ?_
          refine R.mvE rfl (by conv => lhs; whnf) ?_
          refine R.mvE rfl (by conv => lhs; whnf) ?_
          refine TL.call [] rfl rfl rfl (With_c _ _ _ y (f25.mono s_0) hfU hyU hfl) ?_
          intro v40 H40 L40 s40 q40
          obtain ⟨r40, c40, hv40, rfl, w40⟩ := q40
          obtain ⟨m, hm⟩ : ∃ m, m = (withR fx y).1 := ⟨_, rfl⟩
          obtain ⟨e, he⟩ : ∃ e, e = (withR fx y).2 := ⟨_, rfl⟩
          rw [← hm] at w40
          rw [← he] at hv40
          subst hv40
          obtain ⟨A40, p40, rfl, m40, n40⟩ := w40.shape
          refine R.mvE rfl (by conv => lhs; whnf) ?_
          refine R.ext rfl rfl rfl ?_
          refine R.ext rfl rfl rfl ?_
          refine R.asE rfl (by conv => lhs; whnf) ?_
          refine R.asE rfl (by conv => lhs; whnf) ?_
          refine TL.nil (Post.thnN ?_)
          refine T.seq ?_
          refine T.region ?_
          refine R.asE rfl (by conv => lhs; whnf) ?_
          refine R.asE rfl (by conv => lhs; whnf) ?_
          refine TL.nil (Post.thnN ?_)
          refine T.cut (ι := Value) (fun w H' L' ds' => L' = [c40] ∧ ds' = [] ∧ RdS (intE .u64) H' w m) (fun w => [(0, .slice A xs.length c), (2, .slice A3 less.length c3), (7, .slice AF25 fx.length pF25), (8, .bool (typeB fx)), (11, .slice A40 m.length p40), (12, .int .i64 e), (13, w), (14, .int .i64 e), (28, .slice A2 more.length c2), (29, .int .i64 more.length), (30, .int .i64 k)]) ?_ ?_
          · refine T.seq ?_
            refine T.region ?_
            refine R.mvE rfl (by conv => lhs; whnf) ?_
            refine TL.nil (Post.thnN ?_)
            refine T.cond rfl (fun c43 => ?_) (fun c43 => ?_)
            · refine T.seq ?_
              have ht := c43
              refine T.region ?_
              refine R.mvE rfl (by conv => lhs; whnf) ?_
              refine R.mvE rfl (by conv => lhs; whnf) ?_
              refine R.callp rfl rfl rfl (rwith_c _ _ _ y (f25.mono (s_0.trans s40)) hfl) ?_
              intro v46 H46 s46 q46
              rw [wthR_eq (typeB_iff.1 ht).2.2] at q46
              obtain ⟨A46, p46, rfl, m46, n46, q46⟩ := q46.shape
              refine R.asE rfl (by conv => lhs; whnf) ?_
              refine R.asE rfl (by conv => lhs; whnf) ?_
              refine TL.nil (Post.thnN ?_)
              refine T.block ?_
              refine T.seq ?_
              refine T.region ?_
              refine R.mvE rfl (by conv => lhs; whnf) ?_
              refine R.callv rfl rfl rfl (rmay_c _ _ hyU) ?_
              refine R.not rfl rfl ?_
              refine R.asE rfl (by conv => lhs; whnf) ?_
              refine TL.nil (Post.thnN ?_)
              refine T.cond rfl (fun c47 => ?_) (fun c47 => ?_)
              · refine T.region ?_
                refine R.asE rfl (by conv => lhs; whnf) ?_
                refine R.asE rfl (by conv => lhs; whnf) ?_
                refine TL.nil (Post.blkN ?_)
                refine id (Post.thnN ?_)
                -- cut c43, way yy
                have hq := withR_b (x := y) ht (by simpa using c47)
                exact ⟨.slice none 0 0, s46, ⟨rfl, rfl, by rw [hm, hq]; exact RdS.nil⟩, rfl, rfl, rfl, rfl, rfl, rfl, rfl, congrArg (Value.int .i64) (by rw [he, hq]), rfl, rfl, rfl, trivial⟩
              · refine T.seq ?_
                refine T.region ?_
                refine R.mvE rfl (by conv => lhs; whnf) ?_
                refine R.len Try.underlying22 rfl rfl ?_
                refine R.gtr rfl rfl rfl ?_
                refine R.asE rfl (by conv => lhs; whnf) ?_
                refine TL.nil (Post.thnN ?_)
                refine T.condD rfl (fun c51 => ?_) (fun c51 => ?_)
                · refine T.region ?_
                  refine R.asE rfl (by conv => lhs; whnf) ?_
                  refine R.asE rfl (by conv => lhs; whnf) ?_
                  refine TL.nil (Post.blkN ?_)
                  refine id (Post.thnN ?_)
                  -- cut c43, way yny
                  have hq := withR_c (x := y) ht (by simpa using c47) (by omega)
                  exact ⟨.slice none 0 0, s46, ⟨rfl, rfl, by rw [hm, hq]; exact RdS.nil⟩, rfl, rfl, rfl, rfl, rfl, rfl, rfl, congrArg (Value.int .i64) (by rw [he, hq]), rfl, rfl, rfl, trivial⟩
                · refine T.skip (Post.blkN ?_)
                  refine id (Post.thnN ?_)
                  -- cut c43, way ynn
                  have hq := withR_d (x := y) ht (by simpa using c47) (by omega)
                  exact ⟨_, s46, ⟨rfl, rfl, by rw [hm, hq]; exact q46⟩, rfl, rfl, rfl, rfl, rfl, rfl, rfl, congrArg (Value.int .i64) (by rw [he, hq]), rfl, rfl, rfl, trivial⟩
            · refine T.skip (Post.thnN ?_)
              -- cut c43, way n
              have hq := withR_a (x := y) c43
              exact ⟨.slice none 0 0, HLe.refl _, ⟨rfl, rfl, by rw [hm, hq]; exact RdS.nil⟩, rfl, rfl, rfl, rfl, rfl, rfl, rfl, congrArg (Value.int .i64) (by rw [he, hq]), rfl, rfl, rfl, trivial⟩
          · intro w σ_c43 H_c43 L_c43 ds_c43 s_c43 hI_c43
            obtain ⟨rfl, rfl, hw⟩ := hI_c43
            refine T.seq ?_
            refine T.seq ?_
            refine T.region ?_
            refine R.mvE rfl (by conv => lhs; whnf) ?_
            refine R.mvE rfl (by conv => lhs; whnf) ?_
            refine R.neq rfl rfl rfl ?_
            refine R.mvE rfl (by conv => lhs; whnf) ?_
            refine TL.set 58 (.bool false) (congrArg Value.bool (by simp)) ?_
            refine R.mvE rfl (by conv => lhs; whnf) ?_
            refine R.mvE rfl (by conv => lhs; whnf) ?_
            refine TL.call [true] rfl rfl rfl (Fv.borrow (fun H2 hl hc => equalU22_c _ _ _ _ _ ((w40.mono s_c43).read hl hc) (hw.mono hl))) ?_
            intro v61 H61 L61 s61 q61
            obtain ⟨rfl, rfl⟩ := q61
            refine R.not rfl rfl ?_
            refine R.pkFE rfl rfl (by conv => lhs; whnf) ?_
            refine TL.nil (Post.thnN ?_)
            refine T.set 63 (.bool false) (congrArg Value.bool (by simp)) ?_
            refine T.condN rfl ?_
            refine T.skip (Post.thnN ?_)
            refine T.seq ?_
            refine T.seq ?_
            refine T.region ?_
            refine R.mvE rfl (by conv => lhs; whnf) ?_
            refine R.len Try.underlying22 rfl rfl ?_
            refine R.mvE rfl (by conv => lhs; whnf) ?_
            refine TL.nil (Post.thnN ?_)
            refine T.block ?_
            refine T.loop (ι := Nat × List Int × Chunk) (fun q H' L' ds' => q.1 ≤ m.length ∧ L' = [q.2.2] ∧ ds' = [] ∧ q.2.1.length = m.length ∧ OwnS (intE .u64) 28 H' (.slice A40 m.length p40) q.2.1 q.2.2) (fun q => [(0, .slice A xs.length c), (2, .slice A3 less.length c3), (7, .slice AF25 fx.length pF25), (8, .bool (typeB fx)), (11, .slice A40 m.length p40), (28, .slice A2 more.length c2), (29, .int .i64 more.length), (30, .int .i64 k), (65, .int .i64 m.length), (66, .int .i64 q.1)]) (fun q => m.length - q.1) ((0, m, c40)) ?_ ?_ ?_
            · exact ⟨Nat.zero_le _, rfl, rfl, rfl, (w40.mono s_c43).mono s61⟩
            · exact ⟨rfl, rfl, rfl, rfl, rfl, rfl, rfl, rfl, rfl, rfl, trivial⟩
            · intro q σ1 H_1 L_1 ds_1 s_1 hI_1
              obtain ⟨hq, rfl, rfl, hql, ho⟩ := hI_1
              refine T.seq ?_
              refine T.region ?_
              refine R.lss rfl rfl rfl ?_
              refine TL.nil (Post.thnN ?_)
              refine T.seq ?_
              refine T.condD rfl (fun c67 => ?_) (fun c67 => ?_)
              · have hlt : q.1 < q.2.1.length := by omega
                obtain ⟨y1, hy1⟩ := getk hlt
                obtain ⟨bo, co, cso, lo, hce, hve, hix, hR, hcs⟩ := ho.elem hy1
                obtain rfl : lo = [.int .u64 y1] := hR
                rw [hce] at ho ⊢
                refine T.skip (Post.thnN ?_)
                refine T.seq ?_
                refine T.block ?_
                refine T.seq ?_
                refine T.region ?_
                refine R.mvE rfl (by conv => lhs; whnf) ?_
                refine R.asE rfl (by conv => lhs; whnf) ?_
                refine TL.nil (Post.thnN ?_)
                refine T.region ?_
                refine R.mvE rfl (by conv => lhs; whnf) ?_
                refine R.mvE rfl (by conv => lhs; whnf) ?_
                refine R.ixp Try.underlying22 Try.sizeOf28 rfl rfl rfl (by omega) hix ?_
                refine R.ld Try.isAgg28 rfl rfl .hd (hcs 0 _ rfl) ?_
                refine R.add rfl rfl rfl ?_
                refine R.ixp Try.underlying22 Try.sizeOf28 rfl rfl rfl (by omega) hix ?_
                refine R.stE Try.sizeOf28 rfl rfl ho .hd hix rfl rfl rfl ?_
                intro c75 w75
                refine TL.nil (Post.blkN ?_)
                refine id (Post.thnN ?_)
                refine T.region ?_
                refine R.addI rfl rfl rfl (by omega) ?_
                refine R.mvE rfl (by conv => lhs; whnf) ?_
                refine TL.nil (Post.thnN ?_)
                -- round's end, way yny
                exact ⟨(q.1 + 1, q.2.1.set q.1 _, c75), s_1, ⟨by show q.1 + 1 ≤ m.length; omega, rfl, rfl, by simpa using hql, w75⟩, by show m.length - (q.1 + 1) < m.length - q.1; omega, ⟨rfl, rfl, rfl, rfl, rfl, rfl, rfl, rfl, rfl, rfl, trivial⟩⟩
              · refine T.exit (Post.thnE (Post.thnE (Post.blkX ?_)))
                refine id (Post.thnN ?_)
                refine T.seq ?_
                refine T.del .hd ?_
                refine T.region ?_
                refine R.mvE rfl (by conv => lhs; whnf) ?_
                refine R.mvE rfl (by conv => lhs; whnf) ?_
                refine TL.call [] rfl rfl rfl (few_c _ _ _ (hr.mono (((s25.trans sF25).trans s_0).trans ((s40.trans s_c43).trans (s61.trans s_1))))) ?_
                intro v78 H78 L78 s78 q78
                obtain ⟨c78, rfl, w78⟩ := q78
                refine TL.shut .hd ?_
                intro HF78 sF78 qF78
                rw [← hfx] at w78
                have f78 := w78.read sF78 qF78
                obtain ⟨AF78, pF78, rfl, mF78, nF78, f78⟩ := f78.shape
                refine R.callv rfl rfl rfl (equalU22_c _ _ _ _ _ (f25.mono (s_0.trans (((s40.trans s_c43).trans (s61.trans s_1)).trans (s78.trans sF78)))) f78) ?_
                refine R.not rfl rfl ?_
                refine TL.nil (Post.thnN ?_)
                refine T.set 80 (.bool false) (congrArg Value.bool (by simp [hfx])) ?_
                refine T.condN rfl ?_
                refine T.skip (Post.blkN ?_)
                refine id (Post.thnN ?_)
                refine T.region ?_
                refine R.addI rfl rfl rfl (by omega) ?_
                refine R.mvE rfl (by conv => lhs; whnf) ?_
                refine TL.nil (Post.thnN ?_)
                -- round's end, way ynn
                exact ⟨k + 1, s_0.trans (((s40.trans s_c43).trans (s61.trans s_1)).trans (s78.trans sF78)), ⟨by omega, rfl, rfl⟩, by omega, ⟨rfl, rfl, rfl, rfl, rfl, rfl, rfl, trivial⟩⟩
      · refine T.exit (Post.thnE (Post.thnE (Post.blkX ?_)))
        refine id (Post.thnN ?_)
        -- cut b0, way n
        exact ⟨(), s_0, ⟨rfl, rfl⟩, rfl, rfl, rfl, rfl, trivial⟩
  · intro _ σ_b0 H_b0 L_b0 ds_b0 s_b0 hI_b0
    obtain ⟨rfl, rfl⟩ := hI_b0
    refine T.seq ?_
    refine T.seq ?_
    refine T.region ?_
    refine R.mvE rfl (by conv => lhs; whnf) ?_
    refine R.len Try.underlying22 rfl rfl ?_
    refine R.mvE rfl (by conv => lhs; whnf) ?_
    refine TL.nil (Post.thnN ?_)
    refine T.block ?_
    refine T.loop (ι := Nat) (fun k H' L' ds' => k ≤ less.length ∧ L' = [] ∧ ds' = []) (fun k => [(0, .slice A xs.length c), (7, .slice AF25 fx.length pF25), (8, .bool (typeB fx)), (82, .slice A3 less.length c3), (83, .int .i64 less.length), (84, .int .i64 k)]) (fun k => less.length - k) (0) ?_ ?_ ?_
    · exact ⟨Nat.zero_le _, rfl, rfl⟩
    · exact ⟨rfl, rfl, rfl, rfl, rfl, rfl, trivial⟩
    · intro k σ2 H_2 L_2 ds_2 s_2 hI_2
      obtain ⟨hk, rfl, rfl⟩ := hI_2
      refine T.seq ?_
      refine T.region ?_
      refine R.lss rfl rfl rfl ?_
      refine TL.nil (Post.thnN ?_)
      refine T.seq ?_
      refine T.condD rfl (fun c85 => ?_) (fun c85 => ?_)
      · have hlt : k < less.length := by omega
        obtain ⟨y, hy⟩ := getk hlt
        refine T.skip (Post.thnN ?_)
        refine T.seq ?_
        refine T.block ?_
        refine T.seq ?_
        refine T.region ?_
        refine R.mvE rfl (by conv => lhs; whnf) ?_
        obtain ⟨b87, o87, i87, e87⟩ := (hr3.mono ((s25.trans sF25).trans (s_b0.trans s_2))).elem (hy)
        refine R.ixp Try.underlying22 Try.sizeOf28 rfl rfl rfl (by omega) i87 ?_
        refine R.ldC Try.isAgg28 rfl rfl (e87).int ?_
        refine R.asE rfl (by conv => lhs; whnf) ?_
        refine R.asE rfl (by conv => lhs; whnf) ?_
        refine TL.nil (Post.thnN ?_)
        refine T.seq ?_
        refine T.seq ?_
        refine T.region ?_
        refine R.mvE rfl (by conv => lhs; whnf) ?_
        refine R.eql rfl rfl rfl ?_
        refine TL.nil (Post.thnN ?_)
        refine T.condD rfl (fun c90 => ?_) (fun c90 => ?_)
        · refine T.exit (Post.thnE (Post.blkE rfl (Post.thnE (Post.thnE (Post.blkX ?_)))))
          refine id (Post.thnN ?_)
          refine T.seq ?_
          refine T.region ?_
          refine R.asE rfl (by conv => lhs; whnf) ?_
          refine TL.nil (Post.thnN ?_)
          refine T.ret ?_
          -- way yy
          exact fin1 rfl rfl ⟨rfl, rfl⟩
        · refine T.skip (Post.thnN ?_)
          refine T.seq ?_
          refine T.region ?_
          refine R.mvE rfl (by conv => lhs; whnf) ?_
          refine R.mvE rfl (by conv => lhs; whnf) ?_
          refine TL.call [] rfl rfl rfl (Without_c _ _ _ y (f25.mono (s_b0.trans s_2)) hfU hfl) ?_
          intro v94 H94 L94 s94 q94
          obtain ⟨r94, c94, hv94, rfl, w94⟩ := q94
          obtain ⟨m, hm⟩ : ∃ m, m = (withoutR fx y).1 := ⟨_, rfl⟩
          obtain ⟨e, he⟩ : ∃ e, e = (withoutR fx y).2 := ⟨_, rfl⟩
          rw [← hm] at w94
          rw [← he] at hv94
          subst hv94
          refine TL.shut .hd ?_
          intro HW94 sW94 qW94
          have g94 := w94.read sW94 qW94
          obtain ⟨AW94, pW94, rfl, mW94, nW94, g94⟩ := g94.shape
          refine R.mvE rfl (by conv => lhs; whnf) ?_
          refine R.ext rfl rfl rfl ?_
          refine R.ext rfl rfl rfl ?_
          refine R.asE rfl (by conv => lhs; whnf) ?_
          refine R.asE rfl (by conv => lhs; whnf) ?_
          refine TL.nil (Post.thnN ?_)
          refine T.seq ?_
          refine T.region ?_
          refine R.asE rfl (by conv => lhs; whnf) ?_
          refine R.asE rfl (by conv => lhs; whnf) ?_
          refine TL.nil (Post.thnN ?_)
          refine T.cut (ι := Value) (fun w H' L' ds' => L' = [] ∧ ds' = [] ∧ RdS (intE .u64) H' w m) (fun w => [(0, .slice A xs.length c), (7, .slice AF25 fx.length pF25), (8, .bool (typeB fx)), (18, .slice AW94 m.length pW94), (19, .int .i64 e), (20, w), (21, .int .i64 e), (82, .slice A3 less.length c3), (83, .int .i64 less.length), (84, .int .i64 k)]) ?_ ?_
          · refine T.seq ?_
            refine T.region ?_
            refine R.mvE rfl (by conv => lhs; whnf) ?_
            refine TL.nil (Post.thnN ?_)
            refine T.cond rfl (fun c97 => ?_) (fun c97 => ?_)
            · refine T.seq ?_
              have ht := c97
              refine T.region ?_
              refine R.asE rfl (by conv => lhs; whnf) ?_
              refine TL.nil (Post.thnN ?_)
              refine T.seq ?_
              refine T.region ?_
              refine R.mvE rfl (by conv => lhs; whnf) ?_
              refine R.mvE rfl (by conv => lhs; whnf) ?_
              refine R.callv rfl rfl rfl (rhas_c _ _ _ y (f25.mono ((s_b0.trans s_2).trans (s94.trans sW94)))) ?_
              refine TL.nil (Post.thnN ?_)
              refine T.cond rfl (fun c100 => ?_) (fun c100 => ?_)
              · refine T.region ?_
                refine R.mvE rfl (by conv => lhs; whnf) ?_
                refine R.mvE rfl (by conv => lhs; whnf) ?_
                refine R.callp rfl rfl rfl (rwithout_c _ _ _ y (f25.mono ((s_b0.trans s_2).trans (s94.trans sW94))) hfl) ?_
                intro v103 H103 s103 q103
                obtain ⟨A103, p103, rfl, m103, n103, q103⟩ := q103.shape
                refine R.asE rfl (by conv => lhs; whnf) ?_
                refine R.asE rfl (by conv => lhs; whnf) ?_
                refine TL.nil (Post.thnN ?_)
                -- cut c97, way yy
                have hq := withoutR_in ht (any_mem c100)
                exact ⟨_, s103, ⟨rfl, rfl, by rw [hm, hq]; exact (by rw [del_eq (typeB_iff.1 ht).2.2 (any_mem c100)]; exact q103)⟩, rfl, rfl, rfl, rfl, rfl, rfl, congrArg (Value.int .i64) (by rw [he, hq]), rfl, rfl, rfl, trivial⟩
              · refine T.skip (Post.thnN ?_)
                -- cut c97, way yn
                have hq := withoutR_b (x := y) ht (any_not c100)
                exact ⟨.slice none 0 0, HLe.refl _, ⟨rfl, rfl, by rw [hm, hq]; exact RdS.nil⟩, rfl, rfl, rfl, rfl, rfl, rfl, congrArg (Value.int .i64) (by rw [he, hq]), rfl, rfl, rfl, trivial⟩
            · refine T.skip (Post.thnN ?_)
              -- cut c97, way n
              have hq := withoutR_a (x := y) c97
              exact ⟨.slice none 0 0, HLe.refl _, ⟨rfl, rfl, by rw [hm, hq]; exact RdS.nil⟩, rfl, rfl, rfl, rfl, rfl, rfl, congrArg (Value.int .i64) (by rw [he, hq]), rfl, rfl, rfl, trivial⟩
          · intro w σ_c97 H_c97 L_c97 ds_c97 s_c97 hI_c97
            obtain ⟨rfl, rfl, hw⟩ := hI_c97
            refine T.seq ?_
            refine T.region ?_
            refine R.mvE rfl (by conv => lhs; whnf) ?_
            refine R.mvE rfl (by conv => lhs; whnf) ?_
            refine R.neq rfl rfl rfl ?_
            refine R.mvE rfl (by conv => lhs; whnf) ?_
            refine TL.set 107 (.bool false) (congrArg Value.bool (by simp)) ?_
            refine R.mvE rfl (by conv => lhs; whnf) ?_
            refine R.mvE rfl (by conv => lhs; whnf) ?_
            refine R.callv rfl rfl rfl (equalU22_c _ _ _ _ _ (g94.mono s_c97) hw) ?_
            refine R.not rfl rfl ?_
            refine R.pkFE rfl rfl (by conv => lhs; whnf) ?_
            refine R.mvE rfl (by conv => lhs; whnf) ?_
            refine TL.set 113 (.bool false) (congrArg Value.bool (by simp)) ?_
            refine R.mvE rfl (by conv => lhs; whnf) ?_
            refine R.mvE rfl (by conv => lhs; whnf) ?_
            refine TL.call [] rfl rfl rfl (few_c _ _ _ (hr.mono ((s25.trans sF25).trans ((s_b0.trans s_2).trans ((s94.trans sW94).trans s_c97))))) ?_
            intro v116 H116 L116 s116 q116
            obtain ⟨c116, rfl, w116⟩ := q116
            refine TL.shut .hd ?_
            intro HF116 sF116 qF116
            rw [← hfx] at w116
            have f116 := w116.read sF116 qF116
            obtain ⟨AF116, pF116, rfl, mF116, nF116, f116⟩ := f116.shape
            refine R.callv rfl rfl rfl (equalU22_c _ _ _ _ _ (f25.mono ((s_b0.trans s_2).trans (((s94.trans sW94).trans s_c97).trans (s116.trans sF116)))) f116) ?_
            refine R.not rfl rfl ?_
            refine R.pkFE rfl rfl (by conv => lhs; whnf) ?_
            refine TL.nil (Post.thnN ?_)
            refine T.set 119 (.bool false) (congrArg Value.bool (by simp [hfx])) ?_
            refine T.condN rfl ?_
            refine T.skip (Post.blkN ?_)
            refine id (Post.thnN ?_)
            refine T.region ?_
            refine R.addI rfl rfl rfl (by omega) ?_
            refine R.mvE rfl (by conv => lhs; whnf) ?_
            refine TL.nil (Post.thnN ?_)
            -- round's end, way yn
            exact ⟨k + 1, s_2.trans (((s94.trans sW94).trans s_c97).trans (s116.trans sF116)), ⟨by omega, rfl, rfl⟩, by omega, ⟨rfl, rfl, rfl, rfl, rfl, rfl, trivial⟩⟩
      · refine T.exit (Post.thnE (Post.thnE (Post.blkX ?_)))
        refine id (Post.thnN ?_)
        refine T.seq ?_
        refine T.region ?_
        refine R.asE rfl (by conv => lhs; whnf) ?_
        refine TL.nil (Post.thnN ?_)
        refine T.ret ?_
        -- way n
        exact fin1 rfl rfl ⟨rfl, rfl⟩

end Go.SX
