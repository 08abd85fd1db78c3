/- Waves, of the reference. -/
import Derived.Test.YtkhjpgimjkofcaaCh3
import Derived.Test.YtkhjpgimjkofcaaWe
set_option linter.unusedVariables false
set_option linter.unusedSimpArgs false
namespace Go.SX
open Go Go.Proofs

set_option maxHeartbeats 1600000 in
theorem waves_c (H : Heap) (v : Value) (xs : List Lk) (a : Int) (b : Bool) (hr : RdS pairE H v xs) (hl : xs.length ≤ 1000) : Fp Try.prog (fnv 58) [v, .int .i64 a, .bool b] H (fun v' H' => RdS (slE (intE .i64)) H' v' (wavesL b xs a)) := by
  refine Fc.of_body (N := 64) Try.func58 rfl (by kernel_rfl) rfl rfl ?_
  intro w0
  obtain ⟨A, c, rfl, hc1, hc2, hr⟩ := hr.shape
  refine T.seq ?_
  refine T.region ?_
  refine R.asE rfl (by conv => lhs; whnf) ?_
  refine TL.nil (Post.thnN ?_)
  refine T.seq ?_
  refine T.region ?_
  refine R.mvE rfl (by conv => lhs; whnf) ?_
  refine R.bs rfl (run_buildSlice1 Try.underlying23 Try.sizeOf3 Try.zeroValue3 rfl rfl) ?_
  intro b16
  refine R.bs rfl (run_buildSlice1 Try.underlying52 Try.sizeOf23 Try.zeroValue23 rfl rfl) ?_
  intro b17
  refine R.asE rfl (by conv => lhs; whnf) ?_
  refine TL.nil (Post.thnN ?_)
  refine T.seq ?_
  refine T.shut (.tl .hd) ?_
  intro H16 s16 q16
  have f16 : RdS (intE .i64) H16 (.slice (some ⟨b16, 0, none⟩) 1 1) [a] := RdS.lit1 q16
  have ho0 := OwnS.one (E := (slE (intE .i64))) (e := 23) (H := H16) (b := b17) (x := [a]) rfl (slE_one f16)
  have hm0 : ∀ b19, OwnS (intE .i64) 3 H16 (.slice (some ⟨b19, 0, none⟩) 1 1) [a] [(b19, .cells #[.int .i64 a] 3)] := fun b19 => OwnS.one (E := (intE .i64)) (e := 3) (H := H16) (b := b19) (x := a) rfl rfl
  refine T.region ?_
  refine R.mvE rfl (by conv => lhs; whnf) ?_
  refine R.bs rfl (run_buildSlice1 Try.underlying23 Try.sizeOf3 Try.zeroValue3 rfl rfl) ?_
  intro b19
  refine R.asE rfl (by conv => lhs; whnf) ?_
  refine TL.nil (Post.thnN ?_)
  refine T.block ?_
  refine T.loop (ι := Nat × List (List Int) × List Int × List Int × Value × Value × Chunk × Chunk) (fun ⟨n, outs, met, last, vo, vm, co, cm⟩ H' L' ds' => L' = [cm, co] ∧ ds' = [] ∧ WInv b xs a n outs met last ∧ OwnS (slE (intE .i64)) 23 H' vo outs co ∧ OwnS (intE .i64) 3 H' vm met cm) (fun ⟨n, outs, met, last, vo, vm, co, cm⟩ => [(0, .slice A xs.length c), (1, .int .i64 a), (2, .bool b), (7, vo), (8, vm)]) (fun ⟨n, outs, met, last, vo, vm, co, cm⟩ => n) ((xs.length + 1, [[a]], [a], [a], .slice (some ⟨b17, 0, none⟩) 1 1, .slice (some ⟨b19, 0, none⟩) 1 1, [(b17, .cells #[.slice (some ⟨b16, 0, none⟩) 1 1] 23)], [(b19, .cells #[.int .i64 a] 3)])) ?_ ?_ ?_
  · exact ⟨rfl, rfl, WInv.start b xs a, ho0, hm0 _⟩
  · exact ⟨rfl, rfl, rfl, rfl, rfl, trivial⟩
  · intro ⟨n, outs, met, last, vo, vm, co, cm⟩ σ0 H_0 L_0 ds_0 s_0 hI_0
    obtain ⟨rfl, rfl, hW, ho, hm⟩ := hI_0
    have hbd := hW.bnd hl
    have hon : 0 < outs.length := List.length_pos_iff.2 hW.2.2.2.2.2
    have hgl : outs[((outs.length : Int) - 1).toNat]? = some last := by
      have := hW.2.2.1
      rwa [show ((outs.length : Int) - 1).toNat = outs.length - 1 by omega]
    obtain ⟨bo, ko, cso, lo, hce, hve, hix, hR, hcs⟩ := ho.elem hgl
    subst hce
    subst hve
    obtain ⟨vl, rfl, hl0⟩ := hR
    obtain ⟨Al, pl, rfl, hl1, hl2, hl0⟩ := hl0.shape
    refine T.block ?_
    refine T.seq ?_
    refine T.region ?_
    refine R.asE rfl (by conv => lhs; whnf) ?_
    refine TL.nil (Post.thnN ?_)
    refine T.seq ?_
    refine T.seq ?_
    refine T.region ?_
    refine R.mvE rfl (by conv => lhs; whnf) ?_
    refine R.mvE rfl (by conv => lhs; whnf) ?_
    refine R.len Try.underlying52 rfl rfl ?_
    refine R.subI rfl rfl rfl (by omega) ?_
    refine R.ixp Try.underlying52 Try.sizeOf23 rfl rfl rfl (by omega) hix ?_
    refine R.ld Try.isAgg23 rfl rfl (.tl .hd) (hcs 0 _ rfl) ?_
    refine R.len Try.underlying23 rfl rfl ?_
    refine R.mvE rfl (by conv => lhs; whnf) ?_
    refine TL.nil (Post.thnN ?_)
    refine T.block ?_
    refine T.loop (ι := Nat × Value) (fun ⟨j, vn⟩ H' L' ds' => j ≤ last.length ∧ L' = [cm, [(bo, .cells cso 23)]] ∧ ds' = [] ∧ RdS (intE .i64) H' vn (outW (tbL b xs) met (last.take j)) ∧ Gd (endsL b xs) (outW (tbL b xs) met (last.take j))) (fun ⟨j, vn⟩ => [(0, .slice A xs.length c), (1, .int .i64 a), (2, .bool b), (7, .slice (some ⟨bo, 0, none⟩) outs.length ko), (8, vm), (9, vn), (25, .slice Al last.length pl), (26, .int .i64 last.length), (27, .int .i64 j)]) (fun ⟨j, vn⟩ => last.length - j) ((0, .slice none 0 0)) ?_ ?_ ?_
    · exact ⟨Nat.zero_le _, rfl, rfl, RdS.nil, Gd.nil⟩
    · exact ⟨rfl, rfl, rfl, rfl, rfl, rfl, rfl, rfl, rfl, trivial⟩
    · intro ⟨j, vn⟩ σ1 H_1 L_1 ds_1 s_1 hI_1
      obtain ⟨hj, rfl, rfl, hn, hg⟩ := hI_1
      refine T.seq ?_
      refine T.region ?_
      refine R.lss rfl rfl rfl ?_
      refine TL.nil (Post.thnN ?_)
      refine T.seq ?_
      refine T.condD rfl (fun c28 => ?_) (fun c28 => ?_)
      · have hlt : j < last.length := by omega
        obtain ⟨y, hy⟩ := getk hlt
        refine T.skip (Post.thnN ?_)
        refine T.seq ?_
        refine T.block ?_
        refine T.seq ?_
        refine T.region ?_
        obtain ⟨b29, o29, i29, e29⟩ := (hl0.mono s_1).elem (hy)
        refine R.ixp Try.underlying23 Try.sizeOf3 rfl rfl rfl (by omega) i29 ?_
        refine R.ldC Try.isAgg3 rfl rfl (e29).int ?_
        refine R.asE rfl (by conv => lhs; whnf) ?_
        refine TL.nil (Post.thnN ?_)
        refine T.seq ?_
        refine T.region ?_
        refine R.mvE rfl (by conv => lhs; whnf) ?_
        refine R.mvE rfl (by conv => lhs; whnf) ?_
        refine R.callp rfl rfl rfl (to16_c _ _ xs y (hr.mono (s16.trans (s_0.trans s_1))) (by omega)) ?_
        intro v33 H33 s33 q33
        refine R.asE rfl (by conv => lhs; whnf) ?_
        refine TL.nil (Post.thnN ?_)
        refine T.cut (ι := Value) (fun w H' L' ds' => L' = [cm, [(bo, .cells cso 23)]] ∧ ds' = [] ∧ RdS (intE .i64) H' w (tbL b xs y)) (fun w => [(0, .slice A xs.length c), (1, .int .i64 a), (2, .bool b), (7, .slice (some ⟨bo, 0, none⟩) outs.length ko), (8, vm), (9, vn), (12, w), (25, .slice Al last.length pl), (26, .int .i64 last.length), (27, .int .i64 j)]) ?_ ?_
        · refine T.seq ?_
          refine T.region ?_
          refine R.mvE rfl (by conv => lhs; whnf) ?_
          refine TL.nil (Post.thnN ?_)
          refine T.cond rfl (fun c34 => ?_) (fun c34 => ?_)
          · refine T.region ?_
            refine R.mvE rfl (by conv => lhs; whnf) ?_
            refine R.mvE rfl (by conv => lhs; whnf) ?_
            refine R.callp rfl rfl rfl (from16_c _ _ xs y (hr.mono (s16.trans (s_0.trans (s_1.trans s33)))) (by omega)) ?_
            intro v37 H37 s37 q37
            refine R.asE rfl (by conv => lhs; whnf) ?_
            refine TL.nil (Post.thnN ?_)
            -- cut c34, way y
            exact ⟨v37, s37, ⟨rfl, rfl, by unfold tbL; rw [if_pos c34]; exact q37⟩, rfl, rfl, rfl, rfl, rfl, rfl, rfl, rfl, rfl, rfl, trivial⟩
          · refine T.skip (Post.thnN ?_)
            -- cut c34, way n
            exact ⟨v33, HLe.refl _, ⟨rfl, rfl, by unfold tbL; rw [if_neg (by rw [c34]; simp)]; exact q33⟩, rfl, rfl, rfl, rfl, rfl, rfl, rfl, rfl, rfl, rfl, trivial⟩
        · intro w σ_c34 H_c34 L_c34 ds_c34 s_c34 hI_c34
          obtain ⟨rfl, rfl, hmore⟩ := hI_c34
          obtain ⟨Aw, pw, rfl, hw1, hw2, hmore⟩ := hmore.shape
          refine T.seq ?_
          refine T.region ?_
          refine R.mvE rfl (by conv => lhs; whnf) ?_
          refine R.len Try.underlying23 rfl rfl ?_
          refine R.mvE rfl (by conv => lhs; whnf) ?_
          refine TL.nil (Post.thnN ?_)
          refine T.block ?_
          refine T.loop (ι := Nat × Value) (fun ⟨i, vx⟩ H' L' ds' => i ≤ (tbL b xs y).length ∧ L' = [cm, [(bo, .cells cso 23)]] ∧ ds' = [] ∧ RdS (intE .i64) H' vx (inW met ((tbL b xs y).take i) (outW (tbL b xs) met (last.take j))) ∧ Gd (endsL b xs) (inW met ((tbL b xs y).take i) (outW (tbL b xs) met (last.take j)))) (fun ⟨i, vx⟩ => [(0, .slice A xs.length c), (1, .int .i64 a), (2, .bool b), (7, .slice (some ⟨bo, 0, none⟩) outs.length ko), (8, vm), (9, vx), (25, .slice Al last.length pl), (26, .int .i64 last.length), (27, .int .i64 j), (38, .slice Aw (tbL b xs y).length pw), (39, .int .i64 (tbL b xs y).length), (40, .int .i64 i)]) (fun ⟨i, vx⟩ => (tbL b xs y).length - i) ((0, vn)) ?_ ?_ ?_
          · exact ⟨Nat.zero_le _, rfl, rfl, hn.mono (s33.trans s_c34), hg⟩
          · exact ⟨rfl, rfl, rfl, rfl, rfl, rfl, rfl, rfl, rfl, rfl, rfl, rfl, trivial⟩
          · intro ⟨i, vx⟩ σ2 H_2 L_2 ds_2 s_2 hI_2
            obtain ⟨hi, rfl, rfl, hn2, hg2⟩ := hI_2
            refine T.seq ?_
            refine T.region ?_
            refine R.lss rfl rfl rfl ?_
            refine TL.nil (Post.thnN ?_)
            refine T.seq ?_
            refine T.condD rfl (fun c41 => ?_) (fun c41 => ?_)
            · have hlt2 : i < (tbL b xs y).length := by omega
              obtain ⟨z, hz⟩ := getk hlt2
              refine T.skip (Post.thnN ?_)
              refine T.seq ?_
              refine T.block ?_
              refine T.seq ?_
              refine T.region ?_
              obtain ⟨b42, o42, i42, e42⟩ := (hmore.mono s_2).elem (hz)
              refine R.ixp Try.underlying23 Try.sizeOf3 rfl rfl rfl (by omega) i42 ?_
              refine R.ldC Try.isAgg3 rfl rfl (e42).int ?_
              refine R.asE rfl (by conv => lhs; whnf) ?_
              refine TL.nil (Post.thnN ?_)
              refine T.seq ?_
              refine T.region ?_
              refine R.mvE rfl (by conv => lhs; whnf) ?_
              refine R.mvE rfl (by conv => lhs; whnf) ?_
              refine TL.call [true] rfl rfl rfl (Fv.borrow (fun H2 hl hc => has16_c _ _ _ _ ((hm.mono (s_1.trans (s33.trans (s_c34.trans s_2)))).read hl hc))) ?_
              intro v46 H46 L46 s46 q46
              obtain ⟨rfl, rfl⟩ := q46
              refine R.not rfl rfl ?_
              refine TL.nil (Post.thnN ?_)
              refine T.cond rfl (fun c47 => ?_) (fun c47 => ?_)
              · refine T.region ?_
                refine R.mvE rfl (by conv => lhs; whnf) ?_
                refine R.mvE rfl (by conv => lhs; whnf) ?_
                refine R.callp rfl rfl rfl (put16_c _ _ _ z (hn2.mono s46) (by have := hg2.len; rw [ends_len] at this; omega)) ?_
                intro v50 H50 s50 q50
                refine R.asE rfl (by conv => lhs; whnf) ?_
                refine TL.nil (Post.blkN ?_)
                refine id (Post.thnN ?_)
                refine T.region ?_
                refine R.addI rfl rfl rfl (by omega) ?_
                refine R.mvE rfl (by conv => lhs; whnf) ?_
                refine TL.nil (Post.thnN ?_)
                -- round's end, way yyy
                exact ⟨(i + 1, v50), s_2.trans (s46.trans s50), ⟨by show i + 1 ≤ _; omega, rfl, rfl, by rw [inW_snoc hz, stepW_put c47]; exact q50, by rw [inW_snoc hz, stepW_put c47]; exact hg2.put (tb_mem (List.mem_of_getElem? hz))⟩, by show (tbL b xs y).length - (i + 1) < (tbL b xs y).length - i; omega, ⟨rfl, rfl, rfl, rfl, rfl, rfl, rfl, rfl, rfl, rfl, rfl, rfl, trivial⟩⟩
              · refine T.skip (Post.blkN ?_)
                refine id (Post.thnN ?_)
                refine T.region ?_
                refine R.addI rfl rfl rfl (by omega) ?_
                refine R.mvE rfl (by conv => lhs; whnf) ?_
                refine TL.nil (Post.thnN ?_)
                -- round's end, way yyn
                exact ⟨(i + 1, vx), s_2.trans s46, ⟨by show i + 1 ≤ _; omega, rfl, rfl, by rw [inW_snoc hz, stepW_skip c47]; exact hn2.mono s46, by rw [inW_snoc hz, stepW_skip c47]; exact hg2⟩, by show (tbL b xs y).length - (i + 1) < (tbL b xs y).length - i; omega, ⟨rfl, rfl, rfl, rfl, rfl, rfl, rfl, rfl, rfl, rfl, rfl, rfl, trivial⟩⟩
            · refine T.exit (Post.thnE (Post.thnE (Post.blkX ?_)))
              refine id (Post.blkN ?_)
              refine id (Post.thnN ?_)
              refine T.region ?_
              refine R.addI rfl rfl rfl (by omega) ?_
              refine R.mvE rfl (by conv => lhs; whnf) ?_
              refine TL.nil (Post.thnN ?_)
              -- round's end, way yn
              have hfull : i = (tbL b xs y).length := by omega
              rw [hfull, List.take_length] at hn2 hg2
              exact ⟨(j + 1, vx), s_1.trans (s33.trans (s_c34.trans s_2)), ⟨by show j + 1 ≤ _; omega, rfl, rfl, by rw [outW_snoc hy]; exact hn2, by rw [outW_snoc hy]; exact hg2⟩, by show last.length - (j + 1) < last.length - j; omega, ⟨rfl, rfl, rfl, rfl, rfl, rfl, rfl, rfl, rfl, trivial⟩⟩
      · have hfull : j = last.length := by omega
        rw [hfull, List.take_length] at hn hg
        obtain ⟨An, pn, hvn, hn1, hn3, hn⟩ := hn.shape
        subst hvn
        refine T.exit (Post.thnE (Post.thnE (Post.blkX ?_)))
        refine id (Post.thnN ?_)
        refine T.seq ?_
        refine T.seq ?_
        refine T.region ?_
        refine R.mvE rfl (by conv => lhs; whnf) ?_
        refine R.len Try.underlying23 rfl rfl ?_
        refine R.eql rfl rfl rfl ?_
        refine TL.nil (Post.thnN ?_)
        refine T.condD rfl (fun c55 => ?_) (fun c55 => ?_)
        · have h0 : outW (tbL b xs) met last = [] := List.length_eq_zero_iff.1 (by omega)
          have hst := hW.stop h0
          refine T.seq ?_
          refine T.shut (.tl .hd) ?_
          intro HX sX qX
          have hx := (ho.mono s_1).read sX qX
          refine T.region ?_
          refine R.mvE rfl (by conv => lhs; whnf) ?_
          refine R.asE rfl (by conv => lhs; whnf) ?_
          refine TL.nil (Post.thnN ?_)
          refine T.ret (Post.thnR (Post.blkR (Post.thnR (Post.blkR ?_))))
          -- way ny
          exact fin1 rfl rfl ⟨rfl, by rw [hst]; exact hx⟩
        · have h0 : outW (tbL b xs) met last ≠ [] := fun e => by rw [e] at c55; exact c55 rfl
          have hgo := hW.go rfl hg h0
          have hgl2 := hg.len
          rw [ends_len] at hgl2
          refine T.skip (Post.thnN ?_)
          refine T.seq ?_
          refine T.region ?_
          refine R.mvE rfl (by conv => lhs; whnf) ?_
          refine R.mvE rfl (by conv => lhs; whnf) ?_
          obtain ⟨cs59, y59, r59⟩ := Src.rdA hn
          refine R.app Try_ty23 rfl rfl rfl (hm.mono s_1) .hd (r59 _) y59 (by first | omega | (simp; omega)) (by first | omega | (simp; omega)) ?_
          intro v59 c59 w59
          refine R.asE rfl (by conv => lhs; whnf) ?_
          refine TL.nil (Post.thnN ?_)
          refine T.region ?_
          refine R.mvE rfl (by conv => lhs; whnf) ?_
          refine R.mvE rfl (by conv => lhs; whnf) ?_
          refine R.bs rfl (run_buildSlice1 Try.underlying52 Try.sizeOf23 Try.zeroValue23 rfl rfl) ?_
          intro b62
          refine R.app (ys := [outW (tbL b xs) met last]) Try_ty52 rfl rfl rfl (ho.mono s_1) (.tl (.tl .hd)) (Src.lit (vs := [.slice An (outW (tbL b xs) met last).length pn]) .hd) ⟨[_], [], rfl, ⟨_, rfl, hn⟩, rfl⟩ (by first | omega | (simp; omega)) (by first | omega | (simp; omega)) ?_
          intro v63 c63 w63
          refine TL.del (.tl .hd) ?_
          refine TL.permL (L' := [c59, c63]) (by simpa using List.perm_append_comm) ?_
          refine R.asE rfl (by conv => lhs; whnf) ?_
          refine TL.nil (Post.blkN ?_)
          refine id (Post.thnN ?_)
          -- round's end, way nn
          refine ⟨(n - 1, outs ++ [outW (tbL b xs) met last], met ++ outW (tbL b xs) met last, outW (tbL b xs) met last, v63, v59, c63, c59), s_0.trans s_1, ⟨rfl, rfl, hgo.1, w63, w59⟩, by show n - 1 < n; have := hgo.2; omega, ⟨rfl, rfl, rfl, rfl, rfl, trivial⟩⟩

end Go.SX
