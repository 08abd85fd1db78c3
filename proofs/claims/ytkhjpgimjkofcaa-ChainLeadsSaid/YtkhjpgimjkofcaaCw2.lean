/- chain: waves, one by one. -/
import Derived.Test.YtkhjpgimjkofcaaCw1
import Derived.Test.YtkhjpgimjkofcaaSx5
set_option linter.unusedVariables false
set_option linter.unusedSimpArgs false
namespace Go.SX
open Go Go.Proofs

set_option maxHeartbeats 1600000 in
theorem wavesIt_c (H : Heap) (bf bn : Nat) (u fv : Value) (first uni : List Int) (f : Int → List Int) (hbf : H bf = some (.cells #[u] 23)) (hbn : H bn = some (.cells #[fv] 79)) (hr : RdS (intE .i64) H u first) (hfv : StepF Try.prog fv f H) (huni : ∀ v, ∀ w ∈ f v, w ∈ uni) (hl : uni.length ≤ 2000) (hl2 : first.length ≤ 2000) : Iter Try.prog (.func (.func 88) #[] ([.pointer (some ⟨bf, 0, none⟩), .pointer (some ⟨bn, 0, none⟩)] : List Value).toArray) YV H (wavesW f uni.length first) := by
  obtain ⟨A, c, rfl, hc1, hc2, hr⟩ := hr.shape
  intro l J Jx H1 Lc hle hJ hJx hY h0
  refine Fc.of_body (N := 55) Try.func88 rfl (by kernel_rfl) rfl rfl ?_
  intro w0
  refine T.seq ?_
  refine T.region ?_
  refine R.mkm rfl ?_
  intro b14
  refine R.alloc Try.zeroValue51 rfl ?_
  intro b4
  refine R.st Try.sizeOf51 rfl rfl (by conv => lhs; whnf) rfl (by first | exact .hd | exact .tl .hd | exact .tl (.tl .hd) | exact .tl (.tl (.tl .hd)) | exact .tl (.tl (.tl (.tl .hd))) | exact .tl (.tl (.tl (.tl (.tl .hd)))) | exact .tl (.tl (.tl (.tl (.tl (.tl .hd))))) | exact .tl (.tl (.tl (.tl (.tl (.tl (.tl .hd)))))) | exact .tl (.tl (.tl (.tl (.tl (.tl (.tl (.tl .hd))))))) | exact .tl (.tl (.tl (.tl (.tl (.tl (.tl (.tl (.tl .hd))))))))) ?_
  refine TL.nil (Post.thnN ?_)
  refine T.seq ?_
  refine T.region ?_
  refine R.alloc Try.zeroValue23 rfl ?_
  intro b5
  refine TL.nil (Post.thnN ?_)
  refine T.seq ?_
  refine T.shut (.tl .hd) ?_
  intro H4 s4 q4
  have h4 : H4 b4 = some (.cells #[.map (some b14)] 51) := shut1 q4
  refine T.permL (L' := [(b5, .cells #[.slice none 0 0] 23)] :: [] :: [(b14, .map #[] 0)] :: Lc) (List.Perm.refl _) ?_
  refine T.region ?_
  refine R.mkf (cs := [_, _]) rfl rfl ?_
  refine R.asE rfl (by conv => lhs; whnf) ?_
  refine TL.nil (Post.thnN ?_)
  refine T.seq ?_
  refine T.seq ?_
  refine T.region ?_
  refine R.ldH Try.isAgg23 rfl rfl (s4 _ _ (hle _ _ hbf)) rfl ?_
  refine R.len Try.underlying23 rfl rfl ?_
  refine R.mvE rfl (by conv => lhs; whnf) ?_
  refine TL.nil (Post.thnN ?_)
  refine T.block ?_
  refine T.loop (ι := Nat × Value × Chunk × Array MapEntry × Nat × MapL) (fun ⟨k, vw, cw, es, ck, m⟩ H' L' ds' => k ≤ first.length ∧ ds' = [] ∧ L' = [(b5, .cells #[vw] 23)] :: cw :: [(b14, .map es ck)] :: Lc ∧ MapIs .i64 es m ∧ MetIs m (meetL (first.take k) ([], [])).1 ∧ OwnS (intE .i64) 3 H' vw (meetL (first.take k) ([], [])).2 cw ∧ J [] H' Lc) (fun ⟨k, vw, cw, es, ck, m⟩ => [(0, yieldv l), (2, .pointer (some ⟨bn, 0, none⟩)), (5, .pointer (some ⟨b5, 0, none⟩)), (6, (.func (.func 89) #[] ([.pointer (some ⟨b4, 0, none⟩), .pointer (some ⟨b5, 0, none⟩)] : List Value).toArray)), (16, .slice A first.length c), (17, .int .i64 first.length), (18, .int .i64 k)]) (fun ⟨k, vw, cw, es, ck, m⟩ => first.length - k) ((0, .slice none 0 0, [], #[], 0, [])) ?_ ?_ ?_
  · exact ⟨Nat.zero_le _, rfl, rfl, mapIs_nil _, MetIs.nil, OwnS.nil, hJ _ _ _ _ s4 h0⟩
  · exact ⟨rfl, rfl, rfl, rfl, rfl, rfl, rfl, trivial⟩
  · intro ⟨k, vw, cw, es, ck, m⟩ σ0 H_0 L_0 ds_0 s_0 hI_0
    obtain ⟨hk, rfl, rfl, hm, hM, ho, hJ1⟩ := hI_0
    refine T.seq ?_
    refine T.region ?_
    refine R.lss rfl rfl rfl ?_
    refine TL.nil (Post.thnN ?_)
    refine T.seq ?_
    refine T.condD rfl (fun c19 => ?_) (fun c19 => ?_)
    · have hlt : k < first.length := by omega
      obtain ⟨x, hx⟩ := getk hlt
      refine T.skip (Post.thnN ?_)
      refine T.seq ?_
      refine T.block ?_
      refine T.seq ?_
      refine T.region ?_
      obtain ⟨b20, o20, i20, e20⟩ := (((hr.mono hle).mono s4).mono s_0).elem (hx)
      refine R.ixp Try.underlying23 Try.sizeOf3 rfl rfl rfl (by omega) i20 ?_
      refine R.ldC Try.isAgg3 rfl rfl (e20).int ?_
      refine R.asE rfl (by conv => lhs; whnf) ?_
      refine TL.nil (Post.thnN ?_)
      refine T.region ?_
      refine R.mvE rfl (by conv => lhs; whnf) ?_
      refine R.mvE rfl (by conv => lhs; whnf) ?_
      refine TL.call [true, true, true] rfl rfl rfl (meet_c H_0 b4 b5 b14 es ck m (meetL (first.take k) ([], [])) vw cw x (s_0 _ _ h4) hm hM ho (by have := meetL_len (first.take k) ([], []); simp at this; omega)) ?_
      intro v24 H24 L24 s24 q24
      obtain ⟨vw1, cw1, es1, ck1, m1, rfl, hm1, hM1, ho1⟩ := q24
      refine TL.nil (Post.blkN ?_)
      refine id (Post.thnN ?_)
      refine T.region ?_
      refine R.addI rfl rfl rfl (by omega) ?_
      refine R.mvE rfl (by conv => lhs; whnf) ?_
      refine TL.nil (Post.thnN ?_)
      -- round's end, way y
      exact ⟨(k + 1, vw1, cw1, es1, ck1, m1), s_0.trans s24, ⟨by show k + 1 ≤ _; omega, rfl, rfl, hm1, by rw [meetL_snoc hx]; exact hM1, by rw [meetL_snoc hx]; exact ho1, hJ _ _ _ _ s24 hJ1⟩, by show first.length - (k + 1) < first.length - k; omega, ⟨rfl, rfl, rfl, rfl, rfl, rfl, rfl, trivial⟩⟩
    · refine T.exit (Post.thnE (Post.thnE (Post.blkX ?_)))
      refine id (Post.thnN ?_)
      refine T.block ?_
      refine T.loop (ι := Nat × List (List Int) × MS × Value × Chunk × Array MapEntry × Nat × MapL × Own) (fun ⟨n, pre, s, vw, cw, es, ck, m, Lj⟩ H' L' ds' => ds' = [] ∧ L' = [(b5, .cells #[vw] 23)] :: cw :: [(b14, .map es ck)] :: Lj ∧ VInv f uni first n pre s ∧ MapIs .i64 es m ∧ MetIs m s.1 ∧ OwnS (intE .i64) 3 H' vw s.2 cw ∧ J pre H' Lj) (fun ⟨n, pre, s, vw, cw, es, ck, m, Lj⟩ => [(0, yieldv l), (2, .pointer (some ⟨bn, 0, none⟩)), (5, .pointer (some ⟨b5, 0, none⟩)), (6, (.func (.func 89) #[] ([.pointer (some ⟨b4, 0, none⟩), .pointer (some ⟨b5, 0, none⟩)] : List Value).toArray))]) (fun ⟨n, pre, s, vw, cw, es, ck, m, Lj⟩ => n) ((uni.length + first.length + 1, [], meetL first ([], []), vw, cw, es, ck, m, Lc)) ?_ ?_ ?_
      · have hkx : k = first.length := by omega
        rw [hkx, List.take_length] at hM ho
        exact ⟨rfl, rfl, VInv.start f uni first, hm, hM, ho, hJ1⟩
      · exact ⟨rfl, rfl, rfl, rfl, trivial⟩
      · intro ⟨n, pre, s, vw, cw, es, ck, m, Lj⟩ σ1 H_1 L_1 ds_1 s_1 hI_1
        have hh0 : HLe H1 H_0 := s4.trans s_0
        obtain ⟨rfl, rfl, hV, hm, hM, ho, hJ1⟩ := hI_1
        obtain ⟨Aw, kw, hvw, hw1, hw2⟩ := ho.shape
        subst hvw
        refine T.seq ?_
        refine T.seq ?_
        refine T.region ?_
        refine R.ld Try.isAgg23 rfl rfl (by repeat (first | exact .hd | refine .tl ?_)) rfl ?_
        refine R.len Try.underlying23 rfl rfl ?_
        refine R.gtr rfl rfl rfl ?_
        refine TL.nil (Post.thnN ?_)
        refine T.condD rfl (fun c28 => ?_) (fun c28 => ?_)
        · have hne : s.2 ≠ [] := fun e => by rw [e] at c28; exact absurd c28 (by decide)
          refine T.skip (Post.thnN ?_)
          refine T.block ?_
          refine T.seq ?_
          refine T.region ?_
          refine R.ld Try.isAgg23 rfl rfl (by repeat (first | exact .hd | refine .tl ?_)) rfl ?_
          refine TL.call [false, true] rfl rfl rfl (sort_c _ _ s.2 cw ho hne (by have := hV.bnd; omega)) ?_
          intro v30 H30 L30 s30 q30
          obtain ⟨rfl, c30, rfl, w30⟩ := q30
          refine TL.shut .hd ?_
          intro HS sS qS
          have g30 := w30.read sS qS
          have hsl : (sortI s.2).length = s.2.length := (sortI_perm s.2).length_eq
          refine TL.nil (Post.thnN ?_)
          refine T.seq ?_
          refine T.region ?_
          refine R.ld Try.isAgg23 rfl rfl (by repeat (first | exact .hd | refine .tl ?_)) rfl ?_
          refine R.asE rfl (by conv => lhs; whnf) ?_
          refine TL.nil (Post.thnN ?_)
          refine T.seq ?_
          refine T.seq ?_
          refine T.region ?_
          refine R.mvE rfl (by conv => lhs; whnf) ?_
          refine R.mvE rfl (by conv => lhs; whnf) ?_
          refine TL.callT 2 rfl rfl rfl (hY pre (sortI s.2) _ HS Lj (hh0.trans (s_1.trans sS)) (hV.hand hne) (hJ _ _ _ _ sS hJ1) ⟨_, rfl, g30⟩) ?_
          intro v34 H34 L34 s34 q34
          rcases q34 with ⟨rfl, hJ2⟩ | ⟨rfl, hJ2⟩
          · refine R.not rfl rfl ?_
            refine TL.nil (Post.thnN ?_)
            refine T.condN rfl ?_
            refine T.skip (Post.thnN ?_)
            refine T.seq ?_
            refine T.region ?_
            refine R.st Try.sizeOf23 rfl rfl (by conv => lhs; whnf) rfl (by first | exact .hd | exact .tl .hd | exact .tl (.tl .hd) | exact .tl (.tl (.tl .hd)) | exact .tl (.tl (.tl (.tl .hd))) | exact .tl (.tl (.tl (.tl (.tl .hd)))) | exact .tl (.tl (.tl (.tl (.tl (.tl .hd))))) | exact .tl (.tl (.tl (.tl (.tl (.tl (.tl .hd)))))) | exact .tl (.tl (.tl (.tl (.tl (.tl (.tl (.tl .hd))))))) | exact .tl (.tl (.tl (.tl (.tl (.tl (.tl (.tl (.tl .hd))))))))) ?_
            refine TL.nil (Post.thnN ?_)
            refine T.seq ?_
            refine T.permL (L' := [(b5, .cells #[.slice none 0 0] 23)] :: [] :: [(b14, .map es ck)] :: L34) (List.Perm.refl _) ?_
            refine T.region ?_
            refine R.mvE rfl (by conv => lhs; whnf) ?_
            refine R.len Try.underlying23 rfl rfl ?_
            refine R.mvE rfl (by conv => lhs; whnf) ?_
            refine TL.nil (Post.thnN ?_)
            refine T.block ?_
            refine T.loop (ι := Nat × Value × Chunk × Array MapEntry × Nat × MapL) (fun ⟨j, vw, cw, es, ck, m⟩ H' L' ds' => j ≤ (sortI s.2).length ∧ ds' = [] ∧ L' = [(b5, .cells #[vw] 23)] :: cw :: [(b14, .map es ck)] :: L34 ∧ MapIs .i64 es m ∧ MetIs m (meetA f ((sortI s.2).take j) (s.1, [])).1 ∧ OwnS (intE .i64) 3 H' vw (meetA f ((sortI s.2).take j) (s.1, [])).2 cw ∧ J (pre ++ [(sortI s.2)]) H' L34) (fun ⟨j, vw, cw, es, ck, m⟩ => [(0, yieldv l), (2, .pointer (some ⟨bn, 0, none⟩)), (5, .pointer (some ⟨b5, 0, none⟩)), (6, (.func (.func 89) #[] ([.pointer (some ⟨b4, 0, none⟩), .pointer (some ⟨b5, 0, none⟩)] : List Value).toArray)), (36, .slice Aw s.2.length kw), (37, .int .i64 s.2.length), (38, .int .i64 j)]) (fun ⟨j, vw, cw, es, ck, m⟩ => (sortI s.2).length - j) ((0, .slice none 0 0, [], es, ck, m)) ?_ ?_ ?_
            · exact ⟨Nat.zero_le _, rfl, rfl, hm, hM, OwnS.nil, hJ2⟩
            · exact ⟨rfl, rfl, rfl, rfl, rfl, rfl, rfl, trivial⟩
            · intro ⟨j, vw, cw, es, ck, m⟩ σ2 H_2 L_2 ds_2 s_2 hI_2
              obtain ⟨hj, rfl, rfl, hm, hM, ho, hJ3⟩ := hI_2
              have hh2 : HLe H1 H_2 := hh0.trans (s_1.trans (sS.trans (s34.trans s_2)))
              refine T.seq ?_
              refine T.region ?_
              refine R.lss rfl rfl rfl ?_
              refine TL.nil (Post.thnN ?_)
              refine T.seq ?_
              refine T.condD rfl (fun c39 => ?_) (fun c39 => ?_)
              · have hlt2 : j < (sortI s.2).length := by omega
                obtain ⟨y, hy⟩ := getk hlt2
                refine T.skip (Post.thnN ?_)
                refine T.seq ?_
                refine T.block ?_
                refine T.seq ?_
                refine T.region ?_
                obtain ⟨b40, o40, i40, e40⟩ := ((g30.mono s34).mono s_2).elem (hy)
                refine R.ixp Try.underlying23 Try.sizeOf3 rfl rfl rfl (by omega) i40 ?_
                refine R.ldC Try.isAgg3 rfl rfl (e40).int ?_
                refine R.asE rfl (by conv => lhs; whnf) ?_
                refine TL.nil (Post.thnN ?_)
                refine T.seq ?_
                refine T.region ?_
                refine R.ldH Try.isAgg79 rfl rfl (hh2 _ _ (hle _ _ hbn)) rfl ?_
                refine R.mvE rfl (by conv => lhs; whnf) ?_
                refine R.callp rfl rfl rfl (hfv _ (hle.trans hh2) y) ?_
                intro v44 H44 s44 q44
                obtain ⟨A44, c44, rfl, m44, n44, g44⟩ := q44.shape
                refine R.len Try.underlying23 rfl rfl ?_
                refine R.mvE rfl (by conv => lhs; whnf) ?_
                refine TL.nil (Post.thnN ?_)
                refine T.block ?_
                refine T.loop (ι := Nat × Value × Chunk × Array MapEntry × Nat × MapL) (fun ⟨i, vw, cw, es, ck, m⟩ H' L' ds' => i ≤ (f y).length ∧ ds' = [] ∧ L' = [(b5, .cells #[vw] 23)] :: cw :: [(b14, .map es ck)] :: L34 ∧ MapIs .i64 es m ∧ MetIs m (meetL ((f y).take i) (meetA f ((sortI s.2).take j) (s.1, []))).1 ∧ OwnS (intE .i64) 3 H' vw (meetL ((f y).take i) (meetA f ((sortI s.2).take j) (s.1, []))).2 cw ∧ J (pre ++ [(sortI s.2)]) H' L34) (fun ⟨i, vw, cw, es, ck, m⟩ => [(0, yieldv l), (2, .pointer (some ⟨bn, 0, none⟩)), (5, .pointer (some ⟨b5, 0, none⟩)), (6, (.func (.func 89) #[] ([.pointer (some ⟨b4, 0, none⟩), .pointer (some ⟨b5, 0, none⟩)] : List Value).toArray)), (36, .slice Aw s.2.length kw), (37, .int .i64 s.2.length), (38, .int .i64 j), (44, .slice A44 (f y).length c44), (45, .int .i64 (f y).length), (46, .int .i64 i)]) (fun ⟨i, vw, cw, es, ck, m⟩ => (f y).length - i) ((0, vw, cw, es, ck, m)) ?_ ?_ ?_
                · exact ⟨Nat.zero_le _, rfl, rfl, hm, hM, ho.mono s44, hJ _ _ _ _ s44 hJ3⟩
                · exact ⟨rfl, rfl, rfl, rfl, rfl, rfl, rfl, rfl, rfl, rfl, trivial⟩
                · intro ⟨i, vw, cw, es, ck, m⟩ σ3 H_3 L_3 ds_3 s_3 hI_3
                  obtain ⟨hi, rfl, rfl, hm, hM, ho, hJ4⟩ := hI_3
                  have hh3 : HLe H4 H_3 := s_0.trans (s_1.trans (sS.trans (s34.trans (s_2.trans (s44.trans s_3)))))
                  refine T.seq ?_
                  refine T.region ?_
                  refine R.lss rfl rfl rfl ?_
                  refine TL.nil (Post.thnN ?_)
                  refine T.seq ?_
                  refine T.condD rfl (fun c47 => ?_) (fun c47 => ?_)
                  · have hlt3 : i < (f y).length := by omega
                    obtain ⟨z, hz⟩ := getk hlt3
                    refine T.skip (Post.thnN ?_)
                    refine T.seq ?_
                    refine T.block ?_
                    refine T.seq ?_
                    refine T.region ?_
                    obtain ⟨b48, o48, i48, e48⟩ := (g44.mono s_3).elem (hz)
                    refine R.ixp Try.underlying23 Try.sizeOf3 rfl rfl rfl (by omega) i48 ?_
                    refine R.ldC Try.isAgg3 rfl rfl (e48).int ?_
                    refine R.asE rfl (by conv => lhs; whnf) ?_
                    refine TL.nil (Post.thnN ?_)
                    refine T.region ?_
                    refine R.mvE rfl (by conv => lhs; whnf) ?_
                    refine R.mvE rfl (by conv => lhs; whnf) ?_
                    refine TL.call [true, true, true] rfl rfl rfl (meet_c H_3 b4 b5 b14 es ck m (meetL ((f y).take i) (meetA f ((sortI s.2).take j) (s.1, []))) vw cw z (hh3 _ _ h4) hm hM ho (by have := meet_len huni (here := (sortI s.2).take j) (ws := (f y).take i) (met := s.1) (fun w hw => huni y w (List.mem_of_mem_take hw)); omega)) ?_
                    intro v52 H52 L52 s52 q52
                    obtain ⟨vw1, cw1, es1, ck1, m1, rfl, hm1, hM1, ho1⟩ := q52
                    refine TL.nil (Post.blkN ?_)
                    refine id (Post.thnN ?_)
                    refine T.region ?_
                    refine R.addI rfl rfl rfl (by omega) ?_
                    refine R.mvE rfl (by conv => lhs; whnf) ?_
                    refine TL.nil (Post.thnN ?_)
                    -- round's end, way nyyyy
                    exact ⟨(i + 1, vw1, cw1, es1, ck1, m1), s_3.trans s52, ⟨by show i + 1 ≤ _; omega, rfl, rfl, hm1, by rw [meetL_snoc hz]; exact hM1, by rw [meetL_snoc hz]; exact ho1, hJ _ _ _ _ s52 hJ4⟩, by show (f y).length - (i + 1) < (f y).length - i; omega, ⟨rfl, rfl, rfl, rfl, rfl, rfl, rfl, rfl, rfl, rfl, trivial⟩⟩
                  · refine T.exit (Post.thnE (Post.thnE (Post.blkX ?_)))
                    refine id (Post.blkN ?_)
                    refine id (Post.thnN ?_)
                    refine T.region ?_
                    refine R.addI rfl rfl rfl (by omega) ?_
                    refine R.mvE rfl (by conv => lhs; whnf) ?_
                    refine TL.nil (Post.thnN ?_)
                    -- round's end, way nyyyn
                    have hix : i = (f y).length := by omega
                    rw [hix, List.take_length] at hM ho
                    exact ⟨(j + 1, vw, cw, es, ck, m), s_2.trans (s44.trans s_3), ⟨by show j + 1 ≤ _; omega, rfl, rfl, hm, by rw [meetA_snoc hy]; exact hM, by rw [meetA_snoc hy]; exact ho, hJ4⟩, by show (sortI s.2).length - (j + 1) < (sortI s.2).length - j; omega, ⟨rfl, rfl, rfl, rfl, rfl, rfl, rfl, trivial⟩⟩
              · refine T.exit (Post.thnE (Post.thnE (Post.blkX ?_)))
                refine id (Post.blkN ?_)
                refine id (Post.thnN ?_)
                -- round's end, way nyyn
                have hjx : j = (sortI s.2).length := by omega
                rw [hjx, List.take_length] at hM ho
                exact ⟨(n - 1, pre ++ [(sortI s.2)], meetA f (sortI s.2) (s.1, []), vw, cw, es, ck, m, L34), s_1.trans (sS.trans (s34.trans s_2)), ⟨rfl, rfl, (hV.go huni hne).1, hm, hM, ho, hJ3⟩, by show n - 1 < n; have := (hV.go huni hne).2; omega, ⟨rfl, rfl, rfl, rfl, trivial⟩⟩
          · refine R.not rfl rfl ?_
            refine TL.nil (Post.thnN ?_)
            refine T.condY rfl ?_
            refine T.ret (Post.thnR (Post.blkR (Post.thnR (Post.blkR ?_))))
            -- way nyn
            exact fin0L L34 rfl ((List.sublist_cons_self _ _).trans (List.sublist_cons_self _ _)) (.inr ⟨_, _, hV.hand hne, hJ2⟩)
        · have hs0 : s.2 = [] := List.length_eq_zero_iff.1 (by omega)
          have hst := hV.stop hs0
          refine T.exit (Post.thnE (Post.thnE (Post.blkX ?_)))
          refine id ?_
          -- way nn
          exact fin0N Lj rfl ((List.sublist_cons_self _ _).trans ((List.sublist_cons_self _ _).trans (List.sublist_cons_self _ _))) (.inl (by rw [hst]; exact hJ1))

end Go.SX
