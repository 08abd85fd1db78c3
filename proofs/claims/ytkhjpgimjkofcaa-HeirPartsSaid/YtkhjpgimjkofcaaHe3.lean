/- heir: first, Way, Order, Owner, Heirs. -/
import Derived.Test.YtkhjpgimjkofcaaHe2
set_option linter.unusedVariables false
set_option linter.unusedSimpArgs false
namespace Go.SX
open Go Go.Proofs

set_option maxHeartbeats 1600000 in
theorem asked_c (H : Heap) (v : Value) (xs : List Lk) (a : Int) (hr : RdS pairE H v xs) (hc : chainB xs = true) (hl : xs.length ≤ 1000) : Fp Try.prog (fnv 61) [v, .int .i64 a] H (fun v' H' => ∃ lb, v' = .func (.func 84) #[] lb ∧ Iter Try.prog v' YW H' (askL xs a)) := by
  refine Fc.of_body (N := 6) Try.func61 rfl (by kernel_rfl) rfl rfl ?_
  intro w0
  obtain ⟨A, c, rfl, hc1, hc2, hr⟩ := hr.shape
  refine T.seq ?_
  refine T.region ?_
  refine R.box rfl (by conv => lhs; whnf) ?_
  intro b2
  refine R.box rfl (by conv => lhs; whnf) ?_
  intro b3
  refine R.asE rfl (by conv => lhs; whnf) ?_
  refine TL.nil (Post.thnN ?_)
  refine T.seq ?_
  refine T.shut .hd ?_
  intro H3 s3 q3
  refine T.shut .hd ?_
  intro H2 s2 q2
  refine T.region ?_
  refine R.mkf (cs := [_, _]) rfl rfl ?_
  refine R.asE rfl (by conv => lhs; whnf) ?_
  refine TL.nil (Post.thnN ?_)
  refine T.ret ?_
  exact fin1 rfl rfl ⟨rfl, _, rfl, asked1_c H2 b3 b2 _ xs a (s2 _ _ (shut1 q3)) (shut1 q2) ((hr.mono s3).mono s2) hc hl⟩


set_option maxHeartbeats 1600000 in
theorem first_c (H : Heap) (v : Value) (xs : List Lk) (a : Int) (hr : RdS pairE H v xs) (hl : xs.length ≤ 1000) (fv : Value) (p : Int → Bool) (hcf : fv.cells = #[fv]) (hp : PredI Try.prog fv p H) : Fp Try.prog (fnv 63) [v, .int .i64 a, fv] H (fun v' H' => ∃ w, v' = .tuple #[.int .i64 (firstR xs a p).1, w, .int .i64 (firstR xs a p).2.2] ∧ RdS (intE .i64) H' w (firstR xs a p).2.1) := by
  refine Fc.of_body (N := 34) Try.func63 rfl (by kernel_rfl) rfl rfl ?_
  intro w0
  obtain ⟨A, c, rfl, hc1, hc2, hr⟩ := hr.shape
  refine T.seq ?_
  refine T.region ?_
  refine R.box (v := fv) rfl rfl ?_
  intro b5
  refine R.asE rfl (by conv => lhs; whnf) ?_
  refine R.asE rfl (by conv => lhs; whnf) ?_
  refine R.asE rfl (by conv => lhs; whnf) ?_
  refine TL.nil (Post.thnN ?_)
  refine T.scope ?_
  refine T.seq ?_
  refine T.seq ?_
  refine T.shut .hd ?_
  intro H5 s5 q5
  have h5 : H5 b5 = some (.cells #[fv] 50) := by rw [← hcf]; exact shut1 q5
  refine T.region ?_
  refine R.mvE rfl (by conv => lhs; whnf) ?_
  refine R.callv rfl rfl rfl (ccheck_c _ _ _ (hr.mono s5)) ?_
  refine R.asE rfl (by conv => lhs; whnf) ?_
  refine TL.nil (Post.thnN ?_)
  refine T.seq ?_
  refine T.region ?_
  refine R.mvE rfl (by conv => lhs; whnf) ?_
  refine R.neq rfl rfl rfl ?_
  refine TL.nil (Post.thnN ?_)
  refine T.condD rfl (fun c17 => ?_) (fun c17 => ?_)
  · have hcb : chainB xs = false := by
      cases h : chainB xs with
      | false => rfl
      | true => rw [h] at c17; exact absurd rfl c17
    refine T.seq ?_
    refine T.region ?_
    refine R.mvE rfl (by conv => lhs; whnf) ?_
    refine R.asE rfl (by conv => lhs; whnf) ?_
    refine R.asE rfl (by conv => lhs; whnf) ?_
    refine R.asE rfl (by conv => lhs; whnf) ?_
    refine TL.nil (Post.thnN ?_)
    refine T.ret (Post.thnR (Post.ngR ?_))
    -- way y
    exact fin3 rfl rfl rfl rfl ⟨rfl, _, by rw [firstR_bad hcb]; exact congrArg (fun e => Value.tuple #[.int .i64 0, .slice none 0 0, .int .i64 e]) (show (if chainB xs = true then (0 : Int) else 260) = 260 by rw [hcb]; rfl), by rw [firstR_bad hcb]; exact RdS.nil⟩
  · have hcb : chainB xs = true := by
      cases h : chainB xs with
      | true => rfl
      | false => rw [h] at c17; exact absurd (by decide) c17
    refine T.skip (Post.thnN ?_)
    refine T.seq ?_
    refine T.region ?_
    refine R.alloc Try.zeroValue3 rfl ?_
    intro b10
    refine TL.nil (Post.thnN ?_)
    refine T.seq ?_
    refine T.region ?_
    refine R.alloc Try.zeroValue23 rfl ?_
    intro b11
    refine TL.nil (Post.thnN ?_)
    refine T.seq ?_
    refine T.label (Post.thnN ?_)
    refine T.seq ?_
    refine T.seq ?_
    refine T.region ?_
    refine R.mvE rfl (by conv => lhs; whnf) ?_
    refine R.mvE rfl (by conv => lhs; whnf) ?_
    refine R.callp rfl rfl rfl (asked_c _ _ xs a (hr.mono s5) hcb hl) ?_
    intro v21 H21 s21 q21
    obtain ⟨lb, rfl, hit⟩ := q21
    refine TL.nil (Post.thnN ?_)
    refine T.block ?_
    refine T.rangeFunc rfl rfl (enters_of Try.func84 (by kernel_rfl) rfl) hit (fun _ _ _ h => by obtain ⟨w, rfl, _⟩ := h; rfl) rfl (fun pre H' L' => (∀ w ∈ pre, p (lastI w) = false) ∧ L' = [[(b11, .cells #[.slice none 0 0] 23)], [(b10, .cells #[.int .i64 0] 3)]]) (fun c pre H' L' => c = .exit 0 ∧ ∃ q w v, pre = q ++ [w] ∧ (∀ x ∈ q, p (lastI x) = false) ∧ p (lastI w) = true ∧ RdS (intE .i64) H' v w ∧ L' = [[(b11, .cells #[v] 23)], [(b10, .cells #[.int .i64 (lastI w)] 3)]]) (fun _ _ _ _ _ h => h) (fun c pre H H' L hle ⟨h1, q, w, v, h2, h3, h4, h5, h6⟩ => ⟨h1, q, w, v, h2, h3, h4, h5.mono hle, h6⟩) ?_ ?_ ?_ ?_
    · exact ⟨fun w h => (by cases h), rfl⟩
    · intro l0 r0 w0 pre y vs Hr0 Lr0 sr0 hp0 hI0 hY0
      obtain ⟨hno, rfl⟩ := hI0
      obtain ⟨w, rfl, hwy⟩ := hY0
      have hya : y ∈ askL xs a := hp0.subset (by simp)
      have hpl := ask_short hya
      refine T.seq ?_
      refine T.region ?_
      refine R.asE rfl (by conv => lhs; whnf) ?_
      refine TL.nil (Post.thnN ?_)
      refine T.region ?_
      refine R.asE rfl (by conv => lhs; whnf) ?_
      refine TL.nil ?_
      refine onlyN.mk ?_
      refine T.block ?_
      refine T.seq ?_
      refine T.region ?_
      refine R.ldH Try.isAgg50 rfl rfl ((s21.trans sr0) _ _ h5) rfl ?_
      refine R.mvE rfl (by conv => lhs; whnf) ?_
      refine R.callv rfl rfl rfl (hp _ (s5.trans (s21.trans sr0)) _) ?_
      refine TL.nil (Post.thnN ?_)
      refine T.cond rfl (fun c26 => ?_) (fun c26 => ?_)
      · refine T.seq ?_
        refine T.region ?_
        refine R.mvE rfl (by conv => lhs; whnf) ?_
        refine R.mvE rfl (by conv => lhs; whnf) ?_
        refine TL.call [] rfl rfl rfl (cloneI23_c _ _ _ hwy (by have := hpl; omega)) ?_
        intro v29 H29 L29 s29 q29
        obtain ⟨c29, rfl, w29⟩ := q29
        refine TL.shut .hd ?_
        intro HC sC qC
        have g29 := w29.read sC qC
        obtain ⟨A29, k29, rfl, m29, n29, g29⟩ := g29.shape
        refine R.st Try.sizeOf3 rfl rfl (by conv => lhs; whnf) rfl (by first | exact .hd | exact .tl .hd | exact .tl (.tl .hd) | exact .tl (.tl (.tl .hd)) | exact .tl (.tl (.tl (.tl .hd))) | exact .tl (.tl (.tl (.tl (.tl .hd)))) | exact .tl (.tl (.tl (.tl (.tl (.tl .hd))))) | exact .tl (.tl (.tl (.tl (.tl (.tl (.tl .hd)))))) | exact .tl (.tl (.tl (.tl (.tl (.tl (.tl (.tl .hd))))))) | exact .tl (.tl (.tl (.tl (.tl (.tl (.tl (.tl (.tl .hd))))))))) ?_
        refine R.st Try.sizeOf23 rfl rfl (by conv => lhs; whnf) rfl (by first | exact .hd | exact .tl .hd | exact .tl (.tl .hd) | exact .tl (.tl (.tl .hd)) | exact .tl (.tl (.tl (.tl .hd))) | exact .tl (.tl (.tl (.tl (.tl .hd)))) | exact .tl (.tl (.tl (.tl (.tl (.tl .hd))))) | exact .tl (.tl (.tl (.tl (.tl (.tl (.tl .hd)))))) | exact .tl (.tl (.tl (.tl (.tl (.tl (.tl (.tl .hd))))))) | exact .tl (.tl (.tl (.tl (.tl (.tl (.tl (.tl (.tl .hd))))))))) ?_
        refine TL.nil (Post.thnN ?_)
        refine T.exit (Post.blkE rfl ?_)
        -- way nby
        exact ⟨rfl, pre, y, _, rfl, hno, c26, g29, rfl⟩
      · refine T.skip (Post.blkN ?_)
        refine id ?_
        -- way nbn
        refine ⟨fun w hw => ?_, rfl⟩
        rcases List.mem_append.1 hw with hw | hw
        · exact hno w hw
        · simp at hw; rw [hw]; exact c26
    · intro D0 Hr0 Lr0 sr0 hI0
      obtain ⟨hno, rfl⟩ := hI0
      have hfr := firstR_none hcb hno
      refine id (Post.blkN ?_)
      refine id (Post.thnN ?_)
      refine T.seq ?_
      refine T.seq ?_
      refine T.shut (.tl .hd) ?_
      intro HA sA qA
      refine T.shut .hd ?_
      intro HB sB qB
      have h10 := sB _ _ (shut1 qA)
      have h11 := shut1 qB
      refine T.region ?_
      refine R.ldH Try.isAgg23 rfl rfl (h11) rfl ?_
      refine R.nilS Try.underlying23 rfl rfl rfl ?_
      refine TL.nil (Post.thnN ?_)
      refine T.set 31 (.bool true) (congrArg Value.bool (rfl)) ?_
      refine T.condY rfl ?_
      refine T.seq ?_
      refine T.region ?_
      refine R.asE rfl (by conv => lhs; whnf) ?_
      refine R.asE rfl (by conv => lhs; whnf) ?_
      refine R.asE rfl (by conv => lhs; whnf) ?_
      refine TL.nil (Post.thnN ?_)
      refine T.ret (Post.thnR (Post.ngR ?_))
      -- way nd
      exact fin3 rfl rfl rfl rfl ⟨rfl, _, by rw [hfr]; rfl, by rw [hfr]; exact RdS.nil⟩
    · intro D0 c0 pre y Hr0 Lr0 sr0 hp0 hI0
      obtain ⟨rfl, q, w, v, hq, hno, hpw, hgw, rfl⟩ := hI0
      have hya : w ∈ askL xs a := hp0.subset (by rw [hq]; simp)
      have hwn := askL_ne hya
      rw [hq] at hp0
      have hfr := firstR_some hcb hp0 hno hpw
      obtain ⟨Av, kv, rfl, hv1, hv2, hgw⟩ := hgw.shape
      refine T.exit (Post.blkX ?_)
      refine id (Post.thnN ?_)
      refine T.seq ?_
      refine T.seq ?_
      refine T.shut (.tl .hd) ?_
      intro HA sA qA
      refine T.shut .hd ?_
      intro HB sB qB
      have h10 := sB _ _ (shut1 qA)
      have h11 := shut1 qB
      refine T.region ?_
      refine R.ldH Try.isAgg23 rfl rfl (h11) rfl ?_
      refine R.nilS Try.underlying23 rfl rfl rfl ?_
      refine TL.nil (Post.thnN ?_)
      refine T.set 31 (.bool false) (congrArg Value.bool (ne_none hwn hgw)) ?_
      refine T.condN rfl ?_
      refine T.skip (Post.thnN ?_)
      refine T.seq ?_
      refine T.draw Try_mixed (by kernel_rfl) ?_
      refine Plan.v 0 [1, 2, 3, 4] (by kernel_rfl) (by kernel_rfl) (by kernel_rfl) (by kernel_rfl) rfl (fun _ _ h_ => R.ldH Try.isAgg3 rfl rfl (h10) rfl (TL.nil h_)) ?_
      refine Plan.v 1 [2, 3, 4] (by kernel_rfl) (by kernel_rfl) (by kernel_rfl) (by kernel_rfl) rfl (fun _ _ h_ => R.ldH Try.isAgg23 rfl rfl (h11) rfl (TL.nil h_)) ?_
      refine Plan.v 2 [3, 4] (by kernel_rfl) (by kernel_rfl) (by kernel_rfl) (by kernel_rfl) rfl (fun _ _ h_ => R.asE rfl (by conv => lhs; whnf) (TL.nil h_)) ?_
      refine Plan.v 3 [4] (by kernel_rfl) (by kernel_rfl) (by kernel_rfl) (by kernel_rfl) rfl (fun _ _ h_ => R.asE rfl (by conv => lhs; whnf) (TL.nil h_)) ?_
      refine Plan.v 4 [] (by kernel_rfl) (by kernel_rfl) (by kernel_rfl) (by kernel_rfl) rfl (fun _ _ h_ => R.asE rfl (by conv => lhs; whnf) (TL.nil h_)) ?_
      refine Plan.done (Post.thnN ?_)
      refine T.ret (Post.ngR ?_)
      -- way ns
      exact fin3 rfl rfl rfl rfl ⟨rfl, _, by rw [hfr]; rfl, by rw [hfr]; exact (hgw.mono sA).mono sB⟩


set_option maxHeartbeats 1600000 in
theorem way1_c (H : Heap) (b3 : Nat) (y x : Int) (h3 : H b3 = some (.cells #[.int .i64 y] 3)) : Fv Try.prog (.func (.func 64) #[] ([.pointer (some ⟨b3, 0, none⟩)] : List Value).toArray) [.int .i64 x] H (.bool (decide (x = y))) := by
  refine Fc.of_body (N := 7) Try.func64 rfl (by kernel_rfl) rfl rfl ?_
  intro w0
  refine T.seq ?_
  refine T.region ?_
  refine R.asE rfl (by conv => lhs; whnf) ?_
  refine TL.nil (Post.thnN ?_)
  refine T.seq ?_
  refine T.region ?_
  refine R.mvE rfl (by conv => lhs; whnf) ?_
  refine R.ldH Try.isAgg3 rfl rfl (h3) rfl ?_
  refine R.eql rfl rfl rfl ?_
  refine R.asE rfl (by conv => lhs; whnf) ?_
  refine TL.nil (Post.thnN ?_)
  refine T.ret ?_
  exact fin1 rfl rfl ⟨rfl, rfl⟩


set_option maxHeartbeats 1600000 in
theorem owner1_c (H : Heap) (b3 : Nat) (u : Value) (os : List Int) (x : Int) (h3 : H b3 = some (.cells #[u] 23)) (hr : RdS (intE .i64) H u os) : Fv Try.prog (.func (.func 66) #[] ([.pointer (some ⟨b3, 0, none⟩)] : List Value).toArray) [.int .i64 x] H (.bool (ownP os x)) := by
  refine Fc.of_body (N := 7) Try.func66 rfl (by kernel_rfl) rfl rfl ?_
  intro w0
  obtain ⟨A, c, rfl, hc1, hc2, hr⟩ := hr.shape
  refine T.seq ?_
  refine T.region ?_
  refine R.asE rfl (by conv => lhs; whnf) ?_
  refine TL.nil (Post.thnN ?_)
  refine T.seq ?_
  refine T.region ?_
  refine R.ldH Try.isAgg23 rfl rfl (h3) rfl ?_
  refine R.mvE rfl (by conv => lhs; whnf) ?_
  refine R.callv rfl rfl rfl (containsI23_c _ _ _ _ hr) ?_
  refine R.asE rfl (by conv => lhs; whnf) ?_
  refine TL.nil (Post.thnN ?_)
  refine T.ret ?_
  exact fin1 rfl rfl ⟨rfl, rfl⟩


set_option maxHeartbeats 1600000 in
theorem way_c (H : Heap) (v : Value) (xs : List Lk) (a : Int) (hr : RdS pairE H v xs) (hl : xs.length ≤ 1000) (z : Int) : Fp Try.prog (fnv 21) [v, .int .i64 a, .int .i64 z] H (fun v' H' => ∃ w, v' = .tuple #[w, .int .i64 (firstR xs a (fun x => decide (x = z))).2.2] ∧ RdS (intE .i64) H' w (firstR xs a (fun x => decide (x = z))).2.1) := by
  refine Fc.of_body (N := 21) Try.func21 rfl (by kernel_rfl) rfl rfl ?_
  intro w0
  obtain ⟨A, c, rfl, hc1, hc2, hr⟩ := hr.shape
  refine T.seq ?_
  refine T.region ?_
  refine R.box rfl (by conv => lhs; whnf) ?_
  intro b5
  refine R.asE rfl (by conv => lhs; whnf) ?_
  refine R.asE rfl (by conv => lhs; whnf) ?_
  refine TL.nil (Post.thnN ?_)
  refine T.seq ?_
  refine T.shut .hd ?_
  intro H5 s5 q5
  refine T.region ?_
  refine R.mvE rfl (by conv => lhs; whnf) ?_
  refine R.mvE rfl (by conv => lhs; whnf) ?_
  refine R.mkf (cs := [_]) rfl rfl ?_
  refine R.callp rfl rfl rfl (first_c _ _ xs a (hr.mono s5) hl _ (fun x => decide (x = z)) rfl (fun H2 h2 x => way1_c H2 b5 z x (h2 _ _ (shut1 q5)))) ?_
  intro v15 H15 s15 q15
  obtain ⟨w15, rfl, g15⟩ := q15
  refine R.mvE rfl (by conv => lhs; whnf) ?_
  refine R.ext rfl rfl rfl ?_
  refine R.ext rfl rfl rfl ?_
  refine R.ext rfl rfl rfl ?_
  refine R.asE rfl (by conv => lhs; whnf) ?_
  refine R.asE rfl (by conv => lhs; whnf) ?_
  refine R.asE rfl (by conv => lhs; whnf) ?_
  refine TL.nil (Post.thnN ?_)
  refine T.seq ?_
  refine T.region ?_
  refine R.mvE rfl (by conv => lhs; whnf) ?_
  refine R.mvE rfl (by conv => lhs; whnf) ?_
  refine R.asE rfl (by conv => lhs; whnf) ?_
  refine R.asE rfl (by conv => lhs; whnf) ?_
  refine TL.nil (Post.thnN ?_)
  refine T.ret ?_
  exact fin2 rfl rfl rfl ⟨rfl, _, rfl, g15⟩


set_option maxHeartbeats 1600000 in
theorem owner_c (H : Heap) (v : Value) (xs : List Lk) (a : Int) (hr : RdS pairE H v xs) (hl : xs.length ≤ 1000) (u : Value) (os : List Int) (hr2 : RdS (intE .i64) H u os) : Fp Try.prog (fnv 24) [v, .int .i64 a, u] H (fun v' H' => ∃ w, v' = .tuple #[.int .i64 (firstR xs a (ownP os)).1, w, .int .i64 (firstR xs a (ownP os)).2.2] ∧ RdS (intE .i64) H' w (firstR xs a (ownP os)).2.1) := by
  refine Fc.of_body (N := 16) Try.func24 rfl (by kernel_rfl) rfl rfl ?_
  intro w0
  obtain ⟨A, c, rfl, hc1, hc2, hr⟩ := hr.shape
  obtain ⟨A2, c2, rfl, hc3, hc4, hr2⟩ := hr2.shape
  refine T.seq ?_
  refine T.region ?_
  refine R.box rfl (by conv => lhs; whnf) ?_
  intro b5
  refine R.asE rfl (by conv => lhs; whnf) ?_
  refine R.asE rfl (by conv => lhs; whnf) ?_
  refine R.asE rfl (by conv => lhs; whnf) ?_
  refine TL.nil (Post.thnN ?_)
  refine T.seq ?_
  refine T.shut .hd ?_
  intro H5 s5 q5
  refine T.region ?_
  refine R.mvE rfl (by conv => lhs; whnf) ?_
  refine R.mvE rfl (by conv => lhs; whnf) ?_
  refine R.mkf (cs := [_]) rfl rfl ?_
  refine R.callp rfl rfl rfl (first_c _ _ xs a (hr.mono s5) hl _ (ownP os) rfl (fun H2 h2 x => owner1_c H2 b5 _ os x (h2 _ _ (shut1 q5)) ((hr2.mono s5).mono h2))) ?_
  intro v12 H12 s12 q12
  obtain ⟨w12, rfl, g12⟩ := q12
  refine R.ext rfl rfl rfl ?_
  refine R.ext rfl rfl rfl ?_
  refine R.ext rfl rfl rfl ?_
  refine R.asE rfl (by conv => lhs; whnf) ?_
  refine R.asE rfl (by conv => lhs; whnf) ?_
  refine R.asE rfl (by conv => lhs; whnf) ?_
  refine TL.nil (Post.thnN ?_)
  refine T.ret ?_
  exact fin3 rfl rfl rfl rfl ⟨rfl, _, rfl, g12⟩


set_option maxHeartbeats 1600000 in
theorem order_c (H : Heap) (v : Value) (xs : List Lk) (a : Int) (hr : RdS pairE H v xs) (hl : xs.length ≤ 1000) : Fp Try.prog (fnv 18) [v, .int .i64 a] H (fun v' H' => ∃ w, v' = .tuple #[w, .int .i64 (if chainB xs then 0 else 260)] ∧ RdS (intE .i64) H' w (if chainB xs then (askL xs a).map lastI else [])) := by
  refine Fc.of_body (N := 24) Try.func18 rfl (by kernel_rfl) rfl rfl ?_
  intro w0
  obtain ⟨A, c, rfl, hc1, hc2, hr⟩ := hr.shape
  refine T.seq ?_
  refine T.region ?_
  refine R.asE rfl (by conv => lhs; whnf) ?_
  refine R.asE rfl (by conv => lhs; whnf) ?_
  refine TL.nil (Post.thnN ?_)
  refine T.seq ?_
  refine T.seq ?_
  refine T.region ?_
  refine R.mvE rfl (by conv => lhs; whnf) ?_
  refine R.callv rfl rfl rfl (ccheck_c _ _ _ hr) ?_
  refine R.asE rfl (by conv => lhs; whnf) ?_
  refine TL.nil (Post.thnN ?_)
  refine T.seq ?_
  refine T.region ?_
  refine R.mvE rfl (by conv => lhs; whnf) ?_
  refine R.neq rfl rfl rfl ?_
  refine TL.nil (Post.thnN ?_)
  refine T.condD rfl (fun c12 => ?_) (fun c12 => ?_)
  · have hcb : chainB xs = false := by
      cases h : chainB xs with
      | false => rfl
      | true => rw [h] at c12; exact absurd rfl c12
    refine T.seq ?_
    refine T.region ?_
    refine R.mvE rfl (by conv => lhs; whnf) ?_
    refine R.asE rfl (by conv => lhs; whnf) ?_
    refine R.asE rfl (by conv => lhs; whnf) ?_
    refine TL.nil (Post.thnN ?_)
    refine T.ret (Post.thnR ?_)
    -- way y
    exact fin2 rfl rfl rfl ⟨rfl, _, rfl, by rw [hcb]; exact RdS.nil⟩
  · have hcb : chainB xs = true := by
      cases h : chainB xs with
      | true => rfl
      | false => rw [h] at c12; exact absurd (by decide) c12
    refine T.skip (Post.thnN ?_)
    refine T.seq ?_
    refine T.region ?_
    refine R.alloc Try.zeroValue23 rfl ?_
    intro b7
    refine TL.nil (Post.thnN ?_)
    refine T.seq ?_
    refine T.seq ?_
    refine T.nilc ?_
    refine T.region ?_
    refine R.mvE rfl (by conv => lhs; whnf) ?_
    refine R.mvE rfl (by conv => lhs; whnf) ?_
    refine R.callp rfl rfl rfl (asked_c _ _ xs a hr hcb hl) ?_
    intro v16 H16 s16 q16
    obtain ⟨lb, rfl, hit⟩ := q16
    refine TL.nil (Post.thnN ?_)
    refine T.block ?_
    refine T.rangeFunc rfl rfl (enters_of Try.func84 (by kernel_rfl) rfl) hit (fun _ _ _ h => by obtain ⟨w, rfl, _⟩ := h; rfl) rfl (fun pre H' L' => ∃ v c, L' = [c, [(b7, .cells #[v] 23)]] ∧ OwnS (intE .i64) 3 H' v (pre.map lastI) c) (fun c pre H' L' => False) (fun pre H H' L hle ⟨v, c, h1, h2⟩ => ⟨v, c, h1, h2.mono hle⟩) (fun _ _ _ _ _ _ h => h) ?_ ?_ ?_ ?_
    · exact ⟨_, _, rfl, OwnS.nil⟩
    · intro l0 r0 w0 pre y vs Hr0 Lr0 sr0 hp0 hI0 hY0
      obtain ⟨v, c, rfl, ho⟩ := hI0
      obtain ⟨w, rfl, hwy⟩ := hY0
      have hpl := hp0.length_le
      have hal := askL_len xs a
      simp at hpl
      refine T.region ?_
      refine R.asE rfl (by conv => lhs; whnf) ?_
      refine TL.nil ?_
      refine onlyN.mk ?_
      refine T.block ?_
      refine T.region ?_
      refine R.ld Try.isAgg23 rfl rfl (by repeat (first | exact .hd | refine .tl ?_)) rfl ?_
      refine R.mvE rfl (by conv => lhs; whnf) ?_
      refine R.bs rfl (run_buildSlice1 Try.underlying23 Try.sizeOf3 Try.zeroValue3 rfl rfl) ?_
      intro b21
      refine R.app (ys := [lastI y]) Try_ty23 rfl rfl rfl ho (.tl .hd) (Src.lit (vs := [.int .i64 (lastI y)]) .hd) ⟨[.int .i64 (lastI y)], [], rfl, rfl, rfl⟩ (by simp; omega) (by simp; omega) ?_
      intro v22 c22 w22
      refine R.st Try.sizeOf23 rfl rfl rfl (by obtain ⟨_, _, e, _⟩ := w22.shape; subst e; rfl) (by first | exact .hd | exact .tl .hd | exact .tl (.tl .hd) | exact .tl (.tl (.tl .hd)) | exact .tl (.tl (.tl (.tl .hd))) | exact .tl (.tl (.tl (.tl (.tl .hd)))) | exact .tl (.tl (.tl (.tl (.tl (.tl .hd))))) | exact .tl (.tl (.tl (.tl (.tl (.tl (.tl .hd)))))) | exact .tl (.tl (.tl (.tl (.tl (.tl (.tl (.tl .hd))))))) | exact .tl (.tl (.tl (.tl (.tl (.tl (.tl (.tl (.tl .hd))))))))) ?_
      refine TL.del (.tl .hd) ?_
      refine TL.nil (Post.blkN ?_)
      refine id ?_
      -- way nb
      exact ⟨v22, c22, rfl, by rw [List.map_append]; exact w22⟩
    · intro D0 Hr0 Lr0 sr0 hI0
      obtain ⟨v, c, rfl, ho⟩ := hI0
      refine id (Post.blkN ?_)
      refine id (Post.thnN ?_)
      refine T.seq ?_
      refine T.shut .hd ?_
      intro HW sW qW
      have hw := ho.read sW qW
      obtain ⟨Av, kv, rfl, hv1, hv2, hw⟩ := hw.shape
      refine T.region ?_
      refine R.ld Try.isAgg23 rfl rfl (by repeat (first | exact .hd | refine .tl ?_)) rfl ?_
      refine R.asE rfl (by conv => lhs; whnf) ?_
      refine R.asE rfl (by conv => lhs; whnf) ?_
      refine TL.nil (Post.thnN ?_)
      refine T.ret ?_
      -- way nd
      exact fin2 rfl rfl rfl ⟨rfl, _, by rw [hcb]; rfl, by rw [hcb]; exact hw⟩
    · intro D0 c0 pre y Hr0 Lr0 sr0 hp0 hI0
      exact hI0.elim


set_option maxHeartbeats 1600000 in
theorem heirs_c (H : Heap) (v u : Value) (xs : List Lk) (f : Int) (os : List Int) (hr : RdS pairE H v xs) (hl : xs.length ≤ 1000) (hr2 : RdS (intE .i64) H u os) : Fp Try.prog (fnv 25) [v, .int .i64 f, u] H (fun v' H' => ∃ w, v' = .tuple #[w, .int .i64 (if chainB xs then 0 else 260)] ∧ RdS (intE .i64) H' w (heirsR xs f os)) := by
  refine Fc.of_body (N := 69) Try.func25 rfl (by kernel_rfl) rfl rfl ?_
  intro w0
  obtain ⟨A, c, rfl, hc1, hc2, hr⟩ := hr.shape
  obtain ⟨A2, c2, rfl, hc3, hc4, hr2⟩ := hr2.shape
  refine T.seq ?_
  refine T.region ?_
  refine R.asE rfl (by conv => lhs; whnf) ?_
  refine R.asE rfl (by conv => lhs; whnf) ?_
  refine TL.nil (Post.thnN ?_)
  refine T.seq ?_
  refine T.seq ?_
  refine T.region ?_
  refine R.mvE rfl (by conv => lhs; whnf) ?_
  refine R.callv rfl rfl rfl (ccheck_c _ _ _ hr) ?_
  refine R.asE rfl (by conv => lhs; whnf) ?_
  refine TL.nil (Post.thnN ?_)
  refine T.seq ?_
  refine T.region ?_
  refine R.mvE rfl (by conv => lhs; whnf) ?_
  refine R.neq rfl rfl rfl ?_
  refine TL.nil (Post.thnN ?_)
  refine T.condD rfl (fun c18 => ?_) (fun c18 => ?_)
  · have hcb : chainB xs = false := by
      cases h : chainB xs with
      | false => rfl
      | true => rw [h] at c18; exact absurd rfl c18
    refine T.seq ?_
    refine T.region ?_
    refine R.mvE rfl (by conv => lhs; whnf) ?_
    refine R.asE rfl (by conv => lhs; whnf) ?_
    refine R.asE rfl (by conv => lhs; whnf) ?_
    refine TL.nil (Post.thnN ?_)
    refine T.ret (Post.thnR ?_)
    -- way y
    exact fin2 rfl rfl rfl ⟨rfl, _, by rw [hcb]; rfl, by unfold heirsR; rw [hcb]; exact RdS.nil⟩
  · have hcb : chainB xs = true := by
      cases h : chainB xs with
      | true => rfl
      | false => rw [h] at c18; exact absurd (by decide) c18
    refine T.skip (Post.thnN ?_)
    refine T.seq ?_
    refine T.region ?_
    refine R.asE rfl (by conv => lhs; whnf) ?_
    refine TL.nil (Post.thnN ?_)
    refine T.seq ?_
    refine T.seq ?_
    refine T.nilc ?_
    refine T.region ?_
    refine R.mvE rfl (by conv => lhs; whnf) ?_
    refine R.len Try.underlying22 rfl rfl ?_
    refine R.mvE rfl (by conv => lhs; whnf) ?_
    refine TL.nil (Post.thnN ?_)
    refine T.block ?_
    refine T.loop (ι := Nat × Value × Chunk) (fun ⟨k, v, ch⟩ H' L' ds' => k ≤ xs.length ∧ L' = [ch] ∧ ds' = [] ∧ OwnS (intE .i64) 3 H' v (heirsK xs f os k) ch) (fun ⟨k, v, ch⟩ => [(0, .slice A xs.length c), (1, .int .i64 f), (2, .slice A2 os.length c2), (9, v), (20, .slice A xs.length c), (21, .int .i64 xs.length), (22, .int .i64 k)]) (fun ⟨k, v, ch⟩ => xs.length - k) ((0, .slice none 0 0, [])) ?_ ?_ ?_
    · exact ⟨Nat.zero_le _, rfl, rfl, OwnS.nil⟩
    · exact ⟨rfl, rfl, rfl, rfl, rfl, rfl, rfl, trivial⟩
    · intro ⟨k, v, ch⟩ σ0 H_0 L_0 ds_0 s_0 hI_0
      obtain ⟨hk, rfl, rfl, ho⟩ := hI_0
      have hkl := heirsK_len xs f os k
      refine T.seq ?_
      refine T.region ?_
      refine R.lss rfl rfl rfl ?_
      refine TL.nil (Post.thnN ?_)
      refine T.seq ?_
      refine T.condD rfl (fun c23 => ?_) (fun c23 => ?_)
      · have hlt : k < xs.length := by omega
        obtain ⟨y, hy⟩ := getk hlt
        refine T.skip (Post.thnN ?_)
        refine T.seq ?_
        refine T.block ?_
        refine T.seq ?_
        refine T.region ?_
        refine R.mvE rfl (by conv => lhs; whnf) ?_
        obtain ⟨b25, o25, i25, e25⟩ := (hr.mono s_0).elem (hy)
        refine R.ixp Try.underlying22 Try.sizeOf37 rfl rfl rfl (by omega) i25 ?_
        refine R.ldP Try.isAgg37 Try.sizeOf37 rfl rfl (e25) ?_
        refine R.alloc Try.zeroValue37 rfl ?_
        intro b11
        refine R.asE rfl (by conv => lhs; whnf) ?_
        refine R.stA (old := [.int .i64 0, .int .i64 0]) Try.sizeOf37 rfl rfl rfl rfl rfl (by intro v hv; simp at hv; rcases hv with rfl | rfl <;> rfl) .hd ?_
        refine TL.nil (Post.thnN ?_)
        refine T.seq ?_
        refine T.seq ?_
        refine T.shut .hd ?_
        intro H11 s11 q11
        have h11 : H11 b11 = some (.cells #[.int .i64 y.1, .int .i64 y.2] 37) := shut1 q11
        refine T.draw Try_mixed (by kernel_rfl) ?_
        refine Plan.v 0 [1, 2, 3, 4, 5, 6, 7, 8, 9, 10, 11, 12, 13, 14, 15, 16, 17, 18] (by kernel_rfl) (by kernel_rfl) (by kernel_rfl) (by kernel_rfl) rfl (fun _ _ h_ => R.fldA Try.underlying37 rfl Try.sizeOf3 (by decide) rfl rfl (TL.nil h_)) ?_
        refine Plan.v 1 [2, 3, 4, 5, 6, 7, 8, 9, 10, 11, 12, 13, 14, 15, 16, 17, 18] (by kernel_rfl) (by kernel_rfl) (by kernel_rfl) (by kernel_rfl) rfl (fun _ _ h_ => R.ldH Try.isAgg3 rfl rfl (h11) rfl (TL.nil h_)) ?_
        refine Plan.v 2 [3, 4, 5, 6, 7, 8, 9, 10, 11, 12, 13, 14, 15, 16, 17, 18] (by kernel_rfl) (by kernel_rfl) (by kernel_rfl) (by kernel_rfl) rfl (fun _ _ h_ => R.mvE rfl (by conv => lhs; whnf) (TL.nil h_)) ?_
        refine Plan.v 3 [4, 5, 6, 7, 8, 9, 10, 11, 12, 13, 14, 15, 16, 17, 18] (by kernel_rfl) (by kernel_rfl) (by kernel_rfl) (by kernel_rfl) rfl (fun _ _ h_ => R.eql rfl rfl rfl (TL.nil h_)) ?_
        refine Plan.v 4 [5, 6, 7, 8, 9, 10, 11, 12, 13, 14, 15, 16, 17, 18] (by kernel_rfl) (by kernel_rfl) (by kernel_rfl) (by kernel_rfl) rfl (fun _ _ h_ => R.mvE rfl (by conv => lhs; whnf) (TL.nil h_)) ?_
        refine Plan.gsplitD 31 rfl (fun g31 => ?_) (fun g31 => ?_)
        · refine Plan.v 5 [6, 7, 8, 9, 10, 11, 12, 13, 14, 15, 16, 17, 18] (by kernel_rfl) (by kernel_rfl) (by kernel_rfl) (by kernel_rfl) rfl (fun _ _ h_ => TL.off rfl rfl rfl (TL.nil h_)) ?_
          refine Plan.v 6 [7, 8, 9, 10, 11, 12, 13, 14, 15, 16, 17, 18] (by kernel_rfl) (by kernel_rfl) (by kernel_rfl) (by kernel_rfl) rfl (fun _ _ h_ => TL.off rfl rfl rfl (TL.nil h_)) ?_
          refine Plan.v 7 [8, 9, 10, 11, 12, 13, 14, 15, 16, 17, 18] (by kernel_rfl) (by kernel_rfl) (by kernel_rfl) (by kernel_rfl) rfl (fun _ _ h_ => TL.off rfl rfl rfl (TL.nil h_)) ?_
          refine Plan.v 8 [9, 10, 11, 12, 13, 14, 15, 16, 17, 18] (by kernel_rfl) (by kernel_rfl) (by kernel_rfl) (by kernel_rfl) rfl (fun _ _ h_ => TL.offU rfl rfl (TL.nil h_)) ?_
          refine Plan.v 9 [10, 11, 12, 13, 14, 15, 16, 17, 18] (by kernel_rfl) (by kernel_rfl) (by kernel_rfl) (by kernel_rfl) rfl (fun _ _ h_ => TL.offU rfl rfl (TL.nil h_)) ?_
          refine Plan.v 10 [11, 12, 13, 14, 15, 16, 17, 18] (by kernel_rfl) (by kernel_rfl) (by kernel_rfl) (by kernel_rfl) rfl (fun _ _ h_ => TL.offU rfl rfl (TL.nil h_)) ?_
          refine Plan.v 11 [12, 13, 14, 15, 16, 17, 18] (by kernel_rfl) (by kernel_rfl) (by kernel_rfl) (by kernel_rfl) rfl (fun _ _ h_ => TL.offU rfl rfl (TL.nil h_)) ?_
          refine Plan.v 12 [13, 14, 15, 16, 17, 18] (by kernel_rfl) (by kernel_rfl) (by kernel_rfl) (by kernel_rfl) rfl (fun _ _ h_ => TL.offU rfl rfl (TL.nil h_)) ?_
          refine Plan.v 13 [14, 15, 16, 17, 18] (by kernel_rfl) (by kernel_rfl) (by kernel_rfl) (by kernel_rfl) rfl (fun _ _ h_ => TL.offU rfl rfl (TL.nil h_)) ?_
          refine Plan.v 14 [15, 16, 17, 18] (by kernel_rfl) (by kernel_rfl) (by kernel_rfl) (by kernel_rfl) rfl (fun _ _ h_ => TL.offU rfl rfl (TL.nil h_)) ?_
          refine Plan.v 15 [16, 17, 18] (by kernel_rfl) (by kernel_rfl) (by kernel_rfl) (by kernel_rfl) rfl (fun _ _ h_ => TL.offU rfl rfl (TL.nil h_)) ?_
          refine Plan.v 16 [17, 18] (by kernel_rfl) (by kernel_rfl) (by kernel_rfl) (by kernel_rfl) rfl (fun _ _ h_ => TL.offU rfl rfl (TL.nil h_)) ?_
          refine Plan.v 17 [18] (by kernel_rfl) (by kernel_rfl) (by kernel_rfl) (by kernel_rfl) rfl (fun _ _ h_ => TL.off rfl rfl rfl (TL.nil h_)) ?_
          refine Plan.v 18 [] (by kernel_rfl) (by kernel_rfl) (by kernel_rfl) (by kernel_rfl) rfl (fun _ _ h_ => R.pkTE rfl rfl (by conv => lhs; whnf) (TL.nil h_)) ?_
          refine Plan.done (Post.thnN ?_)
          refine T.condY rfl ?_
          refine T.exit (Post.thnE (Post.blkX ?_))
          refine id (Post.thnN ?_)
          refine T.region ?_
          refine R.addI rfl rfl rfl (by omega) ?_
          refine R.mvE rfl (by conv => lhs; whnf) ?_
          refine TL.nil (Post.thnN ?_)
          -- round's end, way nyy
          exact ⟨(k + 1, v, ch), s_0.trans s11, ⟨by show k + 1 ≤ _; omega, rfl, rfl, by rw [heirsK_no (by unfold heirAt; rw [hy]; simp [g31])]; exact ho.mono s11⟩, by show xs.length - (k + 1) < xs.length - k; omega, ⟨rfl, rfl, rfl, rfl, rfl, rfl, rfl, trivial⟩⟩
        · refine Plan.v 5 [6, 7, 8, 9, 10, 11, 12, 13, 14, 15, 16, 17, 18] (by kernel_rfl) (by kernel_rfl) (by kernel_rfl) (by kernel_rfl) rfl (fun _ _ h_ => R.mvE rfl (by conv => lhs; whnf) (TL.nil h_)) ?_
          refine Plan.v 6 [7, 8, 9, 10, 11, 12, 13, 14, 15, 16, 17, 18] (by kernel_rfl) (by kernel_rfl) (by kernel_rfl) (by kernel_rfl) rfl (fun _ _ h_ => R.gtr rfl rfl rfl (TL.nil h_)) ?_
          refine Plan.v 7 [8, 9, 10, 11, 12, 13, 14, 15, 16, 17, 18] (by kernel_rfl) (by kernel_rfl) (by kernel_rfl) (by kernel_rfl) rfl (fun _ _ h_ => R.mvE rfl (by conv => lhs; whnf) (TL.nil h_)) ?_
          refine Plan.gsplitD 34 rfl (fun g34 => ?_) (fun g34 => ?_)
          · obtain ⟨y', hy'⟩ := getk (xs := xs) (k := ((k : Int) - 1).toNat) (by omega)
            have hy'' : xs[k - 1]? = some y' := by rw [← hy']; congr 1; omega
            refine Plan.v 8 [9, 10, 11, 12, 13, 14, 15, 16, 17, 18] (by kernel_rfl) (by kernel_rfl) (by kernel_rfl) (by kernel_rfl) rfl (fun _ _ h_ => R.mvE rfl (by conv => lhs; whnf) (TL.nil h_)) ?_
            refine Plan.v 9 [10, 11, 12, 13, 14, 15, 16, 17, 18] (by kernel_rfl) (by kernel_rfl) (by kernel_rfl) (by kernel_rfl) rfl (fun _ _ h_ => R.mvE rfl (by conv => lhs; whnf) (TL.nil h_)) ?_
            refine Plan.v 10 [11, 12, 13, 14, 15, 16, 17, 18] (by kernel_rfl) (by kernel_rfl) (by kernel_rfl) (by kernel_rfl) rfl (fun _ _ h_ => R.subI rfl rfl rfl (by omega) (TL.nil h_)) ?_
            obtain ⟨b38, o38, i38, e38⟩ := ((hr.mono s_0).mono s11).elem (hy')
            refine Plan.v 11 [12, 13, 14, 15, 16, 17, 18] (by kernel_rfl) (by kernel_rfl) (by kernel_rfl) (by kernel_rfl) rfl (fun _ _ h_ => R.ixp Try.underlying22 Try.sizeOf37 rfl rfl rfl (by omega) i38 (TL.nil h_)) ?_
            refine Plan.v 12 [13, 14, 15, 16, 17, 18] (by kernel_rfl) (by kernel_rfl) (by kernel_rfl) (by kernel_rfl) rfl (fun _ _ h_ => R.fldA Try.underlying37 rfl Try.sizeOf3 (by decide) rfl rfl (TL.nil h_)) ?_
            refine Plan.v 13 [14, 15, 16, 17, 18] (by kernel_rfl) (by kernel_rfl) (by kernel_rfl) (by kernel_rfl) rfl (fun _ _ h_ => R.ldC Try.isAgg3 rfl rfl e38.fst (TL.nil h_)) ?_
            refine Plan.v 14 [15, 16, 17, 18] (by kernel_rfl) (by kernel_rfl) (by kernel_rfl) (by kernel_rfl) rfl (fun _ _ h_ => R.fldA Try.underlying37 rfl Try.sizeOf3 (by decide) rfl rfl (TL.nil h_)) ?_
            refine Plan.v 15 [16, 17, 18] (by kernel_rfl) (by kernel_rfl) (by kernel_rfl) (by kernel_rfl) rfl (fun _ _ h_ => R.ldH Try.isAgg3 rfl rfl (h11) rfl (TL.nil h_)) ?_
            refine Plan.v 16 [17, 18] (by kernel_rfl) (by kernel_rfl) (by kernel_rfl) (by kernel_rfl) rfl (fun _ _ h_ => R.eql rfl rfl rfl (TL.nil h_)) ?_
            refine Plan.v 17 [18] (by kernel_rfl) (by kernel_rfl) (by kernel_rfl) (by kernel_rfl) rfl (fun _ _ h_ => R.pkTE rfl rfl (by conv => lhs; whnf) (TL.nil h_)) ?_
            refine Plan.v 18 [] (by kernel_rfl) (by kernel_rfl) (by kernel_rfl) (by kernel_rfl) rfl (fun _ _ h_ => R.pkFE rfl rfl (by conv => lhs; whnf) (TL.nil h_)) ?_
            refine Plan.done (Post.thnN ?_)
            refine T.condD rfl (fun c45 => ?_) (fun c45 => ?_)
            · refine T.exit (Post.thnE (Post.blkX ?_))
              refine id (Post.thnN ?_)
              refine T.region ?_
              refine R.addI rfl rfl rfl (by omega) ?_
              refine R.mvE rfl (by conv => lhs; whnf) ?_
              refine TL.nil (Post.thnN ?_)
              -- round's end, way nynyy
              exact ⟨(k + 1, v, ch), s_0.trans s11, ⟨by show k + 1 ≤ _; omega, rfl, rfl, by rw [heirsK_no (by unfold heirAt; rw [hy]; rw [hy'']; simp [show ¬ k = 0 by omega, c45])]; exact ho.mono s11⟩, by show xs.length - (k + 1) < xs.length - k; omega, ⟨rfl, rfl, rfl, rfl, rfl, rfl, rfl, trivial⟩⟩
            · refine T.skip (Post.thnN ?_)
              refine T.seq ?_
              refine T.region ?_
              refine R.mvE rfl (by conv => lhs; whnf) ?_
              refine R.fldA Try.underlying37 rfl Try.sizeOf3 (by decide) rfl rfl ?_
              refine R.ldH Try.isAgg3 rfl rfl (h11) rfl ?_
              refine R.mvE rfl (by conv => lhs; whnf) ?_
              refine R.callp rfl rfl rfl (owner_c _ _ xs y.1 ((hr.mono s_0).mono s11) hl _ os ((hr2.mono s_0).mono s11)) ?_
              intro v51 H51 s51 q51
              obtain ⟨w51, rfl, g51⟩ := q51
              refine R.mvE rfl (by conv => lhs; whnf) ?_
              refine R.ext rfl rfl rfl ?_
              refine R.ext rfl rfl rfl ?_
              refine R.ext rfl rfl rfl ?_
              refine R.asE rfl (by conv => lhs; whnf) ?_
              refine R.asE rfl (by conv => lhs; whnf) ?_
              refine R.asE rfl (by conv => lhs; whnf) ?_
              refine TL.nil (Post.thnN ?_)
              refine T.seq ?_
              refine T.region ?_
              refine R.mvE rfl (by conv => lhs; whnf) ?_
              refine R.eql rfl rfl rfl ?_
              refine R.mvE rfl (by conv => lhs; whnf) ?_
              refine TL.gsplitD 57 rfl (fun g57 => ?_) (fun g57 => ?_)
              · refine R.mvE rfl (by conv => lhs; whnf) ?_
                refine R.mvE rfl (by conv => lhs; whnf) ?_
                refine R.eql rfl rfl rfl ?_
                refine R.pkTE rfl rfl (by conv => lhs; whnf) ?_
                refine TL.nil (Post.thnN ?_)
                refine T.condD rfl (fun c61 => ?_) (fun c61 => ?_)
                · refine T.region ?_
                  refine R.mvE rfl (by conv => lhs; whnf) ?_
                  refine R.fldA Try.underlying37 rfl Try.sizeOf3 (by decide) rfl rfl ?_
                  refine R.ldH Try.isAgg3 rfl rfl (s51 _ _ h11) rfl ?_
                  refine R.bs rfl (run_buildSlice1 Try.underlying23 Try.sizeOf3 Try.zeroValue3 rfl rfl) ?_
                  intro b65
                  refine R.app (ys := [y.1]) Try_ty23 rfl rfl rfl ((ho.mono s11).mono s51) (.tl .hd) (Src.lit (vs := [.int .i64 y.1]) .hd) ⟨[.int .i64 y.1], [], rfl, rfl, rfl⟩ (by simp; omega) (by simp; omega) ?_
                  intro v66 c66 w66
                  refine TL.del (.tl .hd) ?_
                  refine R.asE rfl (by conv => lhs; whnf) ?_
                  refine TL.nil (Post.blkN ?_)
                  refine id (Post.thnN ?_)
                  refine T.region ?_
                  refine R.addI rfl rfl rfl (by omega) ?_
                  refine R.mvE rfl (by conv => lhs; whnf) ?_
                  refine TL.nil (Post.thnN ?_)
                  -- round's end, way nynynyy
                  exact ⟨(k + 1, v66, c66), s_0.trans (s11.trans s51), ⟨by show k + 1 ≤ _; omega, rfl, rfl, by rw [heirsK_yes hy (by unfold heirAt; rw [hy]; rw [hy'']; simp [g31, c45, g57, c61])]; exact w66⟩, by show xs.length - (k + 1) < xs.length - k; omega, ⟨rfl, rfl, rfl, rfl, rfl, rfl, rfl, trivial⟩⟩
                · refine T.skip (Post.blkN ?_)
                  refine id (Post.thnN ?_)
                  refine T.region ?_
                  refine R.addI rfl rfl rfl (by omega) ?_
                  refine R.mvE rfl (by conv => lhs; whnf) ?_
                  refine TL.nil (Post.thnN ?_)
                  -- round's end, way nynynyn
                  exact ⟨(k + 1, v, ch), s_0.trans (s11.trans s51), ⟨by show k + 1 ≤ _; omega, rfl, rfl, by rw [heirsK_no (by unfold heirAt; rw [hy]; simp only [decide_eq_false c61, Bool.and_false])]; exact (ho.mono s11).mono s51⟩, by show xs.length - (k + 1) < xs.length - k; omega, ⟨rfl, rfl, rfl, rfl, rfl, rfl, rfl, trivial⟩⟩
              · refine TL.off rfl rfl rfl ?_
                refine TL.off rfl rfl rfl ?_
                refine TL.off rfl rfl rfl ?_
                refine R.pkFE rfl rfl (by conv => lhs; whnf) ?_
                refine TL.nil (Post.thnN ?_)
                refine T.condN rfl ?_
                refine T.skip (Post.blkN ?_)
                refine id (Post.thnN ?_)
                refine T.region ?_
                refine R.addI rfl rfl rfl (by omega) ?_
                refine R.mvE rfl (by conv => lhs; whnf) ?_
                refine TL.nil (Post.thnN ?_)
                -- round's end, way nynynn
                exact ⟨(k + 1, v, ch), s_0.trans (s11.trans s51), ⟨by show k + 1 ≤ _; omega, rfl, rfl, by rw [heirsK_no (by unfold heirAt; rw [hy]; simp only [decide_eq_false g57, Bool.and_false, Bool.false_and])]; exact (ho.mono s11).mono s51⟩, by show xs.length - (k + 1) < xs.length - k; omega, ⟨rfl, rfl, rfl, rfl, rfl, rfl, rfl, trivial⟩⟩
          · refine Plan.v 8 [9, 10, 11, 12, 13, 14, 15, 16, 17, 18] (by kernel_rfl) (by kernel_rfl) (by kernel_rfl) (by kernel_rfl) rfl (fun _ _ h_ => TL.off rfl rfl rfl (TL.nil h_)) ?_
            refine Plan.v 9 [10, 11, 12, 13, 14, 15, 16, 17, 18] (by kernel_rfl) (by kernel_rfl) (by kernel_rfl) (by kernel_rfl) rfl (fun _ _ h_ => TL.off rfl rfl rfl (TL.nil h_)) ?_
            refine Plan.v 10 [11, 12, 13, 14, 15, 16, 17, 18] (by kernel_rfl) (by kernel_rfl) (by kernel_rfl) (by kernel_rfl) rfl (fun _ _ h_ => TL.off rfl rfl rfl (TL.nil h_)) ?_
            refine Plan.v 11 [12, 13, 14, 15, 16, 17, 18] (by kernel_rfl) (by kernel_rfl) (by kernel_rfl) (by kernel_rfl) rfl (fun _ _ h_ => TL.off rfl rfl rfl (TL.nil h_)) ?_
            refine Plan.v 12 [13, 14, 15, 16, 17, 18] (by kernel_rfl) (by kernel_rfl) (by kernel_rfl) (by kernel_rfl) rfl (fun _ _ h_ => TL.off rfl rfl rfl (TL.nil h_)) ?_
            refine Plan.v 13 [14, 15, 16, 17, 18] (by kernel_rfl) (by kernel_rfl) (by kernel_rfl) (by kernel_rfl) rfl (fun _ _ h_ => TL.off rfl rfl rfl (TL.nil h_)) ?_
            refine Plan.v 14 [15, 16, 17, 18] (by kernel_rfl) (by kernel_rfl) (by kernel_rfl) (by kernel_rfl) rfl (fun _ _ h_ => TL.off rfl rfl rfl (TL.nil h_)) ?_
            refine Plan.v 15 [16, 17, 18] (by kernel_rfl) (by kernel_rfl) (by kernel_rfl) (by kernel_rfl) rfl (fun _ _ h_ => TL.off rfl rfl rfl (TL.nil h_)) ?_
            refine Plan.v 16 [17, 18] (by kernel_rfl) (by kernel_rfl) (by kernel_rfl) (by kernel_rfl) rfl (fun _ _ h_ => TL.off rfl rfl rfl (TL.nil h_)) ?_
            refine Plan.v 17 [18] (by kernel_rfl) (by kernel_rfl) (by kernel_rfl) (by kernel_rfl) rfl (fun _ _ h_ => R.pkFE rfl rfl (by conv => lhs; whnf) (TL.nil h_)) ?_
            refine Plan.v 18 [] (by kernel_rfl) (by kernel_rfl) (by kernel_rfl) (by kernel_rfl) rfl (fun _ _ h_ => R.pkFE rfl rfl (by conv => lhs; whnf) (TL.nil h_)) ?_
            refine Plan.done (Post.thnN ?_)
            refine T.condN rfl ?_
            refine T.skip (Post.thnN ?_)
            refine T.seq ?_
            refine T.region ?_
            refine R.mvE rfl (by conv => lhs; whnf) ?_
            refine R.fldA Try.underlying37 rfl Try.sizeOf3 (by decide) rfl rfl ?_
            refine R.ldH Try.isAgg3 rfl rfl (h11) rfl ?_
            refine R.mvE rfl (by conv => lhs; whnf) ?_
            refine R.callp rfl rfl rfl (owner_c _ _ xs y.1 ((hr.mono s_0).mono s11) hl _ os ((hr2.mono s_0).mono s11)) ?_
            intro v51 H51 s51 q51
            obtain ⟨w51, rfl, g51⟩ := q51
            refine R.mvE rfl (by conv => lhs; whnf) ?_
            refine R.ext rfl rfl rfl ?_
            refine R.ext rfl rfl rfl ?_
            refine R.ext rfl rfl rfl ?_
            refine R.asE rfl (by conv => lhs; whnf) ?_
            refine R.asE rfl (by conv => lhs; whnf) ?_
            refine R.asE rfl (by conv => lhs; whnf) ?_
            refine TL.nil (Post.thnN ?_)
            refine T.seq ?_
            refine T.region ?_
            refine R.mvE rfl (by conv => lhs; whnf) ?_
            refine R.eql rfl rfl rfl ?_
            refine R.mvE rfl (by conv => lhs; whnf) ?_
            refine TL.gsplitD 57 rfl (fun g57 => ?_) (fun g57 => ?_)
            · refine R.mvE rfl (by conv => lhs; whnf) ?_
              refine R.mvE rfl (by conv => lhs; whnf) ?_
              refine R.eql rfl rfl rfl ?_
              refine R.pkTE rfl rfl (by conv => lhs; whnf) ?_
              refine TL.nil (Post.thnN ?_)
              refine T.condD rfl (fun c61 => ?_) (fun c61 => ?_)
              · refine T.region ?_
                refine R.mvE rfl (by conv => lhs; whnf) ?_
                refine R.fldA Try.underlying37 rfl Try.sizeOf3 (by decide) rfl rfl ?_
                refine R.ldH Try.isAgg3 rfl rfl (s51 _ _ h11) rfl ?_
                refine R.bs rfl (run_buildSlice1 Try.underlying23 Try.sizeOf3 Try.zeroValue3 rfl rfl) ?_
                intro b65
                refine R.app (ys := [y.1]) Try_ty23 rfl rfl rfl ((ho.mono s11).mono s51) (.tl .hd) (Src.lit (vs := [.int .i64 y.1]) .hd) ⟨[.int .i64 y.1], [], rfl, rfl, rfl⟩ (by simp; omega) (by simp; omega) ?_
                intro v66 c66 w66
                refine TL.del (.tl .hd) ?_
                refine R.asE rfl (by conv => lhs; whnf) ?_
                refine TL.nil (Post.blkN ?_)
                refine id (Post.thnN ?_)
                refine T.region ?_
                refine R.addI rfl rfl rfl (by omega) ?_
                refine R.mvE rfl (by conv => lhs; whnf) ?_
                refine TL.nil (Post.thnN ?_)
                -- round's end, way nynnyy
                exact ⟨(k + 1, v66, c66), s_0.trans (s11.trans s51), ⟨by show k + 1 ≤ _; omega, rfl, rfl, by rw [heirsK_yes hy (by unfold heirAt; rw [hy]; simp only [decide_eq_true g57, decide_eq_true c61, decide_eq_false g31, decide_eq_false (show ¬ 0 < k by omega)]; rfl)]; exact w66⟩, by show xs.length - (k + 1) < xs.length - k; omega, ⟨rfl, rfl, rfl, rfl, rfl, rfl, rfl, trivial⟩⟩
              · refine T.skip (Post.blkN ?_)
                refine id (Post.thnN ?_)
                refine T.region ?_
                refine R.addI rfl rfl rfl (by omega) ?_
                refine R.mvE rfl (by conv => lhs; whnf) ?_
                refine TL.nil (Post.thnN ?_)
                -- round's end, way nynnyn
                exact ⟨(k + 1, v, ch), s_0.trans (s11.trans s51), ⟨by show k + 1 ≤ _; omega, rfl, rfl, by rw [heirsK_no (by unfold heirAt; rw [hy]; simp only [decide_eq_false c61, Bool.and_false])]; exact (ho.mono s11).mono s51⟩, by show xs.length - (k + 1) < xs.length - k; omega, ⟨rfl, rfl, rfl, rfl, rfl, rfl, rfl, trivial⟩⟩
            · refine TL.off rfl rfl rfl ?_
              refine TL.off rfl rfl rfl ?_
              refine TL.off rfl rfl rfl ?_
              refine R.pkFE rfl rfl (by conv => lhs; whnf) ?_
              refine TL.nil (Post.thnN ?_)
              refine T.condN rfl ?_
              refine T.skip (Post.blkN ?_)
              refine id (Post.thnN ?_)
              refine T.region ?_
              refine R.addI rfl rfl rfl (by omega) ?_
              refine R.mvE rfl (by conv => lhs; whnf) ?_
              refine TL.nil (Post.thnN ?_)
              -- round's end, way nynnn
              exact ⟨(k + 1, v, ch), s_0.trans (s11.trans s51), ⟨by show k + 1 ≤ _; omega, rfl, rfl, by rw [heirsK_no (by unfold heirAt; rw [hy]; simp only [decide_eq_false g57, Bool.and_false, Bool.false_and])]; exact (ho.mono s11).mono s51⟩, by show xs.length - (k + 1) < xs.length - k; omega, ⟨rfl, rfl, rfl, rfl, rfl, rfl, rfl, trivial⟩⟩
      · have hkx : k = xs.length := by omega
        subst hkx
        refine T.exit (Post.thnE (Post.thnE (Post.blkX ?_)))
        refine id (Post.thnN ?_)
        refine T.seq ?_
        refine T.shut .hd ?_
        intro HW sW qW
        have hw := ho.read sW qW
        obtain ⟨Av, kv, rfl, hv1, hv2, hw⟩ := hw.shape
        refine T.region ?_
        refine R.mvE rfl (by conv => lhs; whnf) ?_
        refine R.asE rfl (by conv => lhs; whnf) ?_
        refine R.asE rfl (by conv => lhs; whnf) ?_
        refine TL.nil (Post.thnN ?_)
        refine T.ret ?_
        -- way nn
        exact fin2 rfl rfl rfl ⟨rfl, _, by rw [hcb]; rfl, by unfold heirsR; rw [hcb, if_pos rfl]; exact hw⟩

end Go.SX
