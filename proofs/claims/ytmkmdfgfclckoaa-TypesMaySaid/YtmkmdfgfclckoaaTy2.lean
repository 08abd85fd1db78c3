/- types: what is told of a type: some, pairs, gather; Has, Taken, Targets, Mentions. -/
import Derived.Test.YtmkmdfgfclckoaaTy1
import Derived.Test.YtmkmdfgfclckoaaSx5
set_option linter.unusedVariables false
set_option linter.unusedSimpArgs false
namespace Go.SX
open Go Go.Proofs

set_option maxHeartbeats 1600000 in
theorem someIt_c (H : Heap) (b2 b3 : Nat) (v fv : Value) (xs : List Int) (p : Int → Bool) (h2 : H b2 = some (.cells #[v] 22)) (h3 : H b3 = some (.cells #[fv] 39)) (hr : RdS (intE .u64) H v xs) (hU : Us xs) (hp : Pred Try.prog fv p H) : Iter Try.prog (.func (.func 82) #[] ([.pointer (some ⟨b2, 0, none⟩), .pointer (some ⟨b3, 0, none⟩)] : List Value).toArray) YU H (someL xs p) := by
  obtain ⟨A, c, rfl, hc1, hc2, hr⟩ := hr.shape
  intro l J Jx H1 Lc hle hJ hJx hY h0
  refine Fc.of_body (N := 25) Try.func82 rfl (by kernel_rfl) rfl rfl ?_
  intro w0
  refine T.seq ?_
  refine T.seq ?_
  refine T.region ?_
  refine R.ldH Try.isAgg22 rfl rfl (hle _ _ h2) rfl ?_
  refine R.callv rfl rfl rfl (check_c _ _ _ (hr.mono hle) hU) ?_
  refine R.neq rfl rfl rfl ?_
  refine TL.nil (Post.thnN ?_)
  refine T.condD rfl (fun c8 => ?_) (fun c8 => ?_)
  · have ht : typeB xs = false := chk_ne.1 c8
    refine T.ret (Post.thnR ?_)
    -- way y
    exact fin0L Lc rfl (List.Sublist.refl _) (.inl (by rw [someL_f ht]; exact h0))
  · have ht : typeB xs = true := by cases h : typeB xs with
      | true => rfl
      | false => exact absurd (chk_ne.2 h) c8
    refine T.skip (Post.thnN ?_)
    refine T.seq ?_
    refine T.region ?_
    refine R.ldH Try.isAgg22 rfl rfl (hle _ _ h2) rfl ?_
    refine R.len Try.underlying22 rfl rfl ?_
    refine R.mvE rfl (by conv => lhs; whnf) ?_
    refine TL.nil (Post.thnN ?_)
    refine T.block ?_
    refine T.loop (ι := Nat) (fun k H' L' ds' => k ≤ xs.length ∧ ds' = [] ∧ J ((xs.take k).filter p) H' L') (fun k => [(0, yieldv l), (2, .pointer (some ⟨b3, 0, none⟩)), (9, .slice A xs.length c), (10, .int .i64 xs.length), (11, .int .i64 k)]) (fun k => xs.length - k) (0) ?_ ?_ ?_
    · exact ⟨Nat.zero_le _, rfl, h0⟩
    · exact ⟨rfl, rfl, rfl, rfl, rfl, trivial⟩
    · intro k σ0 H_0 L_0 ds_0 s_0 hI_0
      obtain ⟨hk, rfl, hJk⟩ := hI_0
      refine T.seq ?_
      refine T.region ?_
      refine R.lss rfl rfl rfl ?_
      refine TL.nil (Post.thnN ?_)
      refine T.seq ?_
      refine T.condD rfl (fun c12 => ?_) (fun c12 => ?_)
      · have hlt : k < xs.length := by omega
        obtain ⟨y, hy⟩ := getk hlt
        have hyU := hU y (List.mem_of_getElem? hy)
        refine T.skip (Post.thnN ?_)
        refine T.seq ?_
        refine T.block ?_
        refine T.seq ?_
        refine T.region ?_
        obtain ⟨b13, o13, i13, e13⟩ := ((hr.mono hle).mono s_0).elem (hy)
        refine R.ixp Try.underlying22 Try.sizeOf28 rfl rfl rfl (by omega) i13 ?_
        refine R.ldC Try.isAgg28 rfl rfl (e13).int ?_
        refine R.asE rfl (by conv => lhs; whnf) ?_
        refine TL.nil (Post.thnN ?_)
        refine T.seq ?_
        refine T.region ?_
        refine R.ldH Try.isAgg39 rfl rfl (s_0 _ _ (hle _ _ h3)) rfl ?_
        refine R.mvE rfl (by conv => lhs; whnf) ?_
        refine R.callv rfl rfl rfl (hp _ (hle.trans s_0) y hyU) ?_
        refine R.mvE rfl (by conv => lhs; whnf) ?_
        refine TL.gsplit 18 rfl (fun g18 => ?_) (fun g18 => ?_)
        · refine R.mvE rfl (by conv => lhs; whnf) ?_
          refine R.mvE rfl (by conv => lhs; whnf) ?_
          refine TL.callT 0 rfl rfl rfl (hY ((xs.take k).filter p) y _ H_0 L_0 s_0 (by rw [someL_t ht]; exact filt_pre hy g18) hJk rfl) ?_
          intro v21 H21 L21 s21 q21
          rcases q21 with ⟨rfl, hJ2⟩ | ⟨rfl, hJ2⟩
          · refine R.not rfl rfl ?_
            refine R.pkTE rfl rfl (by conv => lhs; whnf) ?_
            refine TL.nil (Post.thnN ?_)
            refine T.condN rfl ?_
            refine T.skip (Post.blkN ?_)
            refine id (Post.thnN ?_)
            refine T.region ?_
            refine R.addI rfl rfl rfl (by omega) ?_
            refine R.mvE rfl (by conv => lhs; whnf) ?_
            refine TL.nil (Post.thnN ?_)
            -- round's end, way nyyy
            exact ⟨k + 1, s_0.trans s21, ⟨by omega, rfl, by rw [filt_yes hy g18]; exact hJ2⟩, by omega, ⟨rfl, rfl, rfl, rfl, rfl, trivial⟩⟩
          · refine R.not rfl rfl ?_
            refine R.pkTE rfl rfl (by conv => lhs; whnf) ?_
            refine TL.nil (Post.thnN ?_)
            refine T.condY rfl ?_
            refine T.ret (Post.blkR (Post.thnR (Post.thnR (Post.blkR ?_))))
            -- way nyyn
            exact fin0L L21 rfl (List.Sublist.refl _) (.inr ⟨_, y, by rw [someL_t ht]; exact filt_pre hy g18, hJ2⟩)
        · refine TL.off rfl rfl rfl ?_
          refine TL.off rfl rfl rfl ?_
          refine TL.off rfl rfl rfl ?_
          refine TL.off rfl rfl rfl ?_
          refine R.pkFE rfl rfl (by conv => lhs; whnf) ?_
          refine TL.nil (Post.thnN ?_)
          refine T.condN rfl ?_
          refine T.skip (Post.blkN ?_)
          refine id (Post.thnN ?_)
          refine T.region ?_
          refine R.addI rfl rfl rfl (by omega) ?_
          refine R.mvE rfl (by conv => lhs; whnf) ?_
          refine TL.nil (Post.thnN ?_)
          -- round's end, way nyn
          exact ⟨k + 1, s_0, ⟨by omega, rfl, by rw [filt_no hy g18]; exact hJk⟩, by omega, ⟨rfl, rfl, rfl, rfl, rfl, trivial⟩⟩
      · have hkx : k = xs.length := by omega
        rw [hkx, List.take_length, ← someL_t ht] at hJk
        refine T.exit (Post.thnE (Post.thnE (Post.blkX ?_)))
        refine id ?_
        -- way nn
        exact fin0N L_0 rfl (List.Sublist.refl _) (.inl hJk)


set_option maxHeartbeats 1600000 in
theorem some_c (H : Heap) (v fv : Value) (xs : List Int) (p : Int → Bool) (hc : fv.cells = #[fv]) (hr : RdS (intE .u64) H v xs) (hU : Us xs) (hp : Pred Try.prog fv p H) : Fp Try.prog (fnv 48) [v, fv] H (fun v' H' => ∃ lb, v' = .func (.func 82) #[] lb ∧ Iter Try.prog v' YU H' (someL xs p)) := by
  refine Fc.of_body (N := 6) Try.func48 rfl (by kernel_rfl) rfl rfl ?_
  intro w0
  have hcf := hc
  obtain ⟨A, c, rfl, hc1, hc2, hr⟩ := hr.shape
  refine T.seq ?_
  refine T.region ?_
  refine R.box rfl (by conv => lhs; whnf) ?_
  intro b2
  refine R.box (v := fv) rfl rfl ?_
  intro b3
  refine R.asE rfl (by conv => lhs; whnf) ?_
  refine TL.nil (Post.thnN ?_)
  refine T.seq ?_
  refine T.shut .hd ?_
  intro H3 s3 q3
  refine T.shut .hd ?_
  intro H2 s2 q2
  refine T.region ?_
  refine R.mkf (cs := [_, _]) rfl rfl ?_
  refine R.asE rfl (by conv => lhs; whnf) ?_
  refine TL.nil (Post.thnN ?_)
  refine T.ret ?_
  exact fin1 rfl rfl ⟨rfl, _, rfl, someIt_c _ b2 b3 _ fv xs p (shut1 q2) (by rw [← hcf]; exact s2 _ _ (shut1 q3)) ((hr.mono s3).mono s2) hU ((hp.mono s3).mono s2)⟩


set_option maxHeartbeats 1600000 in
theorem has1_c (H : Heap) (b3 : Nat) (y x : Int) (h3 : H b3 = some (.cells #[.int .u64 y] 28)) : Fv Try.prog (.func (.func 49) #[] ([.pointer (some ⟨b3, 0, none⟩)] : List Value).toArray) [.int .u64 x] H (.bool (decide (x = y))) := by
  refine Fc.of_body (N := 7) Try.func49 rfl (by kernel_rfl) rfl rfl ?_
  intro w0
  refine T.seq ?_
  refine T.region ?_
  refine R.asE rfl (by conv => lhs; whnf) ?_
  refine TL.nil (Post.thnN ?_)
  refine T.seq ?_
  refine T.region ?_
  refine R.mvE rfl (by conv => lhs; whnf) ?_
  refine R.ldH Try.isAgg28 rfl rfl (h3) rfl ?_
  refine R.eql rfl rfl rfl ?_
  refine R.asE rfl (by conv => lhs; whnf) ?_
  refine TL.nil (Post.thnN ?_)
  refine T.ret ?_
  exact fin1 rfl rfl ⟨rfl, rfl⟩


set_option maxHeartbeats 1600000 in
theorem taken1_c (H : Heap) (b3 : Nat) (y x : Int) (hy : U y) (hx : U x) (h3 : H b3 = some (.cells #[.int .u64 y] 28)) : Fv Try.prog (.func (.func 51) #[] ([.pointer (some ⟨b3, 0, none⟩)] : List Value).toArray) [.int .u64 x] H (.bool (takesB y x)) := by
  refine Fc.of_body (N := 7) Try.func51 rfl (by kernel_rfl) rfl rfl ?_
  intro w0
  refine T.seq ?_
  refine T.region ?_
  refine R.asE rfl (by conv => lhs; whnf) ?_
  refine TL.nil (Post.thnN ?_)
  refine T.seq ?_
  refine T.region ?_
  refine R.ldH Try.isAgg28 rfl rfl (h3) rfl ?_
  refine R.mvE rfl (by conv => lhs; whnf) ?_
  refine R.callv rfl rfl rfl (takes_c _ _ _ hy hx) ?_
  refine R.asE rfl (by conv => lhs; whnf) ?_
  refine TL.nil (Post.thnN ?_)
  refine T.ret ?_
  exact fin1 rfl rfl ⟨rfl, rfl⟩


set_option maxHeartbeats 1600000 in
theorem targets1_c (H : Heap) (b3 : Nat) (n a b : Int) (h3 : H b3 = some (.cells #[.int .i64 n] 3)) : Fv Try.prog (.func (.func 58) #[] ([.pointer (some ⟨b3, 0, none⟩)] : List Value).toArray) [.int .i64 a, .int .i64 b] H (.bool (decide (a = n))) := by
  refine Fc.of_body (N := 9) Try.func58 rfl (by kernel_rfl) rfl rfl ?_
  intro w0
  refine T.seq ?_
  refine T.region ?_
  refine R.asE rfl (by conv => lhs; whnf) ?_
  refine TL.nil (Post.thnN ?_)
  refine T.seq ?_
  refine T.region ?_
  refine R.mvE rfl (by conv => lhs; whnf) ?_
  refine R.ldH Try.isAgg3 rfl rfl (h3) rfl ?_
  refine R.eql rfl rfl rfl ?_
  refine R.asE rfl (by conv => lhs; whnf) ?_
  refine TL.nil (Post.thnN ?_)
  refine T.ret ?_
  exact fin1 rfl rfl ⟨rfl, rfl⟩


set_option maxHeartbeats 1600000 in
theorem mentions1_c (H : Heap) (b3 : Nat) (n a b : Int) (h3 : H b3 = some (.cells #[.int .i64 n] 3)) : Fv Try.prog (.func (.func 60) #[] ([.pointer (some ⟨b3, 0, none⟩)] : List Value).toArray) [.int .i64 a, .int .i64 b] H (.bool (decide (a = n) || decide (b = n))) := by
  refine Fc.of_body (N := 14) Try.func60 rfl (by kernel_rfl) rfl rfl ?_
  intro w0
  refine T.seq ?_
  refine T.region ?_
  refine R.asE rfl (by conv => lhs; whnf) ?_
  refine TL.nil (Post.thnN ?_)
  refine T.seq ?_
  refine T.region ?_
  refine R.mvE rfl (by conv => lhs; whnf) ?_
  refine R.ldH Try.isAgg3 rfl rfl (h3) rfl ?_
  refine R.eql rfl rfl rfl ?_
  refine R.mvE rfl (by conv => lhs; whnf) ?_
  refine TL.gsplitD 9 rfl (fun g9 => ?_) (fun g9 => ?_)
  · refine TL.off rfl rfl rfl ?_
    refine TL.off rfl rfl rfl ?_
    refine TL.off rfl rfl rfl ?_
    refine R.pkTE rfl rfl (by conv => lhs; whnf) ?_
    refine R.asE rfl (by conv => lhs; whnf) ?_
    refine TL.nil (Post.thnN ?_)
    refine T.ret ?_
    -- way y
    exact fin1 rfl rfl ⟨rfl, congrArg Value.bool (by simp [g9])⟩
  · refine R.mvE rfl (by conv => lhs; whnf) ?_
    refine R.ldH Try.isAgg3 rfl rfl (h3) rfl ?_
    refine R.eql rfl rfl rfl ?_
    refine R.pkFE rfl rfl (by conv => lhs; whnf) ?_
    refine R.asE rfl (by conv => lhs; whnf) ?_
    refine TL.nil (Post.thnN ?_)
    refine T.ret ?_
    -- way n
    exact fin1 rfl rfl ⟨rfl, congrArg Value.bool (by simp [g9])⟩


set_option maxHeartbeats 1600000 in
theorem self_c (H : Heap) (x : Int) : Fv Try.prog (fnv 53) [.int .u64 x] H (.int .u64 x) := by
  refine Fc.of_body (N := 4) Try.func53 rfl (by kernel_rfl) rfl rfl ?_
  intro w0
  refine T.seq ?_
  refine T.region ?_
  refine R.asE rfl (by conv => lhs; whnf) ?_
  refine TL.nil (Post.thnN ?_)
  refine T.seq ?_
  refine T.region ?_
  refine R.mvE rfl (by conv => lhs; whnf) ?_
  refine R.asE rfl (by conv => lhs; whnf) ?_
  refine TL.nil (Post.thnN ?_)
  refine T.ret ?_
  exact fin1 rfl rfl ⟨rfl, rfl⟩


set_option maxHeartbeats 1600000 in
theorem targets2_c (H : Heap) (x : Int) (hx : U x) : Fv Try.prog (fnv 59) [.int .u64 x] H (.int .i64 (partsI x).2) := by
  refine Fc.of_body (N := 11) Try.func59 rfl (by kernel_rfl) rfl rfl ?_
  intro w0
  refine T.seq ?_
  refine T.region ?_
  refine R.asE rfl (by conv => lhs; whnf) ?_
  refine TL.nil (Post.thnN ?_)
  refine T.seq ?_
  refine T.region ?_
  refine R.mvE rfl (by conv => lhs; whnf) ?_
  refine R.callv rfl rfl rfl (parts_c _ _ hx) ?_
  refine R.mvE rfl (by conv => lhs; whnf) ?_
  refine R.ext rfl rfl rfl ?_
  refine R.ext rfl rfl rfl ?_
  refine R.asE rfl (by conv => lhs; whnf) ?_
  refine R.asE rfl (by conv => lhs; whnf) ?_
  refine TL.nil (Post.thnN ?_)
  refine T.seq ?_
  refine T.region ?_
  refine R.mvE rfl (by conv => lhs; whnf) ?_
  refine R.asE rfl (by conv => lhs; whnf) ?_
  refine TL.nil (Post.thnN ?_)
  refine T.ret ?_
  exact fin1 rfl rfl ⟨rfl, rfl⟩


set_option maxHeartbeats 1600000 in
theorem pairs1_c (H : Heap) (b3 : Nat) (fv : Value) (r : Int → Int → Bool) (x : Int) (hx : U x) (h3 : H b3 = some (.cells #[fv] 66)) (hp : RPred Try.prog fv r H) : Fv Try.prog (.func (.func 84) #[] ([.pointer (some ⟨b3, 0, none⟩)] : List Value).toArray) [.int .u64 x] H (.bool (pairP r x)) := by
  refine Fc.of_body (N := 20) Try.func84 rfl (by kernel_rfl) rfl rfl ?_
  intro w0
  refine T.seq ?_
  refine T.region ?_
  refine R.asE rfl (by conv => lhs; whnf) ?_
  refine TL.nil (Post.thnN ?_)
  refine T.seq ?_
  refine T.region ?_
  refine R.mvE rfl (by conv => lhs; whnf) ?_
  refine R.callv rfl rfl rfl (parts_c _ _ hx) ?_
  refine R.mvE rfl (by conv => lhs; whnf) ?_
  refine R.ext rfl rfl rfl ?_
  refine R.ext rfl rfl rfl ?_
  refine R.asE rfl (by conv => lhs; whnf) ?_
  refine R.asE rfl (by conv => lhs; whnf) ?_
  refine TL.nil (Post.thnN ?_)
  refine T.seq ?_
  refine T.region ?_
  refine R.mvE rfl (by conv => lhs; whnf) ?_
  refine R.callv rfl rfl rfl (kind_c _ _ hx) ?_
  refine R.eql rfl rfl rfl ?_
  refine R.mvE rfl (by conv => lhs; whnf) ?_
  refine TL.gsplitD 14 rfl (fun g14 => ?_) (fun g14 => ?_)
  · refine R.ldH Try.isAgg66 rfl rfl (h3) rfl ?_
    refine R.mvE rfl (by conv => lhs; whnf) ?_
    refine R.mvE rfl (by conv => lhs; whnf) ?_
    refine R.callv rfl rfl rfl (hp _ (HLe.refl _) _ _) ?_
    refine R.pkTE rfl rfl (by conv => lhs; whnf) ?_
    refine R.asE rfl (by conv => lhs; whnf) ?_
    refine TL.nil (Post.thnN ?_)
    refine T.ret ?_
    -- way y
    exact fin1 rfl rfl ⟨rfl, congrArg Value.bool (by simp [pairP, g14])⟩
  · refine TL.off rfl rfl rfl ?_
    refine TL.off rfl rfl rfl ?_
    refine TL.off rfl rfl rfl ?_
    refine TL.off rfl rfl rfl ?_
    refine R.pkFE rfl rfl (by conv => lhs; whnf) ?_
    refine R.asE rfl (by conv => lhs; whnf) ?_
    refine TL.nil (Post.thnN ?_)
    refine T.ret ?_
    -- way n
    exact fin1 rfl rfl ⟨rfl, congrArg Value.bool (by simp [pairP, g14])⟩


set_option maxHeartbeats 1600000 in
theorem pairs_c (H : Heap) (v fv : Value) (xs : List Int) (r : Int → Int → Bool) (hc : fv.cells = #[fv]) (hr : RdS (intE .u64) H v xs) (hU : Us xs) (hp : RPred Try.prog fv r H) : Fp Try.prog (fnv 57) [v, fv] H (fun v' H' => ∃ lb, v' = .func (.func 82) #[] lb ∧ Iter Try.prog v' YU H' (someL xs (pairP r))) := by
  refine Fc.of_body (N := 8) Try.func57 rfl (by kernel_rfl) rfl rfl ?_
  intro w0
  have hcf := hc
  obtain ⟨A, c, rfl, hc1, hc2, hr⟩ := hr.shape
  refine T.seq ?_
  refine T.region ?_
  refine R.box (v := fv) rfl rfl ?_
  intro b3
  refine R.asE rfl (by conv => lhs; whnf) ?_
  refine TL.nil (Post.thnN ?_)
  refine T.seq ?_
  refine T.shut .hd ?_
  intro H3 s3 q3
  have h3 : H3 b3 = some (.cells #[fv] 66) := by rw [← hcf]; exact shut1 q3
  refine T.region ?_
  refine R.mvE rfl (by conv => lhs; whnf) ?_
  refine R.mkf (cs := [_]) rfl rfl ?_
  refine R.callp rfl rfl rfl (some_c _ _ _ _ _ rfl (hr.mono s3) hU (fun H' hl x hx => pairs1_c H' b3 fv r x hx (hl _ _ h3) (fun H2 h2 => hp H2 (s3.trans (hl.trans h2))))) ?_
  intro v7 H7 s7 q7
  refine R.asE rfl (by conv => lhs; whnf) ?_
  refine TL.nil (Post.thnN ?_)
  refine T.ret ?_
  exact fin1 rfl rfl ⟨rfl, q7⟩


set_option maxHeartbeats 1600000 in
theorem gatherU22_c (H : Heap) (gf : Nat) (lb : Array Value) (fv : Value) (xs : List Int) (f : Int → Int) (hen : Enters Try.prog gf) (hc : fv.cells = #[fv]) (hl : xs.length ≤ 1000) (hU : Us xs) (hit : Iter Try.prog (.func (.func gf) #[] lb) YU H xs) (hf : FPred Try.prog fv .u64 f H) : Fp Try.prog (fnv 50) [.func (.func gf) #[] lb, fv] H (fun v' H' => RdS (intE .u64) H' v' (xs.map f)) := by
  refine Fc.of_body (N := 16) Try.func50 rfl (by kernel_rfl) rfl rfl ?_
  intro w0
  have hcf := hc
  refine T.seq ?_
  refine T.region ?_
  refine R.box (v := fv) rfl rfl ?_
  intro b3
  refine R.asE rfl (by conv => lhs; whnf) ?_
  refine TL.nil (Post.thnN ?_)
  refine T.seq ?_
  refine T.region ?_
  refine R.alloc Try.zeroValue22 rfl ?_
  intro b5
  refine TL.nil (Post.thnN ?_)
  refine T.seq ?_
  refine T.seq ?_
  refine T.shut (.tl .hd) ?_
  intro H3 s3 q3
  have h3 : H3 b3 = some (.cells #[fv] 63) := by rw [← hcf]; exact shut1 q3
  refine T.nilc ?_
  refine T.region ?_
  refine R.mvE rfl (by conv => lhs; whnf) ?_
  refine TL.nil (Post.thnN ?_)
  refine T.block ?_
  refine T.rangeFunc rfl rfl hen (hit.mono s3) (fun _ _ _ h => by subst h; rfl) rfl (fun pre H' L' => ∃ v c, L' = [c, [(b5, .cells #[v] 22)]] ∧ OwnS (intE .u64) 28 H' v (pre.map f) c) (fun c pre H' L' => False) (fun pre H H' L hle ⟨v, c, h1, h2⟩ => ⟨v, c, h1, h2.mono hle⟩) (fun _ _ _ _ _ _ h => h) ?_ ?_ ?_ ?_
  · exact ⟨_, _, rfl, OwnS.nil⟩
  · intro l0 r0 w0 pre y vs Hr0 Lr0 sr0 hp0 hI0 hY0
    obtain ⟨v, c, rfl, ho⟩ := hI0
    obtain rfl := hY0
    have hyU := hU y (hp0.subset (by simp))
    have hpl := hp0.length_le
    simp at hpl
    refine T.region ?_
    refine R.asE rfl (by conv => lhs; whnf) ?_
    refine TL.nil ?_
    refine onlyN.mk ?_
    refine T.block ?_
    refine T.draw Try_mixed (by kernel_rfl) ?_
    refine Plan.v 1 [0, 2, 3, 4, 5, 6] (by kernel_rfl) (by kernel_rfl) (by kernel_rfl) (by kernel_rfl) rfl (fun _ _ h_ => R.ldH Try.isAgg63 rfl rfl (sr0 _ _ h3) rfl (TL.nil h_)) ?_
    refine Plan.v 2 [0, 3, 4, 5, 6] (by kernel_rfl) (by kernel_rfl) (by kernel_rfl) (by kernel_rfl) rfl (fun _ _ h_ => R.mvE rfl (by conv => lhs; whnf) (TL.nil h_)) ?_
    refine Plan.v 3 [0, 4, 5, 6] (by kernel_rfl) (by kernel_rfl) (by kernel_rfl) (by kernel_rfl) rfl (fun _ _ h_ => R.callv rfl rfl rfl (hf _ (s3.trans (sr0.trans (HLe.refl _))) y hyU) (TL.nil h_)) ?_
    refine Plan.s2 0 4 [4, 5, 6] [0, 5, 6] (by kernel_rfl) (by kernel_rfl) (by kernel_rfl) rfl rfl ?_ ?_
    · refine R.ld Try.isAgg22 rfl rfl (by repeat (first | exact .hd | refine .tl ?_)) rfl ?_
      refine TL.nil (Plan.e1 (HLe.refl _) ?_)
      refine Plan.s1 4 [5, 6] (by kernel_rfl) (by kernel_rfl) rfl ?_
      refine R.bs rfl (run_buildSlice1 Try.underlying22 Try.sizeOf28 Try.zeroValue28 rfl rfl) ?_
      intro b13
      refine TL.nil (Plan.e1 (HLe.refl _) ?_)
      refine Plan.s1 5 [6] (by kernel_rfl) (by kernel_rfl) rfl ?_
      refine R.app (ys := [f y]) Try_ty22 rfl rfl rfl ho (.tl .hd) (Src.lit (vs := [.int .u64 (f y)]) .hd) ⟨[.int .u64 (f y)], [], rfl, rfl, rfl⟩ (by simp; omega) (by simp; omega) ?_
      intro v14 c14 w14
      refine TL.nil (Plan.e1 (HLe.refl _) ?_)
      refine Plan.s1 6 [] (by kernel_rfl) (by kernel_rfl) rfl ?_
      refine R.st Try.sizeOf22 rfl rfl rfl (by obtain ⟨_, _, e, _⟩ := w14.shape; subst e; rfl) (by first | exact .hd | exact .tl .hd | exact .tl (.tl .hd) | exact .tl (.tl (.tl .hd)) | exact .tl (.tl (.tl (.tl .hd))) | exact .tl (.tl (.tl (.tl (.tl .hd)))) | exact .tl (.tl (.tl (.tl (.tl (.tl .hd))))) | exact .tl (.tl (.tl (.tl (.tl (.tl (.tl .hd)))))) | exact .tl (.tl (.tl (.tl (.tl (.tl (.tl (.tl .hd))))))) | exact .tl (.tl (.tl (.tl (.tl (.tl (.tl (.tl (.tl .hd))))))))) ?_
      refine TL.del (.tl .hd) ?_
      refine TL.nil (Plan.e0 (HLe.refl _) ?_)
      refine Plan.done (Post.blkN ?_)
      refine id ?_
      -- way b0
      exact ⟨v14, c14, rfl, by rw [List.map_append]; exact w14⟩
    · refine R.bs rfl (run_buildSlice1 Try.underlying22 Try.sizeOf28 Try.zeroValue28 rfl rfl) ?_
      intro b13
      refine TL.nil (Plan.e1 (HLe.refl _) ?_)
      refine Plan.s1 0 [5, 6] (by kernel_rfl) (by kernel_rfl) rfl ?_
      refine R.ld Try.isAgg22 rfl rfl (by repeat (first | exact .hd | refine .tl ?_)) rfl ?_
      refine TL.nil (Plan.e1 (HLe.refl _) ?_)
      refine Plan.s1 5 [6] (by kernel_rfl) (by kernel_rfl) rfl ?_
      refine R.app (ys := [f y]) Try_ty22 rfl rfl rfl ho (.tl .hd) (Src.lit (vs := [.int .u64 (f y)]) .hd) ⟨[.int .u64 (f y)], [], rfl, rfl, rfl⟩ (by simp; omega) (by simp; omega) ?_
      intro v14 c14 w14
      refine TL.nil (Plan.e1 (HLe.refl _) ?_)
      refine Plan.s1 6 [] (by kernel_rfl) (by kernel_rfl) rfl ?_
      refine R.st Try.sizeOf22 rfl rfl rfl (by obtain ⟨_, _, e, _⟩ := w14.shape; subst e; rfl) (by first | exact .hd | exact .tl .hd | exact .tl (.tl .hd) | exact .tl (.tl (.tl .hd)) | exact .tl (.tl (.tl (.tl .hd))) | exact .tl (.tl (.tl (.tl (.tl .hd)))) | exact .tl (.tl (.tl (.tl (.tl (.tl .hd))))) | exact .tl (.tl (.tl (.tl (.tl (.tl (.tl .hd)))))) | exact .tl (.tl (.tl (.tl (.tl (.tl (.tl (.tl .hd))))))) | exact .tl (.tl (.tl (.tl (.tl (.tl (.tl (.tl (.tl .hd))))))))) ?_
      refine TL.del (.tl .hd) ?_
      refine TL.nil (Plan.e0 (HLe.refl _) ?_)
      refine Plan.done (Post.blkN ?_)
      refine id ?_
      -- way b1
      exact ⟨v14, c14, rfl, by rw [List.map_append]; exact w14⟩
  · intro D0 Hr0 Lr0 sr0 hI0
    obtain ⟨v, c, rfl, ho⟩ := hI0
    refine id (Post.blkN ?_)
    refine id (Post.thnN ?_)
    refine T.seq ?_
    refine T.shut .hd ?_
    intro H15 s15 q15
    have hw := ho.read s15 q15
    refine T.region ?_
    refine R.ld Try.isAgg22 rfl rfl (by repeat (first | exact .hd | refine .tl ?_)) rfl ?_
    refine R.asE rfl (by conv => lhs; whnf) ?_
    refine TL.nil (Post.thnN ?_)
    refine T.ret ?_
    -- way d
    exact fin1 rfl rfl ⟨rfl, hw⟩
  · intro D0 c0 pre y Hr0 Lr0 sr0 hp0 hI0
    exact hI0.elim


set_option maxHeartbeats 1600000 in
theorem gatherI23_c (H : Heap) (gf : Nat) (lb : Array Value) (fv : Value) (xs : List Int) (f : Int → Int) (hen : Enters Try.prog gf) (hc : fv.cells = #[fv]) (hl : xs.length ≤ 1000) (hU : Us xs) (hit : Iter Try.prog (.func (.func gf) #[] lb) YU H xs) (hf : FPred Try.prog fv .i64 f H) : Fp Try.prog (fnv 56) [.func (.func gf) #[] lb, fv] H (fun v' H' => RdS (intE .i64) H' v' (xs.map f)) := by
  refine Fc.of_body (N := 16) Try.func56 rfl (by kernel_rfl) rfl rfl ?_
  intro w0
  have hcf := hc
  refine T.seq ?_
  refine T.region ?_
  refine R.box (v := fv) rfl rfl ?_
  intro b3
  refine R.asE rfl (by conv => lhs; whnf) ?_
  refine TL.nil (Post.thnN ?_)
  refine T.seq ?_
  refine T.region ?_
  refine R.alloc Try.zeroValue23 rfl ?_
  intro b5
  refine TL.nil (Post.thnN ?_)
  refine T.seq ?_
  refine T.seq ?_
  refine T.shut (.tl .hd) ?_
  intro H3 s3 q3
  have h3 : H3 b3 = some (.cells #[fv] 51) := by rw [← hcf]; exact shut1 q3
  refine T.nilc ?_
  refine T.region ?_
  refine R.mvE rfl (by conv => lhs; whnf) ?_
  refine TL.nil (Post.thnN ?_)
  refine T.block ?_
  refine T.rangeFunc rfl rfl hen (hit.mono s3) (fun _ _ _ h => by subst h; rfl) rfl (fun pre H' L' => ∃ v c, L' = [c, [(b5, .cells #[v] 23)]] ∧ OwnS (intE .i64) 3 H' v (pre.map f) c) (fun c pre H' L' => False) (fun pre H H' L hle ⟨v, c, h1, h2⟩ => ⟨v, c, h1, h2.mono hle⟩) (fun _ _ _ _ _ _ h => h) ?_ ?_ ?_ ?_
  · exact ⟨_, _, rfl, OwnS.nil⟩
  · intro l0 r0 w0 pre y vs Hr0 Lr0 sr0 hp0 hI0 hY0
    obtain ⟨v, c, rfl, ho⟩ := hI0
    obtain rfl := hY0
    have hyU := hU y (hp0.subset (by simp))
    have hpl := hp0.length_le
    simp at hpl
    refine T.region ?_
    refine R.asE rfl (by conv => lhs; whnf) ?_
    refine TL.nil ?_
    refine onlyN.mk ?_
    refine T.block ?_
    refine T.draw Try_mixed (by kernel_rfl) ?_
    refine Plan.v 1 [0, 2, 3, 4, 5, 6] (by kernel_rfl) (by kernel_rfl) (by kernel_rfl) (by kernel_rfl) rfl (fun _ _ h_ => R.ldH Try.isAgg51 rfl rfl (sr0 _ _ h3) rfl (TL.nil h_)) ?_
    refine Plan.v 2 [0, 3, 4, 5, 6] (by kernel_rfl) (by kernel_rfl) (by kernel_rfl) (by kernel_rfl) rfl (fun _ _ h_ => R.mvE rfl (by conv => lhs; whnf) (TL.nil h_)) ?_
    refine Plan.v 3 [0, 4, 5, 6] (by kernel_rfl) (by kernel_rfl) (by kernel_rfl) (by kernel_rfl) rfl (fun _ _ h_ => R.callv rfl rfl rfl (hf _ (s3.trans (sr0.trans (HLe.refl _))) y hyU) (TL.nil h_)) ?_
    refine Plan.s2 0 4 [4, 5, 6] [0, 5, 6] (by kernel_rfl) (by kernel_rfl) (by kernel_rfl) rfl rfl ?_ ?_
    · refine R.ld Try.isAgg23 rfl rfl (by repeat (first | exact .hd | refine .tl ?_)) rfl ?_
      refine TL.nil (Plan.e1 (HLe.refl _) ?_)
      refine Plan.s1 4 [5, 6] (by kernel_rfl) (by kernel_rfl) rfl ?_
      refine R.bs rfl (run_buildSlice1 Try.underlying23 Try.sizeOf3 Try.zeroValue3 rfl rfl) ?_
      intro b13
      refine TL.nil (Plan.e1 (HLe.refl _) ?_)
      refine Plan.s1 5 [6] (by kernel_rfl) (by kernel_rfl) rfl ?_
      refine R.app (ys := [f y]) Try_ty23 rfl rfl rfl ho (.tl .hd) (Src.lit (vs := [.int .i64 (f y)]) .hd) ⟨[.int .i64 (f y)], [], rfl, rfl, rfl⟩ (by simp; omega) (by simp; omega) ?_
      intro v14 c14 w14
      refine TL.nil (Plan.e1 (HLe.refl _) ?_)
      refine Plan.s1 6 [] (by kernel_rfl) (by kernel_rfl) rfl ?_
      refine R.st Try.sizeOf23 rfl rfl rfl (by obtain ⟨_, _, e, _⟩ := w14.shape; subst e; rfl) (by first | exact .hd | exact .tl .hd | exact .tl (.tl .hd) | exact .tl (.tl (.tl .hd)) | exact .tl (.tl (.tl (.tl .hd))) | exact .tl (.tl (.tl (.tl (.tl .hd)))) | exact .tl (.tl (.tl (.tl (.tl (.tl .hd))))) | exact .tl (.tl (.tl (.tl (.tl (.tl (.tl .hd)))))) | exact .tl (.tl (.tl (.tl (.tl (.tl (.tl (.tl .hd))))))) | exact .tl (.tl (.tl (.tl (.tl (.tl (.tl (.tl (.tl .hd))))))))) ?_
      refine TL.del (.tl .hd) ?_
      refine TL.nil (Plan.e0 (HLe.refl _) ?_)
      refine Plan.done (Post.blkN ?_)
      refine id ?_
      -- way b0
      exact ⟨v14, c14, rfl, by rw [List.map_append]; exact w14⟩
    · refine R.bs rfl (run_buildSlice1 Try.underlying23 Try.sizeOf3 Try.zeroValue3 rfl rfl) ?_
      intro b13
      refine TL.nil (Plan.e1 (HLe.refl _) ?_)
      refine Plan.s1 0 [5, 6] (by kernel_rfl) (by kernel_rfl) rfl ?_
      refine R.ld Try.isAgg23 rfl rfl (by repeat (first | exact .hd | refine .tl ?_)) rfl ?_
      refine TL.nil (Plan.e1 (HLe.refl _) ?_)
      refine Plan.s1 5 [6] (by kernel_rfl) (by kernel_rfl) rfl ?_
      refine R.app (ys := [f y]) Try_ty23 rfl rfl rfl ho (.tl .hd) (Src.lit (vs := [.int .i64 (f y)]) .hd) ⟨[.int .i64 (f y)], [], rfl, rfl, rfl⟩ (by simp; omega) (by simp; omega) ?_
      intro v14 c14 w14
      refine TL.nil (Plan.e1 (HLe.refl _) ?_)
      refine Plan.s1 6 [] (by kernel_rfl) (by kernel_rfl) rfl ?_
      refine R.st Try.sizeOf23 rfl rfl rfl (by obtain ⟨_, _, e, _⟩ := w14.shape; subst e; rfl) (by first | exact .hd | exact .tl .hd | exact .tl (.tl .hd) | exact .tl (.tl (.tl .hd)) | exact .tl (.tl (.tl (.tl .hd))) | exact .tl (.tl (.tl (.tl (.tl .hd)))) | exact .tl (.tl (.tl (.tl (.tl (.tl .hd))))) | exact .tl (.tl (.tl (.tl (.tl (.tl (.tl .hd)))))) | exact .tl (.tl (.tl (.tl (.tl (.tl (.tl (.tl .hd))))))) | exact .tl (.tl (.tl (.tl (.tl (.tl (.tl (.tl (.tl .hd))))))))) ?_
      refine TL.del (.tl .hd) ?_
      refine TL.nil (Plan.e0 (HLe.refl _) ?_)
      refine Plan.done (Post.blkN ?_)
      refine id ?_
      -- way b1
      exact ⟨v14, c14, rfl, by rw [List.map_append]; exact w14⟩
  · intro D0 Hr0 Lr0 sr0 hI0
    obtain ⟨v, c, rfl, ho⟩ := hI0
    refine id (Post.blkN ?_)
    refine id (Post.thnN ?_)
    refine T.seq ?_
    refine T.shut .hd ?_
    intro H15 s15 q15
    have hw := ho.read s15 q15
    refine T.region ?_
    refine R.ld Try.isAgg23 rfl rfl (by repeat (first | exact .hd | refine .tl ?_)) rfl ?_
    refine R.asE rfl (by conv => lhs; whnf) ?_
    refine TL.nil (Post.thnN ?_)
    refine T.ret ?_
    -- way d
    exact fin1 rfl rfl ⟨rfl, hw⟩
  · intro D0 c0 pre y Hr0 Lr0 sr0 hp0 hI0
    exact hI0.elim

end Go.SX
