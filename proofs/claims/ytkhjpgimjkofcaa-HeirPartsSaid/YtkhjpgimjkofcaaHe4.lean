/- the reference of heir: far, Less, Way, Order, Owner, Heirs. -/
import Derived.Test.YtkhjpgimjkofcaaHe1
import Derived.Test.YtkhjpgimjkofcaaWj
set_option linter.unusedVariables false
set_option linter.unusedSimpArgs false
namespace Go.SX
open Go Go.Proofs

set_option maxHeartbeats 1600000 in
theorem far_c (H : Heap) (v : Value) (xs : List Lk) (a : Int) (hr : RdS pairE H v xs) (hl : xs.length ≤ 1000) (z : Int) : Fv Try.prog (fnv 65) [v, .int .i64 a, .int .i64 z] H (.int .i64 (farL xs a z)) := by
  refine Fc.of_body (N := 32) Try.func65 rfl (by kernel_rfl) rfl rfl ?_
  intro w0
  obtain ⟨A, c, rfl, hc1, hc2, hr⟩ := hr.shape
  have hwl := wavesL_len false xs a
  refine T.seq ?_
  refine T.region ?_
  refine R.asE rfl (by conv => lhs; whnf) ?_
  refine TL.nil (Post.thnN ?_)
  refine T.seq ?_
  refine T.seq ?_
  refine T.region ?_
  refine R.mvE rfl (by conv => lhs; whnf) ?_
  refine R.mvE rfl (by conv => lhs; whnf) ?_
  refine R.callp rfl rfl rfl (waves_c _ _ xs a false hr hl) ?_
  intro v13 H13 s13 q13
  obtain ⟨A13, c13, rfl, m13, n13, g13⟩ := q13.shape
  refine R.len Try.underlying52 rfl rfl ?_
  refine R.mvE rfl (by conv => lhs; whnf) ?_
  refine TL.nil (Post.thnN ?_)
  refine T.block ?_
  refine T.loop (ι := Nat) (fun k H' L' ds' => k ≤ (wavesL false xs a).length ∧ L' = [] ∧ ds' = [] ∧ ∀ (j : Nat) w, j < k → (wavesL false xs a)[j]? = some w → w.any (fun y => decide (y = z)) = false) (fun k => [(2, .int .i64 z), (13, .slice A13 (wavesL false xs a).length c13), (14, .int .i64 (wavesL false xs a).length), (15, .int .i64 k)]) (fun k => (wavesL false xs a).length - k) (0) ?_ ?_ ?_
  · exact ⟨Nat.zero_le _, rfl, rfl, fun j w h => absurd h (Nat.not_lt_zero _)⟩
  · exact ⟨rfl, rfl, rfl, rfl, trivial⟩
  · intro k σ0 H_0 L_0 ds_0 s_0 hI_0
    obtain ⟨hk, rfl, rfl, hw⟩ := hI_0
    refine T.seq ?_
    refine T.region ?_
    refine R.lss rfl rfl rfl ?_
    refine TL.nil (Post.thnN ?_)
    refine T.seq ?_
    refine T.condD rfl (fun c16 => ?_) (fun c16 => ?_)
    · have hlt : k < (wavesL false xs a).length := by omega
      obtain ⟨w, hy⟩ := getk hlt
      refine T.skip (Post.thnN ?_)
      refine T.seq ?_
      refine T.block ?_
      refine T.seq ?_
      refine T.region ?_
      refine R.mvE rfl (by conv => lhs; whnf) ?_
      obtain ⟨b18, o18, i18, e18⟩ := (g13.mono s_0).elem (hy)
      refine R.ixp Try.underlying52 Try.sizeOf23 rfl rfl rfl (by omega) i18 ?_
      obtain ⟨v19, k19, r19⟩ := (e18).sl
      obtain ⟨A19, c19, rfl, m19, n19, r19⟩ := r19.shape
      refine R.ldC Try.isAgg23 rfl rfl k19 ?_
      refine R.asE rfl (by conv => lhs; whnf) ?_
      refine R.asE rfl (by conv => lhs; whnf) ?_
      refine TL.nil (Post.thnN ?_)
      refine T.seq ?_
      refine T.region ?_
      refine R.mvE rfl (by conv => lhs; whnf) ?_
      refine R.len Try.underlying23 rfl rfl ?_
      refine R.mvE rfl (by conv => lhs; whnf) ?_
      refine TL.nil (Post.thnN ?_)
      refine T.block ?_
      refine T.loop (ι := Nat) (fun i H' L' ds' => i ≤ w.length ∧ L' = [] ∧ ds' = [] ∧ (w.take i).any (fun y => decide (y = z)) = false) (fun i => [(2, .int .i64 z), (7, .int .i64 k), (13, .slice A13 (wavesL false xs a).length c13), (14, .int .i64 (wavesL false xs a).length), (15, .int .i64 k), (20, .slice A19 w.length c19), (21, .int .i64 w.length), (22, .int .i64 i)]) (fun i => w.length - i) (0) ?_ ?_ ?_
      · exact ⟨Nat.zero_le _, rfl, rfl, rfl⟩
      · exact ⟨rfl, rfl, rfl, rfl, rfl, rfl, rfl, rfl, trivial⟩
      · intro i σ1 H_1 L_1 ds_1 s_1 hI_1
        obtain ⟨hi, rfl, rfl, hn⟩ := hI_1
        refine T.seq ?_
        refine T.region ?_
        refine R.lss rfl rfl rfl ?_
        refine TL.nil (Post.thnN ?_)
        refine T.seq ?_
        refine T.condD rfl (fun c23 => ?_) (fun c23 => ?_)
        · have hlt2 : i < w.length := by omega
          obtain ⟨y, hz⟩ := getk hlt2
          refine T.skip (Post.thnN ?_)
          refine T.seq ?_
          refine T.block ?_
          refine T.seq ?_
          refine T.region ?_
          obtain ⟨b24, o24, i24, e24⟩ := (r19.mono s_1).elem (hz)
          refine R.ixp Try.underlying23 Try.sizeOf3 rfl rfl rfl (by omega) i24 ?_
          refine R.ldC Try.isAgg3 rfl rfl (e24).int ?_
          refine R.asE rfl (by conv => lhs; whnf) ?_
          refine TL.nil (Post.thnN ?_)
          refine T.seq ?_
          refine T.region ?_
          refine R.mvE rfl (by conv => lhs; whnf) ?_
          refine R.mvE rfl (by conv => lhs; whnf) ?_
          refine R.eql rfl rfl rfl ?_
          refine TL.nil (Post.thnN ?_)
          refine T.condD rfl (fun c28 => ?_) (fun c28 => ?_)
          · refine T.seq ?_
            refine T.region ?_
            refine R.mvE rfl (by conv => lhs; whnf) ?_
            refine R.asE rfl (by conv => lhs; whnf) ?_
            refine TL.nil (Post.thnN ?_)
            refine T.ret (Post.blkR (Post.thnR (Post.thnR (Post.blkR (Post.blkR (Post.thnR (Post.thnR (Post.blkR (Post.thnR ?_)))))))))
            -- way yyy
            exact fin1 rfl rfl ⟨rfl, congrArg (Value.int .i64) (fidxI_at hy (any_mem.2 (c28 ▸ List.mem_of_getElem? hz)) hw).symm⟩
          · refine T.skip (Post.blkN ?_)
            refine id (Post.thnN ?_)
            refine T.region ?_
            refine R.addI rfl rfl rfl (by omega) ?_
            refine R.mvE rfl (by conv => lhs; whnf) ?_
            refine TL.nil (Post.thnN ?_)
            -- round's end, way yyn
            exact ⟨i + 1, s_1, ⟨by omega, rfl, rfl, by rw [take_snoc _ _ _ hz, List.any_append, hn]; simp [c28]⟩, by omega, ⟨rfl, rfl, rfl, rfl, rfl, rfl, rfl, rfl, trivial⟩⟩
        · refine T.exit (Post.thnE (Post.thnE (Post.blkX ?_)))
          refine id (Post.blkN ?_)
          refine id (Post.thnN ?_)
          refine T.region ?_
          refine R.addI rfl rfl rfl (by omega) ?_
          refine R.mvE rfl (by conv => lhs; whnf) ?_
          refine TL.nil (Post.thnN ?_)
          -- round's end, way yn
          have hix : i = w.length := by omega
          rw [hix, List.take_length] at hn
          exact ⟨k + 1, s_0.trans s_1, ⟨by omega, rfl, rfl, fun j w' h1 h2 => if e : j = k then by subst e; rw [hy] at h2; injection h2 with h2; subst h2; exact hn else hw j w' (by omega) h2⟩, by omega, ⟨rfl, rfl, rfl, rfl, trivial⟩⟩
    · refine T.exit (Post.thnE (Post.thnE (Post.blkX ?_)))
      refine id (Post.thnN ?_)
      refine T.seq ?_
      refine T.region ?_
      refine R.asE rfl (by conv => lhs; whnf) ?_
      refine TL.nil (Post.thnN ?_)
      refine T.ret ?_
      -- way n
      exact fin1 rfl rfl ⟨rfl, congrArg (Value.int .i64) (fidxI_none (fun j w h => hw j w (by have := (List.getElem?_eq_some_iff.1 h).1; omega) h)).symm⟩


set_option maxHeartbeats 1600000 in
theorem less18_c (H : Heap) (v u : Value) (xs ys : List Int) (hr : RdS (intE .i64) H v xs) (hr2 : RdS (intE .i64) H u ys) : Fv Try.prog (fnv 62) [v, u] H (.bool (lessB xs ys)) := by
  refine Fc.of_body (N := 37) Try.func62 rfl (by kernel_rfl) rfl rfl ?_
  intro w0
  obtain ⟨A, c, rfl, hc1, hc2, hr⟩ := hr.shape
  obtain ⟨A2, c2, rfl, hc3, hc4, hr2⟩ := hr2.shape
  refine T.seq ?_
  refine T.region ?_
  refine R.asE rfl (by conv => lhs; whnf) ?_
  refine TL.nil (Post.thnN ?_)
  refine T.seq ?_
  refine T.seq ?_
  refine T.region ?_
  refine R.mvE rfl (by conv => lhs; whnf) ?_
  refine R.len Try.underlying23 rfl rfl ?_
  refine R.mvE rfl (by conv => lhs; whnf) ?_
  refine R.len Try.underlying23 rfl rfl ?_
  refine R.neq rfl rfl rfl ?_
  refine TL.nil (Post.thnN ?_)
  refine T.condD rfl (fun c11 => ?_) (fun c11 => ?_)
  · have hne : xs.length ≠ ys.length := fun e => c11 (congrArg Int.ofNat e)
    refine T.seq ?_
    refine T.region ?_
    refine R.mvE rfl (by conv => lhs; whnf) ?_
    refine R.len Try.underlying23 rfl rfl ?_
    refine R.mvE rfl (by conv => lhs; whnf) ?_
    refine R.len Try.underlying23 rfl rfl ?_
    refine R.lss rfl rfl rfl ?_
    refine R.asE rfl (by conv => lhs; whnf) ?_
    refine TL.nil (Post.thnN ?_)
    refine T.ret (Post.thnR ?_)
    -- way y
    exact fin1 rfl rfl ⟨rfl, congrArg Value.bool (by unfold lessB; rw [if_neg hne]; exact decide_eq_decide.2 (by omega))⟩
  · have hee : xs.length = ys.length := by omega
    refine T.skip (Post.thnN ?_)
    refine T.seq ?_
    refine T.seq ?_
    refine T.region ?_
    refine R.mvE rfl (by conv => lhs; whnf) ?_
    refine R.len Try.underlying23 rfl rfl ?_
    refine R.mvE rfl (by conv => lhs; whnf) ?_
    refine TL.nil (Post.thnN ?_)
    refine T.block ?_
    refine T.loop (ι := Nat) (fun k H' L' ds' => k ≤ xs.length ∧ L' = [] ∧ ds' = [] ∧ xs.take k = ys.take k) (fun k => [(1, .slice A2 ys.length c2), (17, .slice A xs.length c), (18, .int .i64 xs.length), (19, .int .i64 k)]) (fun k => xs.length - k) (0) ?_ ?_ ?_
    · exact ⟨Nat.zero_le _, rfl, rfl, rfl⟩
    · exact ⟨rfl, rfl, rfl, rfl, trivial⟩
    · intro k σ0 H_0 L_0 ds_0 s_0 hI_0
      obtain ⟨hk, rfl, rfl, hw⟩ := hI_0
      refine T.seq ?_
      refine T.region ?_
      refine R.lss rfl rfl rfl ?_
      refine TL.nil (Post.thnN ?_)
      refine T.seq ?_
      refine T.condD rfl (fun c20 => ?_) (fun c20 => ?_)
      · have hlt : k < xs.length := by omega
        obtain ⟨p, hx⟩ := getk hlt
        obtain ⟨q, hy⟩ := getk (xs := ys) (k := k) (by omega)
        refine T.skip (Post.thnN ?_)
        refine T.seq ?_
        refine T.block ?_
        refine T.seq ?_
        refine T.region ?_
        refine R.mvE rfl (by conv => lhs; whnf) ?_
        obtain ⟨b22, o22, i22, e22⟩ := (hr.mono s_0).elem (hx)
        refine R.ixp Try.underlying23 Try.sizeOf3 rfl rfl rfl (by omega) i22 ?_
        refine R.ldC Try.isAgg3 rfl rfl (e22).int ?_
        refine R.asE rfl (by conv => lhs; whnf) ?_
        refine R.asE rfl (by conv => lhs; whnf) ?_
        refine TL.nil (Post.thnN ?_)
        refine T.seq ?_
        refine T.region ?_
        refine R.mvE rfl (by conv => lhs; whnf) ?_
        refine R.mvE rfl (by conv => lhs; whnf) ?_
        refine R.mvE rfl (by conv => lhs; whnf) ?_
        obtain ⟨b27, o27, i27, e27⟩ := (hr2.mono s_0).elem (hy)
        refine R.ixp Try.underlying23 Try.sizeOf3 rfl rfl rfl (by omega) i27 ?_
        refine R.ldC Try.isAgg3 rfl rfl (e27).int ?_
        refine R.neq rfl rfl rfl ?_
        refine TL.nil (Post.thnN ?_)
        refine T.condD rfl (fun c29 => ?_) (fun c29 => ?_)
        · refine T.seq ?_
          refine T.region ?_
          refine R.mvE rfl (by conv => lhs; whnf) ?_
          refine R.mvE rfl (by conv => lhs; whnf) ?_
          refine R.mvE rfl (by conv => lhs; whnf) ?_
          obtain ⟨b33, o33, i33, e33⟩ := (hr2.mono s_0).elem (hy)
          refine R.ixp Try.underlying23 Try.sizeOf3 rfl rfl rfl (by omega) i33 ?_
          refine R.ldC Try.isAgg3 rfl rfl (e33).int ?_
          refine R.lss rfl rfl rfl ?_
          refine R.asE rfl (by conv => lhs; whnf) ?_
          refine TL.nil (Post.thnN ?_)
          refine T.ret (Post.blkR (Post.thnR (Post.thnR (Post.blkR (Post.thnR ?_)))))
          -- way nyy
          exact fin1 rfl rfl ⟨rfl, congrArg Value.bool (by unfold lessB; rw [if_pos hee, lexB_at hw hx hy c29])⟩
        · refine T.skip (Post.blkN ?_)
          refine id (Post.thnN ?_)
          refine T.region ?_
          refine R.addI rfl rfl rfl (by omega) ?_
          refine R.mvE rfl (by conv => lhs; whnf) ?_
          refine TL.nil (Post.thnN ?_)
          -- round's end, way nyn
          exact ⟨k + 1, s_0, ⟨by omega, rfl, rfl, take_eq_of hw hx (by rw [hy]; exact congrArg some (Decidable.of_not_not c29).symm)⟩, by omega, ⟨rfl, rfl, rfl, rfl, trivial⟩⟩
      · refine T.exit (Post.thnE (Post.thnE (Post.blkX ?_)))
        refine id (Post.thnN ?_)
        refine T.seq ?_
        refine T.region ?_
        refine R.asE rfl (by conv => lhs; whnf) ?_
        refine TL.nil (Post.thnN ?_)
        refine T.ret ?_
        -- way nn
        have hkx : k = xs.length := by omega
        have e1 : xs = ys := by
          rw [hkx, List.take_length, hee, List.take_length] at hw; exact hw
        exact fin1 rfl rfl ⟨rfl, congrArg Value.bool (by rw [e1]; exact (lessB_irr _).symm)⟩


set_option maxHeartbeats 1600000 in
theorem way18_c (H : Heap) (v : Value) (xs : List Lk) (a : Int) (hr : RdS pairE H v xs) (hl : xs.length ≤ 1000) (z : Int) : Fp Try.prog (fnv 22) [v, .int .i64 a, .int .i64 z] H (fun v' H' => RdS (intE .i64) H' v' (wayR xs a z) ∧ (wayR xs a z = [] → v' = .slice none 0 0)) := by
  refine Fc.of_body (N := 47) Try.func22 rfl (by kernel_rfl) rfl rfl ?_
  intro w0
  obtain ⟨A, c, rfl, hc1, hc2, hr⟩ := hr.shape
  have hfl := far_le xs a z
  refine T.seq ?_
  refine T.region ?_
  refine R.asE rfl (by conv => lhs; whnf) ?_
  refine TL.nil (Post.thnN ?_)
  refine T.seq ?_
  refine T.region ?_
  refine R.mvE rfl (by conv => lhs; whnf) ?_
  refine R.mvE rfl (by conv => lhs; whnf) ?_
  refine R.mvE rfl (by conv => lhs; whnf) ?_
  refine R.callv rfl rfl rfl (far_c _ _ xs a hr hl z) ?_
  refine R.asE rfl (by conv => lhs; whnf) ?_
  refine TL.nil (Post.thnN ?_)
  refine T.seq ?_
  refine T.seq ?_
  refine T.region ?_
  refine R.mvE rfl (by conv => lhs; whnf) ?_
  refine R.lss rfl rfl rfl ?_
  refine TL.nil (Post.thnN ?_)
  refine T.condD rfl (fun c17 => ?_) (fun c17 => ?_)
  · refine T.seq ?_
    refine T.region ?_
    refine R.asE rfl (by conv => lhs; whnf) ?_
    refine TL.nil (Post.thnN ?_)
    refine T.ret (Post.thnR ?_)
    -- way y
    have he : wayR xs a z = [] := by unfold wayR; rw [if_pos c17]
    exact fin1 rfl rfl ⟨rfl, by rw [he]; exact RdS.nil, fun _ => rfl⟩
  · refine T.skip (Post.thnN ?_)
    refine T.seq ?_
    refine T.region ?_
    refine R.mvE rfl (by conv => lhs; whnf) ?_
    refine R.bs rfl (run_buildSlice1 Try.underlying23 Try.sizeOf3 Try.zeroValue3 rfl rfl) ?_
    intro b19
    refine R.asE rfl (by conv => lhs; whnf) ?_
    refine TL.nil (Post.thnN ?_)
    refine T.seq ?_
    refine T.seq ?_
    refine T.region ?_
    refine R.mvE rfl (by conv => lhs; whnf) ?_
    refine R.asE rfl (by conv => lhs; whnf) ?_
    refine TL.nil (Post.thnN ?_)
    refine T.block ?_
    refine T.loop (ι := Nat × Int × List Int × Value × Chunk) (fun ⟨n, u, acc, vo, co⟩ H' L' ds' => L' = [co] ∧ ds' = [] ∧ OwnS (intE .i64) 3 H' vo (a :: acc) co ∧ acc ++ wayGo xs z n u = (wayGo xs z (farL xs a z).toNat a) ∧ acc.length + n ≤ xs.length + 2) (fun ⟨n, u, acc, vo, co⟩ => [(0, .slice A xs.length c), (2, .int .i64 z), (7, .int .i64 n), (8, vo), (9, .int .i64 u)]) (fun ⟨n, u, acc, vo, co⟩ => n) (((farL xs a z).toNat, a, [], .slice (some ⟨b19, 0, none⟩) 1 1, [(b19, .cells #[.int .i64 a] 3)])) ?_ ?_ ?_
    · exact ⟨rfl, rfl, OwnS.one rfl rfl, rfl, by simp; omega⟩
    · exact ⟨rfl, rfl, congrArg (Value.int .i64) (by omega), rfl, rfl, trivial⟩
    · intro ⟨n, u, acc, vo, co⟩ σ0 H_0 L_0 ds_0 s_0 hI_0
      obtain ⟨rfl, rfl, ho, hg, hb⟩ := hI_0
      refine T.seq ?_
      refine T.seq ?_
      refine T.region ?_
      refine R.mvE rfl (by conv => lhs; whnf) ?_
      refine R.gtr rfl rfl rfl ?_
      refine TL.nil (Post.thnN ?_)
      refine T.condD rfl (fun c22 => ?_) (fun c22 => ?_)
      · obtain ⟨m, rfl⟩ : ∃ m, n = m + 1 := ⟨n - 1, by omega⟩
        refine T.skip (Post.thnN ?_)
        refine T.seq ?_
        refine T.block ?_
        refine T.seq ?_
        refine T.region ?_
        refine R.mvE rfl (by conv => lhs; whnf) ?_
        refine R.mvE rfl (by conv => lhs; whnf) ?_
        refine R.callp rfl rfl rfl (to16_c _ _ xs u (hr.mono s_0) (by omega)) ?_
        intro v27 H27 s27 q27
        obtain ⟨A27, c27, rfl, m27, n27, g27⟩ := q27.shape
        refine R.len Try.underlying23 rfl rfl ?_
        refine R.mvE rfl (by conv => lhs; whnf) ?_
        refine TL.nil (Post.thnN ?_)
        refine T.block ?_
        refine T.loop (ι := Nat) (fun i H' L' ds' => i ≤ (toL xs u).length ∧ L' = [co] ∧ ds' = [] ∧ ∀ (j : Nat) x, j < i → (toL xs u)[j]? = some x → decide (farL xs x z = (m : Nat)) = false) (fun i => [(0, .slice A xs.length c), (2, .int .i64 z), (7, .int .i64 ((m + 1 : Nat) : Int)), (8, vo), (9, .int .i64 u), (27, .slice A27 (toL xs u).length c27), (28, .int .i64 (toL xs u).length), (29, .int .i64 i)]) (fun i => (toL xs u).length - i) (0) ?_ ?_ ?_
        · exact ⟨Nat.zero_le _, rfl, rfl, fun j x h => absurd h (Nat.not_lt_zero _)⟩
        · exact ⟨rfl, rfl, rfl, rfl, rfl, rfl, rfl, rfl, trivial⟩
        · intro i σ1 H_1 L_1 ds_1 s_1 hI_1
          obtain ⟨hi, rfl, rfl, hno⟩ := hI_1
          refine T.seq ?_
          refine T.region ?_
          refine R.lss rfl rfl rfl ?_
          refine TL.nil (Post.thnN ?_)
          refine T.seq ?_
          refine T.condD rfl (fun c30 => ?_) (fun c30 => ?_)
          · have hlt : i < (toL xs u).length := by omega
            obtain ⟨w, hw⟩ := getk hlt
            refine T.skip (Post.thnN ?_)
            refine T.seq ?_
            refine T.block ?_
            refine T.seq ?_
            refine T.region ?_
            obtain ⟨b31, o31, i31, e31⟩ := (g27.mono s_1).elem (hw)
            refine R.ixp Try.underlying23 Try.sizeOf3 rfl rfl rfl (by omega) i31 ?_
            refine R.ldC Try.isAgg3 rfl rfl (e31).int ?_
            refine R.asE rfl (by conv => lhs; whnf) ?_
            refine TL.nil (Post.thnN ?_)
            refine T.seq ?_
            refine T.region ?_
            refine R.mvE rfl (by conv => lhs; whnf) ?_
            refine R.mvE rfl (by conv => lhs; whnf) ?_
            refine R.mvE rfl (by conv => lhs; whnf) ?_
            refine R.callv rfl rfl rfl (far_c _ _ xs w ((hr.mono s_0).mono (s27.trans s_1)) hl z) ?_
            refine R.mvE rfl (by conv => lhs; whnf) ?_
            refine R.subI rfl rfl rfl (by omega) ?_
            refine R.eql rfl rfl rfl ?_
            refine TL.nil (Post.thnN ?_)
            refine T.condD rfl (fun c39 => ?_) (fun c39 => ?_)
            · refine T.seq ?_
              refine T.region ?_
              refine R.mvE rfl (by conv => lhs; whnf) ?_
              refine R.mvE rfl (by conv => lhs; whnf) ?_
              refine R.bs rfl (run_buildSlice1 Try.underlying23 Try.sizeOf3 Try.zeroValue3 rfl rfl) ?_
              intro b42
              refine R.app (ys := [w]) Try_ty23 rfl rfl rfl ((ho.mono s27).mono s_1) (.tl .hd) (Src.lit (vs := [.int .i64 w]) .hd) ⟨[.int .i64 w], [], rfl, rfl, rfl⟩ (by simp; omega) (by simp; omega) ?_
              intro v43 c43 w43
              refine TL.del (.tl .hd) ?_
              refine R.mvE rfl (by conv => lhs; whnf) ?_
              refine R.asE rfl (by conv => lhs; whnf) ?_
              refine R.asE rfl (by conv => lhs; whnf) ?_
              refine TL.nil (Post.thnN ?_)
              refine T.exit (Post.blkE rfl (Post.thnE (Post.thnE (Post.blkX ?_))))
              refine id (Post.blkN ?_)
              refine id (Post.thnN ?_)
              refine T.region ?_
              refine R.mvE rfl (by conv => lhs; whnf) ?_
              refine R.subI rfl rfl rfl (by omega) ?_
              refine R.asE rfl (by conv => lhs; whnf) ?_
              refine TL.nil (Post.thnN ?_)
              -- round's end, way nyyy
              exact ⟨(m, w, acc ++ [w], v43, c43), s_0.trans (s27.trans s_1), ⟨rfl, rfl, w43, by rw [← hg, wayGo_yes (find_at hw (decide_eq_true (by omega)) hno)]; simp, by simp; omega⟩, by show m < m + 1; omega, ⟨rfl, rfl, congrArg (Value.int .i64) (by omega), rfl, rfl, trivial⟩⟩
            · refine T.skip (Post.blkN ?_)
              refine id (Post.thnN ?_)
              refine T.region ?_
              refine R.addI rfl rfl rfl (by omega) ?_
              refine R.mvE rfl (by conv => lhs; whnf) ?_
              refine TL.nil (Post.thnN ?_)
              -- round's end, way nyyn
              exact ⟨i + 1, s_1, ⟨by omega, rfl, rfl, fun j x h1 h2 => if e : j = i then by subst e; rw [hw] at h2; injection h2 with h2; subst h2; exact decide_eq_false (by omega) else hno j x (by omega) h2⟩, by omega, ⟨rfl, rfl, rfl, rfl, rfl, rfl, rfl, rfl, trivial⟩⟩
          · refine T.exit (Post.thnE (Post.thnE (Post.blkX ?_)))
            refine id (Post.blkN ?_)
            refine id (Post.thnN ?_)
            refine T.region ?_
            refine R.mvE rfl (by conv => lhs; whnf) ?_
            refine R.subI rfl rfl rfl (by omega) ?_
            refine R.asE rfl (by conv => lhs; whnf) ?_
            refine TL.nil (Post.thnN ?_)
            -- round's end, way nyn
            exact ⟨(m, u, acc, vo, co), s_0.trans (s27.trans s_1), ⟨rfl, rfl, (ho.mono s27).mono s_1, by rw [← hg, wayGo_no (find_no (fun j x h1 h2 => hno j x (by omega) h2))], by omega⟩, by show m < m + 1; omega, ⟨rfl, rfl, congrArg (Value.int .i64) (by omega), rfl, rfl, trivial⟩⟩
      · have hn0 : n = 0 := by omega
        subst hn0
        refine T.exit (Post.thnE (Post.thnE (Post.blkX ?_)))
        refine id (Post.thnN ?_)
        refine T.seq ?_
        refine T.shut .hd ?_
        intro HW sW qW
        have hw := ho.read sW qW
        have he : a :: acc = wayR xs a z := by
          unfold wayR
          rw [if_neg c17, ← hg]; simp [wayGo]
        refine T.region ?_
        refine R.mvE rfl (by conv => lhs; whnf) ?_
        refine R.asE rfl (by conv => lhs; whnf) ?_
        refine TL.nil (Post.thnN ?_)
        refine T.ret ?_
        -- way nn
        exact fin1 rfl rfl ⟨rfl, by rw [← he]; exact hw, fun h => by rw [← he] at h; cases h⟩


set_option maxHeartbeats 1600000 in
theorem order18_c (H : Heap) (v : Value) (xs : List Lk) (a : Int) (hr : RdS pairE H v xs) (hl : xs.length ≤ 1000) : Fp Try.prog (fnv 19) [v, .int .i64 a] H (fun v' H' => RdS (intE .i64) H' v' ((askL xs a).map lastI)) := by
  refine Fc.of_body (N := 78) Try.func19 rfl (by kernel_rfl) rfl rfl ?_
  intro w0
  obtain ⟨A, c, rfl, hc1, hc2, hr⟩ := hr.shape
  have hwl := wavesL_len false xs a
  have hfl := flat_len xs a
  refine T.seq ?_
  refine T.region ?_
  refine R.asE rfl (by conv => lhs; whnf) ?_
  refine TL.nil (Post.thnN ?_)
  refine T.seq ?_
  refine T.region ?_
  refine R.asE rfl (by conv => lhs; whnf) ?_
  refine TL.nil (Post.thnN ?_)
  refine T.seq ?_
  refine T.seq ?_
  refine T.region ?_
  refine R.mvE rfl (by conv => lhs; whnf) ?_
  refine R.mvE rfl (by conv => lhs; whnf) ?_
  refine R.callp rfl rfl rfl (waves_c _ _ xs a false hr hl) ?_
  intro v17 H17 s17 q17
  obtain ⟨A17, c17, rfl, m17, n17, g17⟩ := q17.shape
  refine R.len Try.underlying52 rfl rfl ?_
  refine R.mvE rfl (by conv => lhs; whnf) ?_
  refine TL.nil (Post.thnN ?_)
  refine T.block ?_
  refine T.loop (ι := Nat × Value) (fun ⟨k, vw⟩ H' L' ds' => k ≤ (wavesL false xs a).length ∧ L' = [] ∧ ds' = [] ∧ RdS (slE (intE .i64)) H' vw (orderGo xs a ((wavesL false xs a).take k).flatten [])) (fun ⟨k, vw⟩ => [(0, .slice A xs.length c), (1, .int .i64 a), (5, vw), (17, .slice A17 (wavesL false xs a).length c17), (18, .int .i64 (wavesL false xs a).length), (19, .int .i64 k)]) (fun ⟨k, vw⟩ => (wavesL false xs a).length - k) ((0, .slice none 0 0)) ?_ ?_ ?_
  · exact ⟨Nat.zero_le _, rfl, rfl, RdS.nil⟩
  · exact ⟨rfl, rfl, rfl, rfl, rfl, rfl, trivial⟩
  · intro ⟨k, vw⟩ σ0 H_0 L_0 ds_0 s_0 hI_0
    obtain ⟨hk, rfl, rfl, hv⟩ := hI_0
    refine T.seq ?_
    refine T.region ?_
    refine R.lss rfl rfl rfl ?_
    refine TL.nil (Post.thnN ?_)
    refine T.seq ?_
    refine T.condD rfl (fun c20 => ?_) (fun c20 => ?_)
    · have hlt : k < (wavesL false xs a).length := by omega
      obtain ⟨w, hy⟩ := getk hlt
      refine T.skip (Post.thnN ?_)
      refine T.seq ?_
      refine T.block ?_
      refine T.seq ?_
      refine T.region ?_
      obtain ⟨b21, o21, i21, e21⟩ := (g17.mono s_0).elem (hy)
      refine R.ixp Try.underlying52 Try.sizeOf23 rfl rfl rfl (by omega) i21 ?_
      obtain ⟨v22, k22, r22⟩ := (e21).sl
      obtain ⟨A22, c22, rfl, m22, n22, r22⟩ := r22.shape
      refine R.ldC Try.isAgg23 rfl rfl k22 ?_
      refine R.asE rfl (by conv => lhs; whnf) ?_
      refine TL.nil (Post.thnN ?_)
      refine T.seq ?_
      refine T.region ?_
      refine R.mvE rfl (by conv => lhs; whnf) ?_
      refine R.len Try.underlying23 rfl rfl ?_
      refine R.mvE rfl (by conv => lhs; whnf) ?_
      refine TL.nil (Post.thnN ?_)
      refine T.block ?_
      refine T.loop (ι := Nat × Value) (fun ⟨i, vw⟩ H' L' ds' => i ≤ w.length ∧ L' = [] ∧ ds' = [] ∧ RdS (slE (intE .i64)) H' vw (orderGo xs a (((wavesL false xs a).take k).flatten ++ w.take i) [])) (fun ⟨i, vw⟩ => [(0, .slice A xs.length c), (1, .int .i64 a), (5, vw), (17, .slice A17 (wavesL false xs a).length c17), (18, .int .i64 (wavesL false xs a).length), (19, .int .i64 k), (23, .slice A22 w.length c22), (24, .int .i64 w.length), (25, .int .i64 i)]) (fun ⟨i, vw⟩ => w.length - i) ((0, vw)) ?_ ?_ ?_
      · exact ⟨Nat.zero_le _, rfl, rfl, by rw [List.take_zero, List.append_nil]; exact hv⟩
      · exact ⟨rfl, rfl, rfl, rfl, rfl, rfl, rfl, rfl, rfl, trivial⟩
      · intro ⟨i, vw⟩ σ1 H_1 L_1 ds_1 s_1 hI_1
        obtain ⟨hi, rfl, rfl, hv1⟩ := hI_1
        obtain ⟨Aw, cw, rfl, mw, nw, hv1⟩ := hv1.shape
        refine T.seq ?_
        refine T.region ?_
        refine R.lss rfl rfl rfl ?_
        refine TL.nil (Post.thnN ?_)
        refine T.seq ?_
        refine T.condD rfl (fun c26 => ?_) (fun c26 => ?_)
        · have hlt2 : i < w.length := by omega
          obtain ⟨x, hz⟩ := getk hlt2
          refine T.skip (Post.thnN ?_)
          refine T.seq ?_
          refine T.block ?_
          refine T.seq ?_
          refine T.region ?_
          obtain ⟨b27, o27, i27, e27⟩ := (r22.mono s_1).elem (hz)
          refine R.ixp Try.underlying23 Try.sizeOf3 rfl rfl rfl (by omega) i27 ?_
          refine R.ldC Try.isAgg3 rfl rfl (e27).int ?_
          refine R.asE rfl (by conv => lhs; whnf) ?_
          refine TL.nil (Post.thnN ?_)
          refine T.seq ?_
          refine T.region ?_
          refine R.mvE rfl (by conv => lhs; whnf) ?_
          refine R.mvE rfl (by conv => lhs; whnf) ?_
          refine R.mvE rfl (by conv => lhs; whnf) ?_
          refine R.callp rfl rfl rfl (way18_c _ _ xs a (hr.mono (s17.trans (s_0.trans s_1))) hl x) ?_
          intro v32 H32 s32 q32
          obtain ⟨q32, z32⟩ := q32
          obtain ⟨A32, c32, rfl, m32, n32, g32⟩ := q32.shape
          refine R.asE rfl (by conv => lhs; whnf) ?_
          refine TL.nil (Post.thnN ?_)
          refine T.seq ?_
          refine T.region ?_
          refine R.asE rfl (by conv => lhs; whnf) ?_
          refine TL.nil (Post.thnN ?_)
          refine T.seq ?_
          refine T.block ?_
          refine T.loop (ι := Nat) (fun k2 H' L' ds' => k2 ≤ (orderGo xs a (((wavesL false xs a).take k).flatten ++ w.take i) []).length ∧ L' = [] ∧ ds' = [] ∧ ∀ (j : Nat) y, j < k2 → (orderGo xs a (((wavesL false xs a).take k).flatten ++ w.take i) [])[j]? = some y → lessB y (wayR xs a x) = true) (fun k2 => [(0, .slice A xs.length c), (1, .int .i64 a), (5, .slice Aw (orderGo xs a (((wavesL false xs a).take k).flatten ++ w.take i) []).length cw), (10, .slice A32 (wayR xs a x).length c32), (11, .int .i64 k2), (17, .slice A17 (wavesL false xs a).length c17), (18, .int .i64 (wavesL false xs a).length), (19, .int .i64 k), (23, .slice A22 w.length c22), (24, .int .i64 w.length), (25, .int .i64 i)]) (fun k2 => (orderGo xs a (((wavesL false xs a).take k).flatten ++ w.take i) []).length - k2) (0) ?_ ?_ ?_
          · exact ⟨Nat.zero_le _, rfl, rfl, fun j y h => absurd h (Nat.not_lt_zero _)⟩
          · exact ⟨rfl, rfl, rfl, rfl, rfl, rfl, rfl, rfl, rfl, rfl, rfl, trivial⟩
          · intro k2 σ2 H_2 L_2 ds_2 s_2 hI_2
            obtain ⟨hk2, rfl, rfl, hno⟩ := hI_2
            refine T.seq ?_
            refine T.seq ?_
            refine T.region ?_
            refine R.mvE rfl (by conv => lhs; whnf) ?_
            refine R.mvE rfl (by conv => lhs; whnf) ?_
            refine R.len Try.underlying52 rfl rfl ?_
            refine R.lss rfl rfl rfl ?_
            refine R.mvE rfl (by conv => lhs; whnf) ?_
            refine TL.gsplitD 37 rfl (fun g37 => ?_) (fun g37 => ?_)
            · have hlt3 : k2 < (orderGo xs a (((wavesL false xs a).take k).flatten ++ w.take i) []).length := by omega
              obtain ⟨r, hq⟩ := getk hlt3
              refine R.mvE rfl (by conv => lhs; whnf) ?_
              refine R.mvE rfl (by conv => lhs; whnf) ?_
              obtain ⟨b40, o40, i40, e40⟩ := ((hv1.mono s32).mono s_2).elem (hq)
              refine R.ixp Try.underlying52 Try.sizeOf23 rfl rfl rfl (by omega) i40 ?_
              obtain ⟨v41, k41, r41⟩ := (e40).sl
              obtain ⟨A41, c41, rfl, m41, n41, r41⟩ := r41.shape
              refine R.ldC Try.isAgg23 rfl rfl k41 ?_
              refine R.mvE rfl (by conv => lhs; whnf) ?_
              refine R.callv rfl rfl rfl (less18_c _ _ _ _ _ r41 (g32.mono s_2)) ?_
              refine R.pkTE rfl rfl (by conv => lhs; whnf) ?_
              refine TL.nil (Post.thnN ?_)
              refine T.cond rfl (fun c44 => ?_) (fun c44 => ?_)
              · refine T.skip (Post.thnN ?_)
                refine T.block ?_
                refine T.region ?_
                refine R.mvE rfl (by conv => lhs; whnf) ?_
                refine R.addI rfl rfl rfl (by omega) ?_
                refine R.asE rfl (by conv => lhs; whnf) ?_
                refine TL.nil (Post.blkN ?_)
                refine id (Post.thnN ?_)
                -- round's end, way yyyy
                exact ⟨k2 + 1, s_2, ⟨by omega, rfl, rfl, fun j y h1 h2 => if e : j = k2 then by subst e; rw [hq] at h2; injection h2 with h2; subst h2; exact c44 else hno j y (by omega) h2⟩, by omega, ⟨rfl, rfl, rfl, rfl, rfl, rfl, rfl, rfl, rfl, rfl, rfl, trivial⟩⟩
              · refine T.exit (Post.thnE (Post.thnE (Post.blkX ?_)))
                refine id (Post.thnN ?_)
                have hfl := flat_len xs a
                have hfp := flat_pre (i := i) hy
                have hon := orderGo_len xs a (((wavesL false xs a).take k).flatten ++ w.take i) []
                rw [List.length_nil, Nat.zero_add] at hon
                have hkk : insK (orderGo xs a (((wavesL false xs a).take k).flatten ++ w.take i) []) (wayR xs a x) = k2 := insK_eq hno hk2 (fun y hy2 => by rw [hq] at hy2; injection hy2 with hy2; subst hy2; simpa using c44)
                refine T.draw Try_mixed (by kernel_rfl) ?_
                refine Plan.v 1 [0, 2, 3, 4, 5, 6, 7, 8, 9, 10, 11, 12] (by kernel_rfl) (by kernel_rfl) (by kernel_rfl) (by kernel_rfl) rfl (fun _ _ h_ => R.mvE rfl (by conv => lhs; whnf) (TL.nil h_)) ?_
                refine Plan.v 2 [0, 3, 4, 5, 6, 7, 8, 9, 10, 11, 12] (by kernel_rfl) (by kernel_rfl) (by kernel_rfl) (by kernel_rfl) rfl (fun _ _ h_ => R.mvE rfl (by conv => lhs; whnf) (TL.nil h_)) ?_
                refine Plan.v 3 [0, 4, 5, 6, 7, 8, 9, 10, 11, 12] (by kernel_rfl) (by kernel_rfl) (by kernel_rfl) (by kernel_rfl) rfl (fun _ _ h_ => R.sH Try.underlying52 Try.sizeOf23 rfl rfl rfl  (by omega) (by omega)  (TL.nil h_)) ?_
                refine Plan.v 5 [0, 4, 6, 7, 8, 9, 10, 11, 12] (by kernel_rfl) (by kernel_rfl) (by kernel_rfl) (by kernel_rfl) rfl (fun _ _ h_ => R.mvE rfl (by conv => lhs; whnf) (TL.nil h_)) ?_
                refine Plan.v 8 [0, 4, 6, 7, 9, 10, 11, 12] (by kernel_rfl) (by kernel_rfl) (by kernel_rfl) (by kernel_rfl) rfl (fun _ _ h_ => R.mvE rfl (by conv => lhs; whnf) (TL.nil h_)) ?_
                refine Plan.v 9 [0, 4, 6, 7, 10, 11, 12] (by kernel_rfl) (by kernel_rfl) (by kernel_rfl) (by kernel_rfl) rfl (fun _ _ h_ => R.mvE rfl (by conv => lhs; whnf) (TL.nil h_)) ?_
                refine Plan.v 10 [0, 4, 6, 7, 11, 12] (by kernel_rfl) (by kernel_rfl) (by kernel_rfl) (by kernel_rfl) rfl (fun _ _ h_ => R.sL Try.underlying52 Try.sizeOf23 rfl rfl rfl  (by omega) (by omega)  (TL.nil h_)) ?_
                refine Plan.s2 0 6 [4, 6, 7, 11, 12] [0, 4, 7, 11, 12] (by kernel_rfl) (by kernel_rfl) (by kernel_rfl) rfl rfl ?_ ?_
                · refine R.bs0 (E := (slE (intE .i64))) rfl Try.underlying52 Try.sizeOf23 ?_
                  intro v47 c47 w47
                  refine TL.nil (Plan.e1 (HLe.refl _) ?_)
                  refine Plan.s2 4 6 [6, 7, 11, 12] [4, 7, 11, 12] (by kernel_rfl) (by kernel_rfl) (by kernel_rfl) rfl rfl ?_ ?_
                  · obtain ⟨cs51, y51, r51⟩ := Src.rdA (((hv1.mono s32).mono s_2).takeC hk2 mw)
                    refine R.app Try_ty52 rfl rfl rfl w47 (by first | exact .hd | exact .tl .hd | exact .tl (.tl .hd) | exact .tl (.tl (.tl .hd)) | exact .tl (.tl (.tl (.tl .hd))) | exact .tl (.tl (.tl (.tl (.tl .hd)))) | exact .tl (.tl (.tl (.tl (.tl (.tl .hd))))) | exact .tl (.tl (.tl (.tl (.tl (.tl (.tl .hd)))))) | exact .tl (.tl (.tl (.tl (.tl (.tl (.tl (.tl .hd))))))) | exact .tl (.tl (.tl (.tl (.tl (.tl (.tl (.tl (.tl .hd))))))))) (r51 _) y51 (by simp; omega) (by simp; omega) ?_
                    intro v51 c51 w51
                    rw [List.nil_append] at w51
                    refine TL.nil (Plan.e1 (HLe.refl _) ?_)
                    refine Plan.s1 6 [7, 11, 12] (by kernel_rfl) (by kernel_rfl) rfl ?_
                    refine R.bs rfl (run_buildSlice1 Try.underlying52 Try.sizeOf23 Try.zeroValue23 rfl rfl) ?_
                    intro b53
                    refine TL.nil (Plan.e1 (HLe.refl _) ?_)
                    refine Plan.s1 7 [11, 12] (by kernel_rfl) (by kernel_rfl) rfl ?_
                    refine R.app (ys := [wayR xs a x]) Try_ty52 rfl rfl rfl w51 (by first | exact .hd | exact .tl .hd | exact .tl (.tl .hd) | exact .tl (.tl (.tl .hd)) | exact .tl (.tl (.tl (.tl .hd))) | exact .tl (.tl (.tl (.tl (.tl .hd)))) | exact .tl (.tl (.tl (.tl (.tl (.tl .hd))))) | exact .tl (.tl (.tl (.tl (.tl (.tl (.tl .hd)))))) | exact .tl (.tl (.tl (.tl (.tl (.tl (.tl (.tl .hd))))))) | exact .tl (.tl (.tl (.tl (.tl (.tl (.tl (.tl (.tl .hd))))))))) (Src.lit (vs := [.slice A32 (wayR xs a x).length c32]) (by first | exact .hd | exact .tl .hd | exact .tl (.tl .hd) | exact .tl (.tl (.tl .hd)) | exact .tl (.tl (.tl (.tl .hd))) | exact .tl (.tl (.tl (.tl (.tl .hd)))) | exact .tl (.tl (.tl (.tl (.tl (.tl .hd))))) | exact .tl (.tl (.tl (.tl (.tl (.tl (.tl .hd)))))) | exact .tl (.tl (.tl (.tl (.tl (.tl (.tl (.tl .hd))))))) | exact .tl (.tl (.tl (.tl (.tl (.tl (.tl (.tl (.tl .hd)))))))))) ⟨[_], [], rfl, ⟨_, rfl, g32.mono s_2⟩, rfl⟩ (by simp; omega) (by simp; omega) ?_
                    intro v54 c54 w54
                    refine TL.nil (Plan.e1 (HLe.refl _) ?_)
                    refine Plan.s1 11 [12] (by kernel_rfl) (by kernel_rfl) rfl ?_
                    obtain ⟨cs58, y58, r58⟩ := Src.rdA (((hv1.mono s32).mono s_2).drop hk2 mw)
                    refine R.app Try_ty52 rfl rfl rfl w54 (by first | exact .hd | exact .tl .hd | exact .tl (.tl .hd) | exact .tl (.tl (.tl .hd)) | exact .tl (.tl (.tl (.tl .hd))) | exact .tl (.tl (.tl (.tl (.tl .hd)))) | exact .tl (.tl (.tl (.tl (.tl (.tl .hd))))) | exact .tl (.tl (.tl (.tl (.tl (.tl (.tl .hd)))))) | exact .tl (.tl (.tl (.tl (.tl (.tl (.tl (.tl .hd))))))) | exact .tl (.tl (.tl (.tl (.tl (.tl (.tl (.tl (.tl .hd))))))))) (r58 _) y58 (by simp; omega) (by simp; omega) ?_
                    intro v58 c58 w58
                    refine TL.shut .hd ?_
                    intro H58 s58 q58
                    have hw58 := w58.read s58 q58
                    refine TL.del .hd ?_
                    refine TL.nil (Plan.e1 (s58) ?_)
                    refine Plan.s1 12 [] (by kernel_rfl) (by kernel_rfl) rfl ?_
                    refine R.asE rfl (by conv => lhs; whnf) ?_
                    refine TL.nil (Plan.e1 (HLe.refl _) ?_)
                    refine Plan.done (Post.blkN ?_)
                    refine id (Post.thnN ?_)
                    refine T.region ?_
                    refine R.addI rfl rfl rfl (by omega) ?_
                    refine R.mvE rfl (by conv => lhs; whnf) ?_
                    refine TL.nil (Post.thnN ?_)
                    -- round's end, way yyyn00
                    have hins : insW (orderGo xs a (((wavesL false xs a).take k).flatten ++ w.take i) []) (wayR xs a x) = (orderGo xs a (((wavesL false xs a).take k).flatten ++ w.take i) []).take k2 ++ [wayR xs a x] ++ (orderGo xs a (((wavesL false xs a).take k).flatten ++ w.take i) []).drop k2 := by unfold insW; rw [hkk]
                    exact ⟨(i + 1, v58), s_1.trans (s32.trans (s_2.trans s58)), ⟨by show i + 1 ≤ _; omega, rfl, rfl, by rw [take_snoc _ _ _ hz, ← List.append_assoc, orderGo_snoc, hins]; exact hw58⟩, by show w.length - (i + 1) < w.length - i; omega, ⟨rfl, rfl, rfl, rfl, rfl, rfl, rfl, rfl, rfl, trivial⟩⟩
                  · refine R.bs rfl (run_buildSlice1 Try.underlying52 Try.sizeOf23 Try.zeroValue23 rfl rfl) ?_
                    intro b53
                    refine TL.nil (Plan.e1 (HLe.refl _) ?_)
                    refine Plan.s1 4 [7, 11, 12] (by kernel_rfl) (by kernel_rfl) rfl ?_
                    obtain ⟨cs51, y51, r51⟩ := Src.rdA (((hv1.mono s32).mono s_2).takeC hk2 mw)
                    refine R.app Try_ty52 rfl rfl rfl w47 (by first | exact .hd | exact .tl .hd | exact .tl (.tl .hd) | exact .tl (.tl (.tl .hd)) | exact .tl (.tl (.tl (.tl .hd))) | exact .tl (.tl (.tl (.tl (.tl .hd)))) | exact .tl (.tl (.tl (.tl (.tl (.tl .hd))))) | exact .tl (.tl (.tl (.tl (.tl (.tl (.tl .hd)))))) | exact .tl (.tl (.tl (.tl (.tl (.tl (.tl (.tl .hd))))))) | exact .tl (.tl (.tl (.tl (.tl (.tl (.tl (.tl (.tl .hd))))))))) (r51 _) y51 (by simp; omega) (by simp; omega) ?_
                    intro v51 c51 w51
                    rw [List.nil_append] at w51
                    refine TL.nil (Plan.e1 (HLe.refl _) ?_)
                    refine Plan.s1 7 [11, 12] (by kernel_rfl) (by kernel_rfl) rfl ?_
                    refine R.app (ys := [wayR xs a x]) Try_ty52 rfl rfl rfl w51 (by first | exact .hd | exact .tl .hd | exact .tl (.tl .hd) | exact .tl (.tl (.tl .hd)) | exact .tl (.tl (.tl (.tl .hd))) | exact .tl (.tl (.tl (.tl (.tl .hd)))) | exact .tl (.tl (.tl (.tl (.tl (.tl .hd))))) | exact .tl (.tl (.tl (.tl (.tl (.tl (.tl .hd)))))) | exact .tl (.tl (.tl (.tl (.tl (.tl (.tl (.tl .hd))))))) | exact .tl (.tl (.tl (.tl (.tl (.tl (.tl (.tl (.tl .hd))))))))) (Src.lit (vs := [.slice A32 (wayR xs a x).length c32]) (by first | exact .hd | exact .tl .hd | exact .tl (.tl .hd) | exact .tl (.tl (.tl .hd)) | exact .tl (.tl (.tl (.tl .hd))) | exact .tl (.tl (.tl (.tl (.tl .hd)))) | exact .tl (.tl (.tl (.tl (.tl (.tl .hd))))) | exact .tl (.tl (.tl (.tl (.tl (.tl (.tl .hd)))))) | exact .tl (.tl (.tl (.tl (.tl (.tl (.tl (.tl .hd))))))) | exact .tl (.tl (.tl (.tl (.tl (.tl (.tl (.tl (.tl .hd)))))))))) ⟨[_], [], rfl, ⟨_, rfl, g32.mono s_2⟩, rfl⟩ (by simp; omega) (by simp; omega) ?_
                    intro v54 c54 w54
                    refine TL.nil (Plan.e1 (HLe.refl _) ?_)
                    refine Plan.s1 11 [12] (by kernel_rfl) (by kernel_rfl) rfl ?_
                    obtain ⟨cs58, y58, r58⟩ := Src.rdA (((hv1.mono s32).mono s_2).drop hk2 mw)
                    refine R.app Try_ty52 rfl rfl rfl w54 (by first | exact .hd | exact .tl .hd | exact .tl (.tl .hd) | exact .tl (.tl (.tl .hd)) | exact .tl (.tl (.tl (.tl .hd))) | exact .tl (.tl (.tl (.tl (.tl .hd)))) | exact .tl (.tl (.tl (.tl (.tl (.tl .hd))))) | exact .tl (.tl (.tl (.tl (.tl (.tl (.tl .hd)))))) | exact .tl (.tl (.tl (.tl (.tl (.tl (.tl (.tl .hd))))))) | exact .tl (.tl (.tl (.tl (.tl (.tl (.tl (.tl (.tl .hd))))))))) (r58 _) y58 (by simp; omega) (by simp; omega) ?_
                    intro v58 c58 w58
                    refine TL.shut .hd ?_
                    intro H58 s58 q58
                    have hw58 := w58.read s58 q58
                    refine TL.del .hd ?_
                    refine TL.nil (Plan.e1 (s58) ?_)
                    refine Plan.s1 12 [] (by kernel_rfl) (by kernel_rfl) rfl ?_
                    refine R.asE rfl (by conv => lhs; whnf) ?_
                    refine TL.nil (Plan.e1 (HLe.refl _) ?_)
                    refine Plan.done (Post.blkN ?_)
                    refine id (Post.thnN ?_)
                    refine T.region ?_
                    refine R.addI rfl rfl rfl (by omega) ?_
                    refine R.mvE rfl (by conv => lhs; whnf) ?_
                    refine TL.nil (Post.thnN ?_)
                    -- round's end, way yyyn01
                    have hins : insW (orderGo xs a (((wavesL false xs a).take k).flatten ++ w.take i) []) (wayR xs a x) = (orderGo xs a (((wavesL false xs a).take k).flatten ++ w.take i) []).take k2 ++ [wayR xs a x] ++ (orderGo xs a (((wavesL false xs a).take k).flatten ++ w.take i) []).drop k2 := by unfold insW; rw [hkk]
                    exact ⟨(i + 1, v58), s_1.trans (s32.trans (s_2.trans s58)), ⟨by show i + 1 ≤ _; omega, rfl, rfl, by rw [take_snoc _ _ _ hz, ← List.append_assoc, orderGo_snoc, hins]; exact hw58⟩, by show w.length - (i + 1) < w.length - i; omega, ⟨rfl, rfl, rfl, rfl, rfl, rfl, rfl, rfl, rfl, trivial⟩⟩
                · refine R.bs rfl (run_buildSlice1 Try.underlying52 Try.sizeOf23 Try.zeroValue23 rfl rfl) ?_
                  intro b53
                  refine TL.nil (Plan.e1 (HLe.refl _) ?_)
                  refine Plan.s1 0 [4, 7, 11, 12] (by kernel_rfl) (by kernel_rfl) rfl ?_
                  refine R.bs0 (E := (slE (intE .i64))) rfl Try.underlying52 Try.sizeOf23 ?_
                  intro v47 c47 w47
                  refine TL.nil (Plan.e1 (HLe.refl _) ?_)
                  refine Plan.s1 4 [7, 11, 12] (by kernel_rfl) (by kernel_rfl) rfl ?_
                  obtain ⟨cs51, y51, r51⟩ := Src.rdA (((hv1.mono s32).mono s_2).takeC hk2 mw)
                  refine R.app Try_ty52 rfl rfl rfl w47 (by first | exact .hd | exact .tl .hd | exact .tl (.tl .hd) | exact .tl (.tl (.tl .hd)) | exact .tl (.tl (.tl (.tl .hd))) | exact .tl (.tl (.tl (.tl (.tl .hd)))) | exact .tl (.tl (.tl (.tl (.tl (.tl .hd))))) | exact .tl (.tl (.tl (.tl (.tl (.tl (.tl .hd)))))) | exact .tl (.tl (.tl (.tl (.tl (.tl (.tl (.tl .hd))))))) | exact .tl (.tl (.tl (.tl (.tl (.tl (.tl (.tl (.tl .hd))))))))) (r51 _) y51 (by simp; omega) (by simp; omega) ?_
                  intro v51 c51 w51
                  rw [List.nil_append] at w51
                  refine TL.nil (Plan.e1 (HLe.refl _) ?_)
                  refine Plan.s1 7 [11, 12] (by kernel_rfl) (by kernel_rfl) rfl ?_
                  refine R.app (ys := [wayR xs a x]) Try_ty52 rfl rfl rfl w51 (by first | exact .hd | exact .tl .hd | exact .tl (.tl .hd) | exact .tl (.tl (.tl .hd)) | exact .tl (.tl (.tl (.tl .hd))) | exact .tl (.tl (.tl (.tl (.tl .hd)))) | exact .tl (.tl (.tl (.tl (.tl (.tl .hd))))) | exact .tl (.tl (.tl (.tl (.tl (.tl (.tl .hd)))))) | exact .tl (.tl (.tl (.tl (.tl (.tl (.tl (.tl .hd))))))) | exact .tl (.tl (.tl (.tl (.tl (.tl (.tl (.tl (.tl .hd))))))))) (Src.lit (vs := [.slice A32 (wayR xs a x).length c32]) (by first | exact .hd | exact .tl .hd | exact .tl (.tl .hd) | exact .tl (.tl (.tl .hd)) | exact .tl (.tl (.tl (.tl .hd))) | exact .tl (.tl (.tl (.tl (.tl .hd)))) | exact .tl (.tl (.tl (.tl (.tl (.tl .hd))))) | exact .tl (.tl (.tl (.tl (.tl (.tl (.tl .hd)))))) | exact .tl (.tl (.tl (.tl (.tl (.tl (.tl (.tl .hd))))))) | exact .tl (.tl (.tl (.tl (.tl (.tl (.tl (.tl (.tl .hd)))))))))) ⟨[_], [], rfl, ⟨_, rfl, g32.mono s_2⟩, rfl⟩ (by simp; omega) (by simp; omega) ?_
                  intro v54 c54 w54
                  refine TL.nil (Plan.e1 (HLe.refl _) ?_)
                  refine Plan.s1 11 [12] (by kernel_rfl) (by kernel_rfl) rfl ?_
                  obtain ⟨cs58, y58, r58⟩ := Src.rdA (((hv1.mono s32).mono s_2).drop hk2 mw)
                  refine R.app Try_ty52 rfl rfl rfl w54 (by first | exact .hd | exact .tl .hd | exact .tl (.tl .hd) | exact .tl (.tl (.tl .hd)) | exact .tl (.tl (.tl (.tl .hd))) | exact .tl (.tl (.tl (.tl (.tl .hd)))) | exact .tl (.tl (.tl (.tl (.tl (.tl .hd))))) | exact .tl (.tl (.tl (.tl (.tl (.tl (.tl .hd)))))) | exact .tl (.tl (.tl (.tl (.tl (.tl (.tl (.tl .hd))))))) | exact .tl (.tl (.tl (.tl (.tl (.tl (.tl (.tl (.tl .hd))))))))) (r58 _) y58 (by simp; omega) (by simp; omega) ?_
                  intro v58 c58 w58
                  refine TL.shut .hd ?_
                  intro H58 s58 q58
                  have hw58 := w58.read s58 q58
                  refine TL.del .hd ?_
                  refine TL.nil (Plan.e1 (s58) ?_)
                  refine Plan.s1 12 [] (by kernel_rfl) (by kernel_rfl) rfl ?_
                  refine R.asE rfl (by conv => lhs; whnf) ?_
                  refine TL.nil (Plan.e1 (HLe.refl _) ?_)
                  refine Plan.done (Post.blkN ?_)
                  refine id (Post.thnN ?_)
                  refine T.region ?_
                  refine R.addI rfl rfl rfl (by omega) ?_
                  refine R.mvE rfl (by conv => lhs; whnf) ?_
                  refine TL.nil (Post.thnN ?_)
                  -- round's end, way yyyn1
                  have hins : insW (orderGo xs a (((wavesL false xs a).take k).flatten ++ w.take i) []) (wayR xs a x) = (orderGo xs a (((wavesL false xs a).take k).flatten ++ w.take i) []).take k2 ++ [wayR xs a x] ++ (orderGo xs a (((wavesL false xs a).take k).flatten ++ w.take i) []).drop k2 := by unfold insW; rw [hkk]
                  exact ⟨(i + 1, v58), s_1.trans (s32.trans (s_2.trans s58)), ⟨by show i + 1 ≤ _; omega, rfl, rfl, by rw [take_snoc _ _ _ hz, ← List.append_assoc, orderGo_snoc, hins]; exact hw58⟩, by show w.length - (i + 1) < w.length - i; omega, ⟨rfl, rfl, rfl, rfl, rfl, rfl, rfl, rfl, rfl, trivial⟩⟩
            · refine TL.off rfl rfl rfl ?_
              refine TL.off rfl rfl rfl ?_
              refine TL.off rfl rfl rfl ?_
              refine TL.off rfl rfl rfl ?_
              refine TL.off rfl rfl rfl ?_
              refine TL.off rfl rfl rfl ?_
              refine R.pkFE rfl rfl (by conv => lhs; whnf) ?_
              refine TL.nil (Post.thnN ?_)
              refine T.condN rfl ?_
              refine T.exit (Post.thnE (Post.thnE (Post.blkX ?_)))
              refine id (Post.thnN ?_)
              have hfl := flat_len xs a
              have hfp := flat_pre (i := i) hy
              have hon := orderGo_len xs a (((wavesL false xs a).take k).flatten ++ w.take i) []
              rw [List.length_nil, Nat.zero_add] at hon
              have hkk : insK (orderGo xs a (((wavesL false xs a).take k).flatten ++ w.take i) []) (wayR xs a x) = k2 := insK_eq hno hk2 (fun y hy2 => by have := (List.getElem?_eq_some_iff.1 hy2).1; omega)
              refine T.draw Try_mixed (by kernel_rfl) ?_
              refine Plan.v 1 [0, 2, 3, 4, 5, 6, 7, 8, 9, 10, 11, 12] (by kernel_rfl) (by kernel_rfl) (by kernel_rfl) (by kernel_rfl) rfl (fun _ _ h_ => R.mvE rfl (by conv => lhs; whnf) (TL.nil h_)) ?_
              refine Plan.v 2 [0, 3, 4, 5, 6, 7, 8, 9, 10, 11, 12] (by kernel_rfl) (by kernel_rfl) (by kernel_rfl) (by kernel_rfl) rfl (fun _ _ h_ => R.mvE rfl (by conv => lhs; whnf) (TL.nil h_)) ?_
              refine Plan.v 3 [0, 4, 5, 6, 7, 8, 9, 10, 11, 12] (by kernel_rfl) (by kernel_rfl) (by kernel_rfl) (by kernel_rfl) rfl (fun _ _ h_ => R.sH Try.underlying52 Try.sizeOf23 rfl rfl rfl  (by omega) (by omega)  (TL.nil h_)) ?_
              refine Plan.v 5 [0, 4, 6, 7, 8, 9, 10, 11, 12] (by kernel_rfl) (by kernel_rfl) (by kernel_rfl) (by kernel_rfl) rfl (fun _ _ h_ => R.mvE rfl (by conv => lhs; whnf) (TL.nil h_)) ?_
              refine Plan.v 8 [0, 4, 6, 7, 9, 10, 11, 12] (by kernel_rfl) (by kernel_rfl) (by kernel_rfl) (by kernel_rfl) rfl (fun _ _ h_ => R.mvE rfl (by conv => lhs; whnf) (TL.nil h_)) ?_
              refine Plan.v 9 [0, 4, 6, 7, 10, 11, 12] (by kernel_rfl) (by kernel_rfl) (by kernel_rfl) (by kernel_rfl) rfl (fun _ _ h_ => R.mvE rfl (by conv => lhs; whnf) (TL.nil h_)) ?_
              refine Plan.v 10 [0, 4, 6, 7, 11, 12] (by kernel_rfl) (by kernel_rfl) (by kernel_rfl) (by kernel_rfl) rfl (fun _ _ h_ => R.sL Try.underlying52 Try.sizeOf23 rfl rfl rfl  (by omega) (by omega)  (TL.nil h_)) ?_
              refine Plan.s2 0 6 [4, 6, 7, 11, 12] [0, 4, 7, 11, 12] (by kernel_rfl) (by kernel_rfl) (by kernel_rfl) rfl rfl ?_ ?_
              · refine R.bs0 (E := (slE (intE .i64))) rfl Try.underlying52 Try.sizeOf23 ?_
                intro v47 c47 w47
                refine TL.nil (Plan.e1 (HLe.refl _) ?_)
                refine Plan.s2 4 6 [6, 7, 11, 12] [4, 7, 11, 12] (by kernel_rfl) (by kernel_rfl) (by kernel_rfl) rfl rfl ?_ ?_
                · obtain ⟨cs51, y51, r51⟩ := Src.rdA (((hv1.mono s32).mono s_2).takeC hk2 mw)
                  refine R.app Try_ty52 rfl rfl rfl w47 (by first | exact .hd | exact .tl .hd | exact .tl (.tl .hd) | exact .tl (.tl (.tl .hd)) | exact .tl (.tl (.tl (.tl .hd))) | exact .tl (.tl (.tl (.tl (.tl .hd)))) | exact .tl (.tl (.tl (.tl (.tl (.tl .hd))))) | exact .tl (.tl (.tl (.tl (.tl (.tl (.tl .hd)))))) | exact .tl (.tl (.tl (.tl (.tl (.tl (.tl (.tl .hd))))))) | exact .tl (.tl (.tl (.tl (.tl (.tl (.tl (.tl (.tl .hd))))))))) (r51 _) y51 (by simp; omega) (by simp; omega) ?_
                  intro v51 c51 w51
                  rw [List.nil_append] at w51
                  refine TL.nil (Plan.e1 (HLe.refl _) ?_)
                  refine Plan.s1 6 [7, 11, 12] (by kernel_rfl) (by kernel_rfl) rfl ?_
                  refine R.bs rfl (run_buildSlice1 Try.underlying52 Try.sizeOf23 Try.zeroValue23 rfl rfl) ?_
                  intro b53
                  refine TL.nil (Plan.e1 (HLe.refl _) ?_)
                  refine Plan.s1 7 [11, 12] (by kernel_rfl) (by kernel_rfl) rfl ?_
                  refine R.app (ys := [wayR xs a x]) Try_ty52 rfl rfl rfl w51 (by first | exact .hd | exact .tl .hd | exact .tl (.tl .hd) | exact .tl (.tl (.tl .hd)) | exact .tl (.tl (.tl (.tl .hd))) | exact .tl (.tl (.tl (.tl (.tl .hd)))) | exact .tl (.tl (.tl (.tl (.tl (.tl .hd))))) | exact .tl (.tl (.tl (.tl (.tl (.tl (.tl .hd)))))) | exact .tl (.tl (.tl (.tl (.tl (.tl (.tl (.tl .hd))))))) | exact .tl (.tl (.tl (.tl (.tl (.tl (.tl (.tl (.tl .hd))))))))) (Src.lit (vs := [.slice A32 (wayR xs a x).length c32]) (by first | exact .hd | exact .tl .hd | exact .tl (.tl .hd) | exact .tl (.tl (.tl .hd)) | exact .tl (.tl (.tl (.tl .hd))) | exact .tl (.tl (.tl (.tl (.tl .hd)))) | exact .tl (.tl (.tl (.tl (.tl (.tl .hd))))) | exact .tl (.tl (.tl (.tl (.tl (.tl (.tl .hd)))))) | exact .tl (.tl (.tl (.tl (.tl (.tl (.tl (.tl .hd))))))) | exact .tl (.tl (.tl (.tl (.tl (.tl (.tl (.tl (.tl .hd)))))))))) ⟨[_], [], rfl, ⟨_, rfl, g32.mono s_2⟩, rfl⟩ (by simp; omega) (by simp; omega) ?_
                  intro v54 c54 w54
                  refine TL.nil (Plan.e1 (HLe.refl _) ?_)
                  refine Plan.s1 11 [12] (by kernel_rfl) (by kernel_rfl) rfl ?_
                  obtain ⟨cs58, y58, r58⟩ := Src.rdA (((hv1.mono s32).mono s_2).drop hk2 mw)
                  refine R.app Try_ty52 rfl rfl rfl w54 (by first | exact .hd | exact .tl .hd | exact .tl (.tl .hd) | exact .tl (.tl (.tl .hd)) | exact .tl (.tl (.tl (.tl .hd))) | exact .tl (.tl (.tl (.tl (.tl .hd)))) | exact .tl (.tl (.tl (.tl (.tl (.tl .hd))))) | exact .tl (.tl (.tl (.tl (.tl (.tl (.tl .hd)))))) | exact .tl (.tl (.tl (.tl (.tl (.tl (.tl (.tl .hd))))))) | exact .tl (.tl (.tl (.tl (.tl (.tl (.tl (.tl (.tl .hd))))))))) (r58 _) y58 (by simp; omega) (by simp; omega) ?_
                  intro v58 c58 w58
                  refine TL.shut .hd ?_
                  intro H58 s58 q58
                  have hw58 := w58.read s58 q58
                  refine TL.del .hd ?_
                  refine TL.nil (Plan.e1 (s58) ?_)
                  refine Plan.s1 12 [] (by kernel_rfl) (by kernel_rfl) rfl ?_
                  refine R.asE rfl (by conv => lhs; whnf) ?_
                  refine TL.nil (Plan.e1 (HLe.refl _) ?_)
                  refine Plan.done (Post.blkN ?_)
                  refine id (Post.thnN ?_)
                  refine T.region ?_
                  refine R.addI rfl rfl rfl (by omega) ?_
                  refine R.mvE rfl (by conv => lhs; whnf) ?_
                  refine TL.nil (Post.thnN ?_)
                  -- round's end, way yyn00
                  have hins : insW (orderGo xs a (((wavesL false xs a).take k).flatten ++ w.take i) []) (wayR xs a x) = (orderGo xs a (((wavesL false xs a).take k).flatten ++ w.take i) []).take k2 ++ [wayR xs a x] ++ (orderGo xs a (((wavesL false xs a).take k).flatten ++ w.take i) []).drop k2 := by unfold insW; rw [hkk]
                  exact ⟨(i + 1, v58), s_1.trans (s32.trans (s_2.trans s58)), ⟨by show i + 1 ≤ _; omega, rfl, rfl, by rw [take_snoc _ _ _ hz, ← List.append_assoc, orderGo_snoc, hins]; exact hw58⟩, by show w.length - (i + 1) < w.length - i; omega, ⟨rfl, rfl, rfl, rfl, rfl, rfl, rfl, rfl, rfl, trivial⟩⟩
                · refine R.bs rfl (run_buildSlice1 Try.underlying52 Try.sizeOf23 Try.zeroValue23 rfl rfl) ?_
                  intro b53
                  refine TL.nil (Plan.e1 (HLe.refl _) ?_)
                  refine Plan.s1 4 [7, 11, 12] (by kernel_rfl) (by kernel_rfl) rfl ?_
                  obtain ⟨cs51, y51, r51⟩ := Src.rdA (((hv1.mono s32).mono s_2).takeC hk2 mw)
                  refine R.app Try_ty52 rfl rfl rfl w47 (by first | exact .hd | exact .tl .hd | exact .tl (.tl .hd) | exact .tl (.tl (.tl .hd)) | exact .tl (.tl (.tl (.tl .hd))) | exact .tl (.tl (.tl (.tl (.tl .hd)))) | exact .tl (.tl (.tl (.tl (.tl (.tl .hd))))) | exact .tl (.tl (.tl (.tl (.tl (.tl (.tl .hd)))))) | exact .tl (.tl (.tl (.tl (.tl (.tl (.tl (.tl .hd))))))) | exact .tl (.tl (.tl (.tl (.tl (.tl (.tl (.tl (.tl .hd))))))))) (r51 _) y51 (by simp; omega) (by simp; omega) ?_
                  intro v51 c51 w51
                  rw [List.nil_append] at w51
                  refine TL.nil (Plan.e1 (HLe.refl _) ?_)
                  refine Plan.s1 7 [11, 12] (by kernel_rfl) (by kernel_rfl) rfl ?_
                  refine R.app (ys := [wayR xs a x]) Try_ty52 rfl rfl rfl w51 (by first | exact .hd | exact .tl .hd | exact .tl (.tl .hd) | exact .tl (.tl (.tl .hd)) | exact .tl (.tl (.tl (.tl .hd))) | exact .tl (.tl (.tl (.tl (.tl .hd)))) | exact .tl (.tl (.tl (.tl (.tl (.tl .hd))))) | exact .tl (.tl (.tl (.tl (.tl (.tl (.tl .hd)))))) | exact .tl (.tl (.tl (.tl (.tl (.tl (.tl (.tl .hd))))))) | exact .tl (.tl (.tl (.tl (.tl (.tl (.tl (.tl (.tl .hd))))))))) (Src.lit (vs := [.slice A32 (wayR xs a x).length c32]) (by first | exact .hd | exact .tl .hd | exact .tl (.tl .hd) | exact .tl (.tl (.tl .hd)) | exact .tl (.tl (.tl (.tl .hd))) | exact .tl (.tl (.tl (.tl (.tl .hd)))) | exact .tl (.tl (.tl (.tl (.tl (.tl .hd))))) | exact .tl (.tl (.tl (.tl (.tl (.tl (.tl .hd)))))) | exact .tl (.tl (.tl (.tl (.tl (.tl (.tl (.tl .hd))))))) | exact .tl (.tl (.tl (.tl (.tl (.tl (.tl (.tl (.tl .hd)))))))))) ⟨[_], [], rfl, ⟨_, rfl, g32.mono s_2⟩, rfl⟩ (by simp; omega) (by simp; omega) ?_
                  intro v54 c54 w54
                  refine TL.nil (Plan.e1 (HLe.refl _) ?_)
                  refine Plan.s1 11 [12] (by kernel_rfl) (by kernel_rfl) rfl ?_
                  obtain ⟨cs58, y58, r58⟩ := Src.rdA (((hv1.mono s32).mono s_2).drop hk2 mw)
                  refine R.app Try_ty52 rfl rfl rfl w54 (by first | exact .hd | exact .tl .hd | exact .tl (.tl .hd) | exact .tl (.tl (.tl .hd)) | exact .tl (.tl (.tl (.tl .hd))) | exact .tl (.tl (.tl (.tl (.tl .hd)))) | exact .tl (.tl (.tl (.tl (.tl (.tl .hd))))) | exact .tl (.tl (.tl (.tl (.tl (.tl (.tl .hd)))))) | exact .tl (.tl (.tl (.tl (.tl (.tl (.tl (.tl .hd))))))) | exact .tl (.tl (.tl (.tl (.tl (.tl (.tl (.tl (.tl .hd))))))))) (r58 _) y58 (by simp; omega) (by simp; omega) ?_
                  intro v58 c58 w58
                  refine TL.shut .hd ?_
                  intro H58 s58 q58
                  have hw58 := w58.read s58 q58
                  refine TL.del .hd ?_
                  refine TL.nil (Plan.e1 (s58) ?_)
                  refine Plan.s1 12 [] (by kernel_rfl) (by kernel_rfl) rfl ?_
                  refine R.asE rfl (by conv => lhs; whnf) ?_
                  refine TL.nil (Plan.e1 (HLe.refl _) ?_)
                  refine Plan.done (Post.blkN ?_)
                  refine id (Post.thnN ?_)
                  refine T.region ?_
                  refine R.addI rfl rfl rfl (by omega) ?_
                  refine R.mvE rfl (by conv => lhs; whnf) ?_
                  refine TL.nil (Post.thnN ?_)
                  -- round's end, way yyn01
                  have hins : insW (orderGo xs a (((wavesL false xs a).take k).flatten ++ w.take i) []) (wayR xs a x) = (orderGo xs a (((wavesL false xs a).take k).flatten ++ w.take i) []).take k2 ++ [wayR xs a x] ++ (orderGo xs a (((wavesL false xs a).take k).flatten ++ w.take i) []).drop k2 := by unfold insW; rw [hkk]
                  exact ⟨(i + 1, v58), s_1.trans (s32.trans (s_2.trans s58)), ⟨by show i + 1 ≤ _; omega, rfl, rfl, by rw [take_snoc _ _ _ hz, ← List.append_assoc, orderGo_snoc, hins]; exact hw58⟩, by show w.length - (i + 1) < w.length - i; omega, ⟨rfl, rfl, rfl, rfl, rfl, rfl, rfl, rfl, rfl, trivial⟩⟩
              · refine R.bs rfl (run_buildSlice1 Try.underlying52 Try.sizeOf23 Try.zeroValue23 rfl rfl) ?_
                intro b53
                refine TL.nil (Plan.e1 (HLe.refl _) ?_)
                refine Plan.s1 0 [4, 7, 11, 12] (by kernel_rfl) (by kernel_rfl) rfl ?_
                refine R.bs0 (E := (slE (intE .i64))) rfl Try.underlying52 Try.sizeOf23 ?_
                intro v47 c47 w47
                refine TL.nil (Plan.e1 (HLe.refl _) ?_)
                refine Plan.s1 4 [7, 11, 12] (by kernel_rfl) (by kernel_rfl) rfl ?_
                obtain ⟨cs51, y51, r51⟩ := Src.rdA (((hv1.mono s32).mono s_2).takeC hk2 mw)
                refine R.app Try_ty52 rfl rfl rfl w47 (by first | exact .hd | exact .tl .hd | exact .tl (.tl .hd) | exact .tl (.tl (.tl .hd)) | exact .tl (.tl (.tl (.tl .hd))) | exact .tl (.tl (.tl (.tl (.tl .hd)))) | exact .tl (.tl (.tl (.tl (.tl (.tl .hd))))) | exact .tl (.tl (.tl (.tl (.tl (.tl (.tl .hd)))))) | exact .tl (.tl (.tl (.tl (.tl (.tl (.tl (.tl .hd))))))) | exact .tl (.tl (.tl (.tl (.tl (.tl (.tl (.tl (.tl .hd))))))))) (r51 _) y51 (by simp; omega) (by simp; omega) ?_
                intro v51 c51 w51
                rw [List.nil_append] at w51
                refine TL.nil (Plan.e1 (HLe.refl _) ?_)
                refine Plan.s1 7 [11, 12] (by kernel_rfl) (by kernel_rfl) rfl ?_
                refine R.app (ys := [wayR xs a x]) Try_ty52 rfl rfl rfl w51 (by first | exact .hd | exact .tl .hd | exact .tl (.tl .hd) | exact .tl (.tl (.tl .hd)) | exact .tl (.tl (.tl (.tl .hd))) | exact .tl (.tl (.tl (.tl (.tl .hd)))) | exact .tl (.tl (.tl (.tl (.tl (.tl .hd))))) | exact .tl (.tl (.tl (.tl (.tl (.tl (.tl .hd)))))) | exact .tl (.tl (.tl (.tl (.tl (.tl (.tl (.tl .hd))))))) | exact .tl (.tl (.tl (.tl (.tl (.tl (.tl (.tl (.tl .hd))))))))) (Src.lit (vs := [.slice A32 (wayR xs a x).length c32]) (by first | exact .hd | exact .tl .hd | exact .tl (.tl .hd) | exact .tl (.tl (.tl .hd)) | exact .tl (.tl (.tl (.tl .hd))) | exact .tl (.tl (.tl (.tl (.tl .hd)))) | exact .tl (.tl (.tl (.tl (.tl (.tl .hd))))) | exact .tl (.tl (.tl (.tl (.tl (.tl (.tl .hd)))))) | exact .tl (.tl (.tl (.tl (.tl (.tl (.tl (.tl .hd))))))) | exact .tl (.tl (.tl (.tl (.tl (.tl (.tl (.tl (.tl .hd)))))))))) ⟨[_], [], rfl, ⟨_, rfl, g32.mono s_2⟩, rfl⟩ (by simp; omega) (by simp; omega) ?_
                intro v54 c54 w54
                refine TL.nil (Plan.e1 (HLe.refl _) ?_)
                refine Plan.s1 11 [12] (by kernel_rfl) (by kernel_rfl) rfl ?_
                obtain ⟨cs58, y58, r58⟩ := Src.rdA (((hv1.mono s32).mono s_2).drop hk2 mw)
                refine R.app Try_ty52 rfl rfl rfl w54 (by first | exact .hd | exact .tl .hd | exact .tl (.tl .hd) | exact .tl (.tl (.tl .hd)) | exact .tl (.tl (.tl (.tl .hd))) | exact .tl (.tl (.tl (.tl (.tl .hd)))) | exact .tl (.tl (.tl (.tl (.tl (.tl .hd))))) | exact .tl (.tl (.tl (.tl (.tl (.tl (.tl .hd)))))) | exact .tl (.tl (.tl (.tl (.tl (.tl (.tl (.tl .hd))))))) | exact .tl (.tl (.tl (.tl (.tl (.tl (.tl (.tl (.tl .hd))))))))) (r58 _) y58 (by simp; omega) (by simp; omega) ?_
                intro v58 c58 w58
                refine TL.shut .hd ?_
                intro H58 s58 q58
                have hw58 := w58.read s58 q58
                refine TL.del .hd ?_
                refine TL.nil (Plan.e1 (s58) ?_)
                refine Plan.s1 12 [] (by kernel_rfl) (by kernel_rfl) rfl ?_
                refine R.asE rfl (by conv => lhs; whnf) ?_
                refine TL.nil (Plan.e1 (HLe.refl _) ?_)
                refine Plan.done (Post.blkN ?_)
                refine id (Post.thnN ?_)
                refine T.region ?_
                refine R.addI rfl rfl rfl (by omega) ?_
                refine R.mvE rfl (by conv => lhs; whnf) ?_
                refine TL.nil (Post.thnN ?_)
                -- round's end, way yyn1
                have hins : insW (orderGo xs a (((wavesL false xs a).take k).flatten ++ w.take i) []) (wayR xs a x) = (orderGo xs a (((wavesL false xs a).take k).flatten ++ w.take i) []).take k2 ++ [wayR xs a x] ++ (orderGo xs a (((wavesL false xs a).take k).flatten ++ w.take i) []).drop k2 := by unfold insW; rw [hkk]
                exact ⟨(i + 1, v58), s_1.trans (s32.trans (s_2.trans s58)), ⟨by show i + 1 ≤ _; omega, rfl, rfl, by rw [take_snoc _ _ _ hz, ← List.append_assoc, orderGo_snoc, hins]; exact hw58⟩, by show w.length - (i + 1) < w.length - i; omega, ⟨rfl, rfl, rfl, rfl, rfl, rfl, rfl, rfl, rfl, trivial⟩⟩
        · refine T.exit (Post.thnE (Post.thnE (Post.blkX ?_)))
          refine id (Post.blkN ?_)
          refine id (Post.thnN ?_)
          refine T.region ?_
          refine R.addI rfl rfl rfl (by omega) ?_
          refine R.mvE rfl (by conv => lhs; whnf) ?_
          refine TL.nil (Post.thnN ?_)
          -- round's end, way yn
          have hix : i = w.length := by omega
          subst hix
          exact ⟨(k + 1, .slice Aw (orderGo xs a (((wavesL false xs a).take k).flatten ++ w.take w.length) []).length cw), s_0.trans s_1, ⟨by show k + 1 ≤ _; omega, rfl, rfl, by rw [flat_take hy]; have h9 := hv1; rw [List.take_length] at h9 ⊢; exact h9⟩, by show (wavesL false xs a).length - (k + 1) < (wavesL false xs a).length - k; omega, ⟨rfl, rfl, rfl, rfl, rfl, rfl, trivial⟩⟩
    · have hkx : k = (wavesL false xs a).length := by omega
      rw [hkx, List.take_length] at hv
      have hwo : orderGo xs a (wavesL false xs a).flatten [] = orderW xs a := rfl
      rw [hwo] at hv
      obtain ⟨Ao, po, rfl, mo, no, hv⟩ := hv.shape
      have hol : (orderW xs a).length = (wavesL false xs a).flatten.length := by rw [← hwo, orderGo_len]; simp
      refine T.exit (Post.thnE (Post.thnE (Post.blkX ?_)))
      refine id (Post.thnN ?_)
      refine T.seq ?_
      refine T.region ?_
      refine R.asE rfl (by conv => lhs; whnf) ?_
      refine TL.nil (Post.thnN ?_)
      refine T.seq ?_
      refine T.seq ?_
      refine T.nilc ?_
      refine T.region ?_
      refine R.mvE rfl (by conv => lhs; whnf) ?_
      refine R.len Try.underlying52 rfl rfl ?_
      refine R.mvE rfl (by conv => lhs; whnf) ?_
      refine TL.nil (Post.thnN ?_)
      refine T.block ?_
      refine T.loop (ι := Nat × Value × Chunk) (fun ⟨k, v, ch⟩ H' L' ds' => k ≤ (orderW xs a).length ∧ L' = [ch] ∧ ds' = [] ∧ OwnS (intE .i64) 3 H' v (((orderW xs a).take k).map lastI) ch) (fun ⟨k, v, ch⟩ => [(12, v), (61, .slice Ao (orderW xs a).length po), (62, .int .i64 (orderW xs a).length), (63, .int .i64 k)]) (fun ⟨k, v, ch⟩ => (orderW xs a).length - k) ((0, .slice none 0 0, [])) ?_ ?_ ?_
      · exact ⟨Nat.zero_le _, rfl, rfl, OwnS.nil⟩
      · exact ⟨rfl, rfl, rfl, rfl, trivial⟩
      · intro ⟨k, v, ch⟩ σ3 H_3 L_3 ds_3 s_3 hI_3
        obtain ⟨hk3, rfl, rfl, ho⟩ := hI_3
        refine T.seq ?_
        refine T.region ?_
        refine R.lss rfl rfl rfl ?_
        refine TL.nil (Post.thnN ?_)
        refine T.seq ?_
        refine T.condD rfl (fun c64 => ?_) (fun c64 => ?_)
        · have hlt : k < (orderW xs a).length := by omega
          obtain ⟨r, hq⟩ := getk hlt
          have hrn := order_in (List.mem_of_getElem? hq)
          refine T.skip (Post.thnN ?_)
          refine T.seq ?_
          refine T.block ?_
          refine T.seq ?_
          refine T.region ?_
          obtain ⟨b65, o65, i65, e65⟩ := (hv.mono s_3).elem (hq)
          refine R.ixp Try.underlying52 Try.sizeOf23 rfl rfl rfl (by omega) i65 ?_
          obtain ⟨v66, k66, r66⟩ := (e65).sl
          obtain ⟨A66, c66, rfl, m66, n66, r66⟩ := r66.shape
          refine R.ldC Try.isAgg23 rfl rfl k66 ?_
          refine R.asE rfl (by conv => lhs; whnf) ?_
          refine TL.nil (Post.thnN ?_)
          refine T.region ?_
          refine R.mvE rfl (by conv => lhs; whnf) ?_
          refine R.mvE rfl (by conv => lhs; whnf) ?_
          refine R.mvE rfl (by conv => lhs; whnf) ?_
          refine R.len Try.underlying23 rfl rfl ?_
          refine R.subI rfl rfl rfl (by omega) ?_
          obtain ⟨b72, o72, i72, e72⟩ := (r66).elem (lastI_at hrn)
          refine R.ixp Try.underlying23 Try.sizeOf3 rfl rfl rfl (by have := List.length_pos_iff.2 hrn; omega) i72 ?_
          refine R.ldC Try.isAgg3 rfl rfl (e72).int ?_
          refine R.bs rfl (run_buildSlice1 Try.underlying23 Try.sizeOf3 Try.zeroValue3 rfl rfl) ?_
          intro b74
          refine R.app (ys := [lastI r]) Try_ty23 rfl rfl rfl ho (.tl .hd) (Src.lit (vs := [.int .i64 (lastI r)]) .hd) ⟨[.int .i64 (lastI r)], [], rfl, rfl, rfl⟩ (by simp; omega) (by simp; omega) ?_
          intro v75 c75 w75
          refine TL.del (.tl .hd) ?_
          refine R.asE rfl (by conv => lhs; whnf) ?_
          refine TL.nil (Post.blkN ?_)
          refine id (Post.thnN ?_)
          refine T.region ?_
          refine R.addI rfl rfl rfl (by omega) ?_
          refine R.mvE rfl (by conv => lhs; whnf) ?_
          refine TL.nil (Post.thnN ?_)
          -- round's end, way ny
          exact ⟨(k + 1, v75, c75), s_3, ⟨by show k + 1 ≤ _; omega, rfl, rfl, by rw [take_snoc _ _ _ hq, List.map_append]; exact w75⟩, by show (orderW xs a).length - (k + 1) < (orderW xs a).length - k; omega, ⟨rfl, rfl, rfl, rfl, trivial⟩⟩
        · have hkx : k = (orderW xs a).length := by omega
          rw [hkx, List.take_length, order_eq] at ho
          refine T.exit (Post.thnE (Post.thnE (Post.blkX ?_)))
          refine id (Post.thnN ?_)
          refine T.seq ?_
          refine T.shut .hd ?_
          intro HW sW qW
          have hw := ho.read sW qW
          refine T.region ?_
          refine R.mvE rfl (by conv => lhs; whnf) ?_
          refine R.asE rfl (by conv => lhs; whnf) ?_
          refine TL.nil (Post.thnN ?_)
          refine T.ret ?_
          -- way nn
          exact fin1 rfl rfl ⟨rfl, hw⟩


set_option maxHeartbeats 1600000 in
theorem owner18_c (H : Heap) (v : Value) (xs : List Lk) (a : Int) (hr : RdS pairE H v xs) (hl : xs.length ≤ 1000) (u : Value) (os : List Int) (hr2 : RdS (intE .i64) H u os) : Fp Try.prog (fnv 27) [v, .int .i64 a, u] H (fun v' H' => RdS (intE .i64) H' v' (ownerW xs a os) ∧ (ownerW xs a os = [] → v' = .slice none 0 0)) := by
  refine Fc.of_body (N := 35) Try.func27 rfl (by kernel_rfl) rfl rfl ?_
  intro w0
  obtain ⟨A, c, rfl, hc1, hc2, hr⟩ := hr.shape
  obtain ⟨A2, c2, rfl, hc3, hc4, hr2⟩ := hr2.shape
  refine T.seq ?_
  refine T.region ?_
  refine R.asE rfl (by conv => lhs; whnf) ?_
  refine TL.nil (Post.thnN ?_)
  refine T.seq ?_
  refine T.region ?_
  refine R.asE rfl (by conv => lhs; whnf) ?_
  refine TL.nil (Post.thnN ?_)
  refine T.seq ?_
  refine T.seq ?_
  refine T.region ?_
  refine R.mvE rfl (by conv => lhs; whnf) ?_
  refine R.len Try.underlying23 rfl rfl ?_
  refine R.mvE rfl (by conv => lhs; whnf) ?_
  refine TL.nil (Post.thnN ?_)
  refine T.block ?_
  refine T.loop (ι := Nat × List Int × Value) (fun ⟨k, best, vb⟩ H' L' ds' => k ≤ os.length ∧ L' = [] ∧ ds' = [] ∧ RdS (intE .i64) H' vb best ∧ (best = [] → vb = .slice none 0 0) ∧ (ownerGo xs a (os.drop k) best) = ownerW xs a os) (fun ⟨k, best, vb⟩ => [(0, .slice A xs.length c), (1, .int .i64 a), (2, .slice A2 os.length c2), (7, vb), (11, .slice A2 os.length c2), (12, .int .i64 os.length), (13, .int .i64 k)]) (fun ⟨k, best, vb⟩ => os.length - k) ((0, [], .slice none 0 0)) ?_ ?_ ?_
  · exact ⟨Nat.zero_le _, rfl, rfl, RdS.nil, fun _ => rfl, rfl⟩
  · exact ⟨rfl, rfl, rfl, rfl, rfl, rfl, rfl, trivial⟩
  · intro ⟨k, best, vb⟩ σ0 H_0 L_0 ds_0 s_0 hI_0
    obtain ⟨hk, rfl, rfl, hb, hbn, hg⟩ := hI_0
    obtain ⟨Ab, cb, rfl, mb, nb, hb⟩ := hb.shape
    refine T.seq ?_
    refine T.region ?_
    refine R.lss rfl rfl rfl ?_
    refine TL.nil (Post.thnN ?_)
    refine T.seq ?_
    refine T.condD rfl (fun c14 => ?_) (fun c14 => ?_)
    · have hlt : k < os.length := by omega
      obtain ⟨o, hy⟩ := getk hlt
      refine T.skip (Post.thnN ?_)
      refine T.seq ?_
      refine T.block ?_
      refine T.seq ?_
      refine T.region ?_
      obtain ⟨b15, o15, i15, e15⟩ := (hr2.mono s_0).elem (hy)
      refine R.ixp Try.underlying23 Try.sizeOf3 rfl rfl rfl (by omega) i15 ?_
      refine R.ldC Try.isAgg3 rfl rfl (e15).int ?_
      refine R.asE rfl (by conv => lhs; whnf) ?_
      refine TL.nil (Post.thnN ?_)
      refine T.seq ?_
      refine T.region ?_
      refine R.mvE rfl (by conv => lhs; whnf) ?_
      refine R.mvE rfl (by conv => lhs; whnf) ?_
      refine R.mvE rfl (by conv => lhs; whnf) ?_
      refine R.callp rfl rfl rfl (way18_c _ _ xs a (hr.mono s_0) hl o) ?_
      intro v20 H20 s20 q20
      obtain ⟨q20, z20⟩ := q20
      obtain ⟨A20, c20, rfl, m20, n20, g20⟩ := q20.shape
      refine R.asE rfl (by conv => lhs; whnf) ?_
      refine TL.nil (Post.thnN ?_)
      refine T.seq ?_
      refine T.region ?_
      refine R.mvE rfl (by conv => lhs; whnf) ?_
      refine R.nilN Try.underlying23 rfl rfl rfl ?_
      refine TL.set 22 (.bool (!decide (wayR xs a o = []))) (congrArg Value.bool (by rw [isNone_of g20 z20])) ?_
      refine R.mvE rfl (by conv => lhs; whnf) ?_
      refine TL.gsplit 23 rfl (fun g23 => ?_) (fun g23 => ?_)
      · refine R.mvE rfl (by conv => lhs; whnf) ?_
        refine R.nilS Try.underlying23 rfl rfl rfl ?_
        refine TL.set 25 (.bool (decide (best = []))) (congrArg Value.bool (isNone_of hb hbn)) ?_
        refine R.mvE rfl (by conv => lhs; whnf) ?_
        refine TL.gsplit 26 rfl (fun g26 => ?_) (fun g26 => ?_)
        · refine TL.off rfl rfl rfl ?_
          refine TL.off rfl rfl rfl ?_
          refine TL.off rfl rfl rfl ?_
          refine R.pkTE rfl rfl (by conv => lhs; whnf) ?_
          refine R.pkTE rfl rfl (by conv => lhs; whnf) ?_
          refine TL.nil (Post.thnN ?_)
          refine T.condY rfl ?_
          refine T.region ?_
          refine R.mvE rfl (by conv => lhs; whnf) ?_
          refine R.asE rfl (by conv => lhs; whnf) ?_
          refine TL.nil (Post.blkN ?_)
          refine id (Post.thnN ?_)
          refine T.region ?_
          refine R.addI rfl rfl rfl (by omega) ?_
          refine R.mvE rfl (by conv => lhs; whnf) ?_
          refine TL.nil (Post.thnN ?_)
          -- round's end, way yyy
          exact ⟨(k + 1, wayR xs a o, .slice A20 (wayR xs a o).length c20), s_0.trans s20, ⟨by show k + 1 ≤ _; omega, rfl, rfl, g20, z20, by rw [← hg, drop_at hy, ownerGo_yes ⟨by simpa using g23, .inl (by simpa using g26)⟩]⟩, by show os.length - (k + 1) < os.length - k; omega, ⟨rfl, rfl, rfl, rfl, rfl, rfl, rfl, trivial⟩⟩ -- yyy
        · refine R.mvE rfl (by conv => lhs; whnf) ?_
          refine R.mvE rfl (by conv => lhs; whnf) ?_
          refine R.callv rfl rfl rfl (less18_c _ _ _ _ _ g20 (hb.mono s20)) ?_
          refine R.pkFE rfl rfl (by conv => lhs; whnf) ?_
          refine R.pkTE rfl rfl (by conv => lhs; whnf) ?_
          refine TL.nil (Post.thnN ?_)
          refine T.cond rfl (fun c31 => ?_) (fun c31 => ?_)
          · refine T.region ?_
            refine R.mvE rfl (by conv => lhs; whnf) ?_
            refine R.asE rfl (by conv => lhs; whnf) ?_
            refine TL.nil (Post.blkN ?_)
            refine id (Post.thnN ?_)
            refine T.region ?_
            refine R.addI rfl rfl rfl (by omega) ?_
            refine R.mvE rfl (by conv => lhs; whnf) ?_
            refine TL.nil (Post.thnN ?_)
            -- round's end, way yyny
            exact ⟨(k + 1, wayR xs a o, .slice A20 (wayR xs a o).length c20), s_0.trans s20, ⟨by show k + 1 ≤ _; omega, rfl, rfl, g20, z20, by rw [← hg, drop_at hy, ownerGo_yes ⟨by simpa using g23, .inr c31⟩]⟩, by show os.length - (k + 1) < os.length - k; omega, ⟨rfl, rfl, rfl, rfl, rfl, rfl, rfl, trivial⟩⟩ -- yyny
          · refine T.skip (Post.blkN ?_)
            refine id (Post.thnN ?_)
            refine T.region ?_
            refine R.addI rfl rfl rfl (by omega) ?_
            refine R.mvE rfl (by conv => lhs; whnf) ?_
            refine TL.nil (Post.thnN ?_)
            -- round's end, way yynn
            exact ⟨(k + 1, best, .slice Ab best.length cb), s_0.trans s20, ⟨by show k + 1 ≤ _; omega, rfl, rfl, hb.mono s20, hbn, by rw [← hg, drop_at hy, ownerGo_no (fun h => h.2.elim (fun h => by simp [h] at g26) (fun h => by rw [h] at c31; cases c31))]⟩, by show os.length - (k + 1) < os.length - k; omega, ⟨rfl, rfl, rfl, rfl, rfl, rfl, rfl, trivial⟩⟩ -- yynn
      · refine TL.off rfl rfl rfl ?_
        refine TL.off rfl rfl rfl ?_
        refine TL.off rfl rfl rfl ?_
        refine TL.offU rfl rfl ?_
        refine TL.offU rfl rfl ?_
        refine TL.offU rfl rfl ?_
        refine TL.off rfl rfl rfl ?_
        refine R.pkFE rfl rfl (by conv => lhs; whnf) ?_
        refine TL.nil (Post.thnN ?_)
        refine T.condN rfl ?_
        refine T.skip (Post.blkN ?_)
        refine id (Post.thnN ?_)
        refine T.region ?_
        refine R.addI rfl rfl rfl (by omega) ?_
        refine R.mvE rfl (by conv => lhs; whnf) ?_
        refine TL.nil (Post.thnN ?_)
        -- round's end, way yn
        exact ⟨(k + 1, best, .slice Ab best.length cb), s_0.trans s20, ⟨by show k + 1 ≤ _; omega, rfl, rfl, hb.mono s20, hbn, by rw [← hg, drop_at hy, ownerGo_no (fun h => h.1 (by simpa using g23))]⟩, by show os.length - (k + 1) < os.length - k; omega, ⟨rfl, rfl, rfl, rfl, rfl, rfl, rfl, trivial⟩⟩ -- yn
    · have hkx : k = os.length := by omega
      subst hkx
      rw [List.drop_length] at hg
      have he : best = ownerW xs a os := hg
      subst he
      refine T.exit (Post.thnE (Post.thnE (Post.blkX ?_)))
      refine id (Post.thnN ?_)
      refine T.seq ?_
      refine T.region ?_
      refine R.mvE rfl (by conv => lhs; whnf) ?_
      refine R.asE rfl (by conv => lhs; whnf) ?_
      refine TL.nil (Post.thnN ?_)
      refine T.ret ?_
      -- way n
      exact fin1 rfl rfl ⟨rfl, hb, hbn⟩


set_option maxHeartbeats 1600000 in
theorem heirs18_c (H : Heap) (v u : Value) (xs : List Lk) (f : Int) (os : List Int) (hr : RdS pairE H v xs) (hl : xs.length ≤ 1000) (hr2 : RdS (intE .i64) H u os) : Fp Try.prog (fnv 26) [v, .int .i64 f, u] H (fun v' H' => RdS (intE .i64) H' v' (heirsQK xs f os xs.length)) := by
  refine Fc.of_body (N := 63) Try.func26 rfl (by kernel_rfl) rfl rfl ?_
  intro w0
  obtain ⟨A, c, rfl, hc1, hc2, hr⟩ := hr.shape
  obtain ⟨A2, c2, rfl, hc3, hc4, hr2⟩ := hr2.shape
  refine T.seq ?_
  refine T.region ?_
  refine R.asE rfl (by conv => lhs; whnf) ?_
  refine TL.nil (Post.thnN ?_)
  refine T.seq ?_
  refine T.region ?_
  refine R.asE rfl (by conv => lhs; whnf) ?_
  refine TL.nil (Post.thnN ?_)
  refine T.seq ?_
  refine T.seq ?_
  refine T.nilc ?_
  refine T.region ?_
  refine R.mvE rfl (by conv => lhs; whnf) ?_
  refine R.len Try.underlying22 rfl rfl ?_
  refine R.mvE rfl (by conv => lhs; whnf) ?_
  refine TL.nil (Post.thnN ?_)
  refine T.block ?_
  refine T.loop (ι := Nat × Value × Chunk) (fun ⟨k, v, ch⟩ H' L' ds' => k ≤ xs.length ∧ L' = [ch] ∧ ds' = [] ∧ OwnS (intE .i64) 3 H' v (heirsQK xs f os k) ch) (fun ⟨k, v, ch⟩ => [(0, .slice A xs.length c), (1, .int .i64 f), (2, .slice A2 os.length c2), (7, v), (11, .slice A xs.length c), (12, .int .i64 xs.length), (13, .int .i64 k)]) (fun ⟨k, v, ch⟩ => xs.length - k) ((0, .slice none 0 0, [])) ?_ ?_ ?_
  · exact ⟨Nat.zero_le _, rfl, rfl, OwnS.nil⟩
  · exact ⟨rfl, rfl, rfl, rfl, rfl, rfl, rfl, trivial⟩
  · intro ⟨k, v, ch⟩ σ0 H_0 L_0 ds_0 s_0 hI_0
    obtain ⟨hk, rfl, rfl, ho⟩ := hI_0
    have hkl := heirsQK_len xs f os k
    refine T.seq ?_
    refine T.region ?_
    refine R.lss rfl rfl rfl ?_
    refine TL.nil (Post.thnN ?_)
    refine T.seq ?_
    refine T.condD rfl (fun c14 => ?_) (fun c14 => ?_)
    · have hlt : k < xs.length := by omega
      obtain ⟨y, hy⟩ := getk hlt
      refine T.skip (Post.thnN ?_)
      refine T.seq ?_
      refine T.block ?_
      refine T.seq ?_
      refine T.region ?_
      refine R.mvE rfl (by conv => lhs; whnf) ?_
      obtain ⟨b16, o16, i16, e16⟩ := (hr.mono s_0).elem (hy)
      refine R.ixp Try.underlying22 Try.sizeOf37 rfl rfl rfl (by omega) i16 ?_
      refine R.ldP Try.isAgg37 Try.sizeOf37 rfl rfl (e16) ?_
      refine R.alloc Try.zeroValue37 rfl ?_
      intro b9
      refine R.asE rfl (by conv => lhs; whnf) ?_
      refine R.stA (old := [.int .i64 0, .int .i64 0]) Try.sizeOf37 rfl rfl rfl rfl rfl (by intro v hv; simp at hv; rcases hv with rfl | rfl <;> rfl) .hd ?_
      refine TL.nil (Post.thnN ?_)
      refine T.seq ?_
      refine T.shut .hd ?_
      intro H9 s9 q9
      have h9 : H9 b9 = some (.cells #[.int .i64 y.1, .int .i64 y.2] 37) := shut1 q9
      refine T.region ?_
      refine R.mvE rfl (by conv => lhs; whnf) ?_
      refine R.fldA Try.underlying37 rfl Try.sizeOf3 (by decide) rfl rfl ?_
      refine R.ldH Try.isAgg3 rfl rfl (h9) rfl ?_
      refine R.mvE rfl (by conv => lhs; whnf) ?_
      refine R.callp rfl rfl rfl (owner18_c _ _ xs y.1 ((hr.mono s_0).mono s9) hl _ os ((hr2.mono s_0).mono s9)) ?_
      intro v22 H22 s22 q22
      obtain ⟨q22, z22⟩ := q22
      obtain ⟨A22, c22, rfl, m22, n22, g22⟩ := q22.shape
      refine R.asE rfl (by conv => lhs; whnf) ?_
      refine TL.nil (Post.thnN ?_)
      refine T.seq ?_
      refine T.draw Try_mixed (by kernel_rfl) ?_
      refine Plan.v 0 [1, 2, 3, 4, 5, 6, 7, 8, 9, 10, 11, 12, 13, 14, 15, 16, 17, 18, 19, 20, 21, 22, 23, 24, 25, 26, 27, 28, 29, 30, 31, 32] (by kernel_rfl) (by kernel_rfl) (by kernel_rfl) (by kernel_rfl) rfl (fun _ _ h_ => R.mvE rfl (by conv => lhs; whnf) (TL.nil h_)) ?_
      refine Plan.v 1 [2, 3, 4, 5, 6, 7, 8, 9, 10, 11, 12, 13, 14, 15, 16, 17, 18, 19, 20, 21, 22, 23, 24, 25, 26, 27, 28, 29, 30, 31, 32] (by kernel_rfl) (by kernel_rfl) (by kernel_rfl) (by kernel_rfl) rfl (fun _ _ h_ => R.eql rfl rfl rfl (TL.nil h_)) ?_
      refine Plan.v 2 [3, 4, 5, 6, 7, 8, 9, 10, 11, 12, 13, 14, 15, 16, 17, 18, 19, 20, 21, 22, 23, 24, 25, 26, 27, 28, 29, 30, 31, 32] (by kernel_rfl) (by kernel_rfl) (by kernel_rfl) (by kernel_rfl) rfl (fun _ _ h_ => R.mvE rfl (by conv => lhs; whnf) (TL.nil h_)) ?_
      refine Plan.gsplitD 25 rfl (fun g25 => ?_) (fun g25 => ?_)
      · refine Plan.v 3 [4, 5, 6, 7, 8, 9, 10, 11, 12, 13, 14, 15, 16, 17, 18, 19, 20, 21, 22, 23, 24, 25, 26, 27, 28, 29, 30, 31, 32] (by kernel_rfl) (by kernel_rfl) (by kernel_rfl) (by kernel_rfl) rfl (fun _ _ h_ => TL.off rfl rfl rfl (TL.nil h_)) ?_
        refine Plan.v 4 [5, 6, 7, 8, 9, 10, 11, 12, 13, 14, 15, 16, 17, 18, 19, 20, 21, 22, 23, 24, 25, 26, 27, 28, 29, 30, 31, 32] (by kernel_rfl) (by kernel_rfl) (by kernel_rfl) (by kernel_rfl) rfl (fun _ _ h_ => TL.off rfl rfl rfl (TL.nil h_)) ?_
        refine Plan.v 5 [6, 7, 8, 9, 10, 11, 12, 13, 14, 15, 16, 17, 18, 19, 20, 21, 22, 23, 24, 25, 26, 27, 28, 29, 30, 31, 32] (by kernel_rfl) (by kernel_rfl) (by kernel_rfl) (by kernel_rfl) rfl (fun _ _ h_ => TL.off rfl rfl rfl (TL.nil h_)) ?_
        refine Plan.v 6 [7, 8, 9, 10, 11, 12, 13, 14, 15, 16, 17, 18, 19, 20, 21, 22, 23, 24, 25, 26, 27, 28, 29, 30, 31, 32] (by kernel_rfl) (by kernel_rfl) (by kernel_rfl) (by kernel_rfl) rfl (fun _ _ h_ => TL.off rfl rfl rfl (TL.nil h_)) ?_
        refine Plan.v 7 [8, 9, 10, 11, 12, 13, 14, 15, 16, 17, 18, 19, 20, 21, 22, 23, 24, 25, 26, 27, 28, 29, 30, 31, 32] (by kernel_rfl) (by kernel_rfl) (by kernel_rfl) (by kernel_rfl) rfl (fun _ _ h_ => TL.off rfl rfl rfl (TL.nil h_)) ?_
        refine Plan.v 8 [9, 10, 11, 12, 13, 14, 15, 16, 17, 18, 19, 20, 21, 22, 23, 24, 25, 26, 27, 28, 29, 30, 31, 32] (by kernel_rfl) (by kernel_rfl) (by kernel_rfl) (by kernel_rfl) rfl (fun _ _ h_ => TL.off rfl rfl rfl (TL.nil h_)) ?_
        refine Plan.v 9 [10, 11, 12, 13, 14, 15, 16, 17, 18, 19, 20, 21, 22, 23, 24, 25, 26, 27, 28, 29, 30, 31, 32] (by kernel_rfl) (by kernel_rfl) (by kernel_rfl) (by kernel_rfl) rfl (fun _ _ h_ => TL.off rfl rfl rfl (TL.nil h_)) ?_
        refine Plan.v 10 [11, 12, 13, 14, 15, 16, 17, 18, 19, 20, 21, 22, 23, 24, 25, 26, 27, 28, 29, 30, 31, 32] (by kernel_rfl) (by kernel_rfl) (by kernel_rfl) (by kernel_rfl) rfl (fun _ _ h_ => TL.off rfl rfl rfl (TL.nil h_)) ?_
        refine Plan.v 11 [12, 13, 14, 15, 16, 17, 18, 19, 20, 21, 22, 23, 24, 25, 26, 27, 28, 29, 30, 31, 32] (by kernel_rfl) (by kernel_rfl) (by kernel_rfl) (by kernel_rfl) rfl (fun _ _ h_ => TL.off rfl rfl rfl (TL.nil h_)) ?_
        refine Plan.v 12 [13, 14, 15, 16, 17, 18, 19, 20, 21, 22, 23, 24, 25, 26, 27, 28, 29, 30, 31, 32] (by kernel_rfl) (by kernel_rfl) (by kernel_rfl) (by kernel_rfl) rfl (fun _ _ h_ => R.pkTE rfl rfl (by conv => lhs; whnf) (TL.nil h_)) ?_
        refine Plan.v 13 [14, 15, 16, 17, 18, 19, 20, 21, 22, 23, 24, 25, 26, 27, 28, 29, 30, 31, 32] (by kernel_rfl) (by kernel_rfl) (by kernel_rfl) (by kernel_rfl) rfl (fun _ _ h_ => R.mvE rfl (by conv => lhs; whnf) (TL.nil h_)) ?_
        refine Plan.v 14 [15, 16, 17, 18, 19, 20, 21, 22, 23, 24, 25, 26, 27, 28, 29, 30, 31, 32] (by kernel_rfl) (by kernel_rfl) (by kernel_rfl) (by kernel_rfl) rfl (fun _ _ h_ => R.fldA Try.underlying37 rfl Try.sizeOf3 (by decide) rfl rfl (TL.nil h_)) ?_
        refine Plan.v 15 [16, 17, 18, 19, 20, 21, 22, 23, 24, 25, 26, 27, 28, 29, 30, 31, 32] (by kernel_rfl) (by kernel_rfl) (by kernel_rfl) (by kernel_rfl) rfl (fun _ _ h_ => R.ldH Try.isAgg3 rfl rfl (s22 _ _ h9) rfl (TL.nil h_)) ?_
        refine Plan.v 16 [17, 18, 19, 20, 21, 22, 23, 24, 25, 26, 27, 28, 29, 30, 31, 32] (by kernel_rfl) (by kernel_rfl) (by kernel_rfl) (by kernel_rfl) rfl (fun _ _ h_ => R.mvE rfl (by conv => lhs; whnf) (TL.nil h_)) ?_
        refine Plan.v 17 [18, 19, 20, 21, 22, 23, 24, 25, 26, 27, 28, 29, 30, 31, 32] (by kernel_rfl) (by kernel_rfl) (by kernel_rfl) (by kernel_rfl) rfl (fun _ _ h_ => R.neq rfl rfl rfl (TL.nil h_)) ?_
        refine Plan.v 18 [19, 20, 21, 22, 23, 24, 25, 26, 27, 28, 29, 30, 31, 32] (by kernel_rfl) (by kernel_rfl) (by kernel_rfl) (by kernel_rfl) rfl (fun _ _ h_ => R.pkTE rfl rfl (by conv => lhs; whnf) (TL.nil h_)) ?_
        refine Plan.v 19 [20, 21, 22, 23, 24, 25, 26, 27, 28, 29, 30, 31, 32] (by kernel_rfl) (by kernel_rfl) (by kernel_rfl) (by kernel_rfl) rfl (fun _ _ h_ => R.mvE rfl (by conv => lhs; whnf) (TL.nil h_)) ?_
        refine Plan.gsplitD 42 rfl (fun g42 => ?_) (fun g42 => ?_)
        · refine Plan.v 20 [21, 22, 23, 24, 25, 26, 27, 28, 29, 30, 31, 32] (by kernel_rfl) (by kernel_rfl) (by kernel_rfl) (by kernel_rfl) rfl (fun _ _ h_ => R.mvE rfl (by conv => lhs; whnf) (TL.nil h_)) ?_
          refine Plan.v 21 [22, 23, 24, 25, 26, 27, 28, 29, 30, 31, 32] (by kernel_rfl) (by kernel_rfl) (by kernel_rfl) (by kernel_rfl) rfl (fun _ _ h_ => R.nilN Try.underlying23 rfl rfl rfl (TL.nil h_)) ?_
          refine Plan.v 22 [23, 24, 25, 26, 27, 28, 29, 30, 31, 32] (by kernel_rfl) (by kernel_rfl) (by kernel_rfl) (by kernel_rfl) rfl (fun _ _ h_ => R.pkTE rfl rfl (by conv => lhs; whnf) (TL.nil h_)) ?_
          refine Plan.v 23 [24, 25, 26, 27, 28, 29, 30, 31, 32] (by kernel_rfl) (by kernel_rfl) (by kernel_rfl) (by kernel_rfl) rfl (fun _ _ h_ => R.mvE rfl (by conv => lhs; whnf) (TL.nil h_)) ?_
          refine Plan.gsplit 46 rfl (fun g46 => ?_) (fun g46 => ?_)
          · have hrn : ownerW xs y.1 os ≠ [] := fun e => by
              rw [isNone_of g22 z22, e] at g46; simp at g46
            refine Plan.v 24 [25, 26, 27, 28, 29, 30, 31, 32] (by kernel_rfl) (by kernel_rfl) (by kernel_rfl) (by kernel_rfl) rfl (fun _ _ h_ => R.mvE rfl (by conv => lhs; whnf) (TL.nil h_)) ?_
            refine Plan.v 25 [26, 27, 28, 29, 30, 31, 32] (by kernel_rfl) (by kernel_rfl) (by kernel_rfl) (by kernel_rfl) rfl (fun _ _ h_ => R.mvE rfl (by conv => lhs; whnf) (TL.nil h_)) ?_
            refine Plan.v 26 [27, 28, 29, 30, 31, 32] (by kernel_rfl) (by kernel_rfl) (by kernel_rfl) (by kernel_rfl) rfl (fun _ _ h_ => R.len Try.underlying23 rfl rfl (TL.nil h_)) ?_
            refine Plan.v 27 [28, 29, 30, 31, 32] (by kernel_rfl) (by kernel_rfl) (by kernel_rfl) (by kernel_rfl) rfl (fun _ _ h_ => R.subI rfl rfl rfl (by omega) (TL.nil h_)) ?_
            obtain ⟨b51, o51, i51, e51⟩ := (g22).elem (lastI_at hrn)
            refine Plan.v 28 [29, 30, 31, 32] (by kernel_rfl) (by kernel_rfl) (by kernel_rfl) (by kernel_rfl) rfl (fun _ _ h_ => R.ixp Try.underlying23 Try.sizeOf3 rfl rfl rfl (by have := List.length_pos_iff.2 hrn; omega) i51 (TL.nil h_)) ?_
            refine Plan.v 29 [30, 31, 32] (by kernel_rfl) (by kernel_rfl) (by kernel_rfl) (by kernel_rfl) rfl (fun _ _ h_ => R.ldC Try.isAgg3 rfl rfl (e51).int (TL.nil h_)) ?_
            refine Plan.v 30 [31, 32] (by kernel_rfl) (by kernel_rfl) (by kernel_rfl) (by kernel_rfl) rfl (fun _ _ h_ => R.mvE rfl (by conv => lhs; whnf) (TL.nil h_)) ?_
            refine Plan.v 31 [32] (by kernel_rfl) (by kernel_rfl) (by kernel_rfl) (by kernel_rfl) rfl (fun _ _ h_ => R.eql rfl rfl rfl (TL.nil h_)) ?_
            refine Plan.v 32 [] (by kernel_rfl) (by kernel_rfl) (by kernel_rfl) (by kernel_rfl) rfl (fun _ _ h_ => R.pkTE rfl rfl (by conv => lhs; whnf) (TL.nil h_)) ?_
            refine Plan.done (Post.thnN ?_)
            refine T.condD rfl (fun c55 => ?_) (fun c55 => ?_)
            · refine T.region ?_
              refine R.mvE rfl (by conv => lhs; whnf) ?_
              refine R.fldA Try.underlying37 rfl Try.sizeOf3 (by decide) rfl rfl ?_
              refine R.ldH Try.isAgg3 rfl rfl (s22 _ _ h9) rfl ?_
              refine R.bs rfl (run_buildSlice1 Try.underlying23 Try.sizeOf3 Try.zeroValue3 rfl rfl) ?_
              intro b59
              refine R.app (ys := [y.1]) Try_ty23 rfl rfl rfl ((ho.mono s9).mono s22) (.tl .hd) (Src.lit (vs := [.int .i64 y.1]) .hd) ⟨[.int .i64 y.1], [], rfl, rfl, rfl⟩ (by simp; omega) (by simp; omega) ?_
              intro v60 c60 w60
              refine TL.del (.tl .hd) ?_
              refine R.asE rfl (by conv => lhs; whnf) ?_
              refine TL.nil (Post.blkN ?_)
              refine id (Post.thnN ?_)
              refine T.region ?_
              refine R.addI rfl rfl rfl (by omega) ?_
              refine R.mvE rfl (by conv => lhs; whnf) ?_
              refine TL.nil (Post.thnN ?_)
              -- round's end, way yyyyy
              exact ⟨(k + 1, v60, c60), s_0.trans (s9.trans s22), ⟨by show k + 1 ≤ _; omega, rfl, rfl, by rw [heirsQK_yes hy (by unfold heirQ; rw [hy]; simp only [decide_eq_true (show k = 0 by omega), decide_eq_false g42, decide_eq_false hrn, decide_eq_true c55]; rfl)]; exact w60⟩, by show xs.length - (k + 1) < xs.length - k; omega, ⟨rfl, rfl, rfl, rfl, rfl, rfl, rfl, trivial⟩⟩
            · refine T.skip (Post.blkN ?_)
              refine id (Post.thnN ?_)
              refine T.region ?_
              refine R.addI rfl rfl rfl (by omega) ?_
              refine R.mvE rfl (by conv => lhs; whnf) ?_
              refine TL.nil (Post.thnN ?_)
              -- round's end, way yyyyn
              exact ⟨(k + 1, v, ch), s_0.trans (s9.trans s22), ⟨by show k + 1 ≤ _; omega, rfl, rfl, by rw [heirsQK_no (by unfold heirQ; rw [hy]; simp only [decide_eq_false c55, Bool.and_false])]; exact (ho.mono s9).mono s22⟩, by show xs.length - (k + 1) < xs.length - k; omega, ⟨rfl, rfl, rfl, rfl, rfl, rfl, rfl, trivial⟩⟩
          · have hrn : ownerW xs y.1 os = [] := by
              rw [isNone_of g22 z22] at g46; simpa using g46
            refine Plan.v 24 [25, 26, 27, 28, 29, 30, 31, 32] (by kernel_rfl) (by kernel_rfl) (by kernel_rfl) (by kernel_rfl) rfl (fun _ _ h_ => TL.off rfl rfl rfl (TL.nil h_)) ?_
            refine Plan.v 25 [26, 27, 28, 29, 30, 31, 32] (by kernel_rfl) (by kernel_rfl) (by kernel_rfl) (by kernel_rfl) rfl (fun _ _ h_ => TL.off rfl rfl rfl (TL.nil h_)) ?_
            refine Plan.v 26 [27, 28, 29, 30, 31, 32] (by kernel_rfl) (by kernel_rfl) (by kernel_rfl) (by kernel_rfl) rfl (fun _ _ h_ => TL.off rfl rfl rfl (TL.nil h_)) ?_
            refine Plan.v 27 [28, 29, 30, 31, 32] (by kernel_rfl) (by kernel_rfl) (by kernel_rfl) (by kernel_rfl) rfl (fun _ _ h_ => TL.off rfl rfl rfl (TL.nil h_)) ?_
            refine Plan.v 28 [29, 30, 31, 32] (by kernel_rfl) (by kernel_rfl) (by kernel_rfl) (by kernel_rfl) rfl (fun _ _ h_ => TL.off rfl rfl rfl (TL.nil h_)) ?_
            refine Plan.v 29 [30, 31, 32] (by kernel_rfl) (by kernel_rfl) (by kernel_rfl) (by kernel_rfl) rfl (fun _ _ h_ => TL.off rfl rfl rfl (TL.nil h_)) ?_
            refine Plan.v 30 [31, 32] (by kernel_rfl) (by kernel_rfl) (by kernel_rfl) (by kernel_rfl) rfl (fun _ _ h_ => TL.off rfl rfl rfl (TL.nil h_)) ?_
            refine Plan.v 31 [32] (by kernel_rfl) (by kernel_rfl) (by kernel_rfl) (by kernel_rfl) rfl (fun _ _ h_ => TL.off rfl rfl rfl (TL.nil h_)) ?_
            refine Plan.v 32 [] (by kernel_rfl) (by kernel_rfl) (by kernel_rfl) (by kernel_rfl) rfl (fun _ _ h_ => R.pkFE rfl rfl (by conv => lhs; whnf) (TL.nil h_)) ?_
            refine Plan.done (Post.thnN ?_)
            refine T.condN rfl ?_
            refine T.skip (Post.blkN ?_)
            refine id (Post.thnN ?_)
            refine T.region ?_
            refine R.addI rfl rfl rfl (by omega) ?_
            refine R.mvE rfl (by conv => lhs; whnf) ?_
            refine TL.nil (Post.thnN ?_)
            -- round's end, way yyyn
            exact ⟨(k + 1, v, ch), s_0.trans (s9.trans s22), ⟨by show k + 1 ≤ _; omega, rfl, rfl, by rw [heirsQK_no (by unfold heirQ; rw [hy]; simp only [decide_eq_true hrn, Bool.not_true, Bool.and_false, Bool.false_and])]; exact (ho.mono s9).mono s22⟩, by show xs.length - (k + 1) < xs.length - k; omega, ⟨rfl, rfl, rfl, rfl, rfl, rfl, rfl, trivial⟩⟩
        · refine Plan.v 20 [21, 22, 23, 24, 25, 26, 27, 28, 29, 30, 31, 32] (by kernel_rfl) (by kernel_rfl) (by kernel_rfl) (by kernel_rfl) rfl (fun _ _ h_ => TL.off rfl rfl rfl (TL.nil h_)) ?_
          refine Plan.v 21 [22, 23, 24, 25, 26, 27, 28, 29, 30, 31, 32] (by kernel_rfl) (by kernel_rfl) (by kernel_rfl) (by kernel_rfl) rfl (fun _ _ h_ => TL.off rfl rfl rfl (TL.nil h_)) ?_
          refine Plan.v 22 [23, 24, 25, 26, 27, 28, 29, 30, 31, 32] (by kernel_rfl) (by kernel_rfl) (by kernel_rfl) (by kernel_rfl) rfl (fun _ _ h_ => R.pkFE rfl rfl (by conv => lhs; whnf) (TL.nil h_)) ?_
          refine Plan.v 23 [24, 25, 26, 27, 28, 29, 30, 31, 32] (by kernel_rfl) (by kernel_rfl) (by kernel_rfl) (by kernel_rfl) rfl (fun _ _ h_ => R.mvE rfl (by conv => lhs; whnf) (TL.nil h_)) ?_
          refine Plan.v 24 [25, 26, 27, 28, 29, 30, 31, 32] (by kernel_rfl) (by kernel_rfl) (by kernel_rfl) (by kernel_rfl) rfl (fun _ _ h_ => TL.off rfl rfl rfl (TL.nil h_)) ?_
          refine Plan.v 25 [26, 27, 28, 29, 30, 31, 32] (by kernel_rfl) (by kernel_rfl) (by kernel_rfl) (by kernel_rfl) rfl (fun _ _ h_ => TL.off rfl rfl rfl (TL.nil h_)) ?_
          refine Plan.v 26 [27, 28, 29, 30, 31, 32] (by kernel_rfl) (by kernel_rfl) (by kernel_rfl) (by kernel_rfl) rfl (fun _ _ h_ => TL.off rfl rfl rfl (TL.nil h_)) ?_
          refine Plan.v 27 [28, 29, 30, 31, 32] (by kernel_rfl) (by kernel_rfl) (by kernel_rfl) (by kernel_rfl) rfl (fun _ _ h_ => TL.off rfl rfl rfl (TL.nil h_)) ?_
          refine Plan.v 28 [29, 30, 31, 32] (by kernel_rfl) (by kernel_rfl) (by kernel_rfl) (by kernel_rfl) rfl (fun _ _ h_ => TL.off rfl rfl rfl (TL.nil h_)) ?_
          refine Plan.v 29 [30, 31, 32] (by kernel_rfl) (by kernel_rfl) (by kernel_rfl) (by kernel_rfl) rfl (fun _ _ h_ => TL.off rfl rfl rfl (TL.nil h_)) ?_
          refine Plan.v 30 [31, 32] (by kernel_rfl) (by kernel_rfl) (by kernel_rfl) (by kernel_rfl) rfl (fun _ _ h_ => TL.off rfl rfl rfl (TL.nil h_)) ?_
          refine Plan.v 31 [32] (by kernel_rfl) (by kernel_rfl) (by kernel_rfl) (by kernel_rfl) rfl (fun _ _ h_ => TL.off rfl rfl rfl (TL.nil h_)) ?_
          refine Plan.v 32 [] (by kernel_rfl) (by kernel_rfl) (by kernel_rfl) (by kernel_rfl) rfl (fun _ _ h_ => R.pkFE rfl rfl (by conv => lhs; whnf) (TL.nil h_)) ?_
          refine Plan.done (Post.thnN ?_)
          refine T.condN rfl ?_
          refine T.skip (Post.blkN ?_)
          refine id (Post.thnN ?_)
          refine T.region ?_
          refine R.addI rfl rfl rfl (by omega) ?_
          refine R.mvE rfl (by conv => lhs; whnf) ?_
          refine TL.nil (Post.thnN ?_)
          -- round's end, way yyn
          exact ⟨(k + 1, v, ch), s_0.trans (s9.trans s22), ⟨by show k + 1 ≤ _; omega, rfl, rfl, by rw [heirsQK_no (by unfold heirQ; rw [hy]; simp only [decide_eq_true (Decidable.of_not_not g42), Bool.not_true, Bool.and_false, Bool.false_and])]; exact (ho.mono s9).mono s22⟩, by show xs.length - (k + 1) < xs.length - k; omega, ⟨rfl, rfl, rfl, rfl, rfl, rfl, rfl, trivial⟩⟩
      · obtain ⟨y', hy'⟩ := getk (xs := xs) (k := ((k : Int) - 1).toNat) (by omega)
        have hy'' : xs[k - 1]? = some y' := by rw [← hy']; congr 1; omega
        refine Plan.v 3 [4, 5, 6, 7, 8, 9, 10, 11, 12, 13, 14, 15, 16, 17, 18, 19, 20, 21, 22, 23, 24, 25, 26, 27, 28, 29, 30, 31, 32] (by kernel_rfl) (by kernel_rfl) (by kernel_rfl) (by kernel_rfl) rfl (fun _ _ h_ => R.mvE rfl (by conv => lhs; whnf) (TL.nil h_)) ?_
        refine Plan.v 4 [5, 6, 7, 8, 9, 10, 11, 12, 13, 14, 15, 16, 17, 18, 19, 20, 21, 22, 23, 24, 25, 26, 27, 28, 29, 30, 31, 32] (by kernel_rfl) (by kernel_rfl) (by kernel_rfl) (by kernel_rfl) rfl (fun _ _ h_ => R.mvE rfl (by conv => lhs; whnf) (TL.nil h_)) ?_
        refine Plan.v 5 [6, 7, 8, 9, 10, 11, 12, 13, 14, 15, 16, 17, 18, 19, 20, 21, 22, 23, 24, 25, 26, 27, 28, 29, 30, 31, 32] (by kernel_rfl) (by kernel_rfl) (by kernel_rfl) (by kernel_rfl) rfl (fun _ _ h_ => R.subI rfl rfl rfl (by omega) (TL.nil h_)) ?_
        obtain ⟨b29, o29, i29, e29⟩ := (((hr.mono s_0).mono s9).mono s22).elem (hy')
        refine Plan.v 6 [7, 8, 9, 10, 11, 12, 13, 14, 15, 16, 17, 18, 19, 20, 21, 22, 23, 24, 25, 26, 27, 28, 29, 30, 31, 32] (by kernel_rfl) (by kernel_rfl) (by kernel_rfl) (by kernel_rfl) rfl (fun _ _ h_ => R.ixp Try.underlying22 Try.sizeOf37 rfl rfl rfl (by omega) i29 (TL.nil h_)) ?_
        refine Plan.v 7 [8, 9, 10, 11, 12, 13, 14, 15, 16, 17, 18, 19, 20, 21, 22, 23, 24, 25, 26, 27, 28, 29, 30, 31, 32] (by kernel_rfl) (by kernel_rfl) (by kernel_rfl) (by kernel_rfl) rfl (fun _ _ h_ => R.fldA Try.underlying37 rfl Try.sizeOf3 (by decide) rfl rfl (TL.nil h_)) ?_
        refine Plan.v 8 [9, 10, 11, 12, 13, 14, 15, 16, 17, 18, 19, 20, 21, 22, 23, 24, 25, 26, 27, 28, 29, 30, 31, 32] (by kernel_rfl) (by kernel_rfl) (by kernel_rfl) (by kernel_rfl) rfl (fun _ _ h_ => R.ldC Try.isAgg3 rfl rfl e29.fst (TL.nil h_)) ?_
        refine Plan.v 9 [10, 11, 12, 13, 14, 15, 16, 17, 18, 19, 20, 21, 22, 23, 24, 25, 26, 27, 28, 29, 30, 31, 32] (by kernel_rfl) (by kernel_rfl) (by kernel_rfl) (by kernel_rfl) rfl (fun _ _ h_ => R.fldA Try.underlying37 rfl Try.sizeOf3 (by decide) rfl rfl (TL.nil h_)) ?_
        refine Plan.v 10 [11, 12, 13, 14, 15, 16, 17, 18, 19, 20, 21, 22, 23, 24, 25, 26, 27, 28, 29, 30, 31, 32] (by kernel_rfl) (by kernel_rfl) (by kernel_rfl) (by kernel_rfl) rfl (fun _ _ h_ => R.ldH Try.isAgg3 rfl rfl (s22 _ _ h9) rfl (TL.nil h_)) ?_
        refine Plan.v 11 [12, 13, 14, 15, 16, 17, 18, 19, 20, 21, 22, 23, 24, 25, 26, 27, 28, 29, 30, 31, 32] (by kernel_rfl) (by kernel_rfl) (by kernel_rfl) (by kernel_rfl) rfl (fun _ _ h_ => R.neq rfl rfl rfl (TL.nil h_)) ?_
        refine Plan.v 12 [13, 14, 15, 16, 17, 18, 19, 20, 21, 22, 23, 24, 25, 26, 27, 28, 29, 30, 31, 32] (by kernel_rfl) (by kernel_rfl) (by kernel_rfl) (by kernel_rfl) rfl (fun _ _ h_ => R.pkFE rfl rfl (by conv => lhs; whnf) (TL.nil h_)) ?_
        refine Plan.v 13 [14, 15, 16, 17, 18, 19, 20, 21, 22, 23, 24, 25, 26, 27, 28, 29, 30, 31, 32] (by kernel_rfl) (by kernel_rfl) (by kernel_rfl) (by kernel_rfl) rfl (fun _ _ h_ => R.mvE rfl (by conv => lhs; whnf) (TL.nil h_)) ?_
        refine Plan.gsplitD 36 rfl (fun g36 => ?_) (fun g36 => ?_)
        · refine Plan.v 14 [15, 16, 17, 18, 19, 20, 21, 22, 23, 24, 25, 26, 27, 28, 29, 30, 31, 32] (by kernel_rfl) (by kernel_rfl) (by kernel_rfl) (by kernel_rfl) rfl (fun _ _ h_ => R.fldA Try.underlying37 rfl Try.sizeOf3 (by decide) rfl rfl (TL.nil h_)) ?_
          refine Plan.v 15 [16, 17, 18, 19, 20, 21, 22, 23, 24, 25, 26, 27, 28, 29, 30, 31, 32] (by kernel_rfl) (by kernel_rfl) (by kernel_rfl) (by kernel_rfl) rfl (fun _ _ h_ => R.ldH Try.isAgg3 rfl rfl (s22 _ _ h9) rfl (TL.nil h_)) ?_
          refine Plan.v 16 [17, 18, 19, 20, 21, 22, 23, 24, 25, 26, 27, 28, 29, 30, 31, 32] (by kernel_rfl) (by kernel_rfl) (by kernel_rfl) (by kernel_rfl) rfl (fun _ _ h_ => R.mvE rfl (by conv => lhs; whnf) (TL.nil h_)) ?_
          refine Plan.v 17 [18, 19, 20, 21, 22, 23, 24, 25, 26, 27, 28, 29, 30, 31, 32] (by kernel_rfl) (by kernel_rfl) (by kernel_rfl) (by kernel_rfl) rfl (fun _ _ h_ => R.neq rfl rfl rfl (TL.nil h_)) ?_
          refine Plan.v 18 [19, 20, 21, 22, 23, 24, 25, 26, 27, 28, 29, 30, 31, 32] (by kernel_rfl) (by kernel_rfl) (by kernel_rfl) (by kernel_rfl) rfl (fun _ _ h_ => R.pkTE rfl rfl (by conv => lhs; whnf) (TL.nil h_)) ?_
          refine Plan.v 19 [20, 21, 22, 23, 24, 25, 26, 27, 28, 29, 30, 31, 32] (by kernel_rfl) (by kernel_rfl) (by kernel_rfl) (by kernel_rfl) rfl (fun _ _ h_ => R.mvE rfl (by conv => lhs; whnf) (TL.nil h_)) ?_
          refine Plan.gsplitD 42 rfl (fun g42 => ?_) (fun g42 => ?_)
          · refine Plan.v 20 [21, 22, 23, 24, 25, 26, 27, 28, 29, 30, 31, 32] (by kernel_rfl) (by kernel_rfl) (by kernel_rfl) (by kernel_rfl) rfl (fun _ _ h_ => R.mvE rfl (by conv => lhs; whnf) (TL.nil h_)) ?_
            refine Plan.v 21 [22, 23, 24, 25, 26, 27, 28, 29, 30, 31, 32] (by kernel_rfl) (by kernel_rfl) (by kernel_rfl) (by kernel_rfl) rfl (fun _ _ h_ => R.nilN Try.underlying23 rfl rfl rfl (TL.nil h_)) ?_
            refine Plan.v 22 [23, 24, 25, 26, 27, 28, 29, 30, 31, 32] (by kernel_rfl) (by kernel_rfl) (by kernel_rfl) (by kernel_rfl) rfl (fun _ _ h_ => R.pkTE rfl rfl (by conv => lhs; whnf) (TL.nil h_)) ?_
            refine Plan.v 23 [24, 25, 26, 27, 28, 29, 30, 31, 32] (by kernel_rfl) (by kernel_rfl) (by kernel_rfl) (by kernel_rfl) rfl (fun _ _ h_ => R.mvE rfl (by conv => lhs; whnf) (TL.nil h_)) ?_
            refine Plan.gsplit 46 rfl (fun g46 => ?_) (fun g46 => ?_)
            · have hrn : ownerW xs y.1 os ≠ [] := fun e => by
                rw [isNone_of g22 z22, e] at g46; simp at g46
              refine Plan.v 24 [25, 26, 27, 28, 29, 30, 31, 32] (by kernel_rfl) (by kernel_rfl) (by kernel_rfl) (by kernel_rfl) rfl (fun _ _ h_ => R.mvE rfl (by conv => lhs; whnf) (TL.nil h_)) ?_
              refine Plan.v 25 [26, 27, 28, 29, 30, 31, 32] (by kernel_rfl) (by kernel_rfl) (by kernel_rfl) (by kernel_rfl) rfl (fun _ _ h_ => R.mvE rfl (by conv => lhs; whnf) (TL.nil h_)) ?_
              refine Plan.v 26 [27, 28, 29, 30, 31, 32] (by kernel_rfl) (by kernel_rfl) (by kernel_rfl) (by kernel_rfl) rfl (fun _ _ h_ => R.len Try.underlying23 rfl rfl (TL.nil h_)) ?_
              refine Plan.v 27 [28, 29, 30, 31, 32] (by kernel_rfl) (by kernel_rfl) (by kernel_rfl) (by kernel_rfl) rfl (fun _ _ h_ => R.subI rfl rfl rfl (by omega) (TL.nil h_)) ?_
              obtain ⟨b51, o51, i51, e51⟩ := (g22).elem (lastI_at hrn)
              refine Plan.v 28 [29, 30, 31, 32] (by kernel_rfl) (by kernel_rfl) (by kernel_rfl) (by kernel_rfl) rfl (fun _ _ h_ => R.ixp Try.underlying23 Try.sizeOf3 rfl rfl rfl (by have := List.length_pos_iff.2 hrn; omega) i51 (TL.nil h_)) ?_
              refine Plan.v 29 [30, 31, 32] (by kernel_rfl) (by kernel_rfl) (by kernel_rfl) (by kernel_rfl) rfl (fun _ _ h_ => R.ldC Try.isAgg3 rfl rfl (e51).int (TL.nil h_)) ?_
              refine Plan.v 30 [31, 32] (by kernel_rfl) (by kernel_rfl) (by kernel_rfl) (by kernel_rfl) rfl (fun _ _ h_ => R.mvE rfl (by conv => lhs; whnf) (TL.nil h_)) ?_
              refine Plan.v 31 [32] (by kernel_rfl) (by kernel_rfl) (by kernel_rfl) (by kernel_rfl) rfl (fun _ _ h_ => R.eql rfl rfl rfl (TL.nil h_)) ?_
              refine Plan.v 32 [] (by kernel_rfl) (by kernel_rfl) (by kernel_rfl) (by kernel_rfl) rfl (fun _ _ h_ => R.pkTE rfl rfl (by conv => lhs; whnf) (TL.nil h_)) ?_
              refine Plan.done (Post.thnN ?_)
              refine T.condD rfl (fun c55 => ?_) (fun c55 => ?_)
              · refine T.region ?_
                refine R.mvE rfl (by conv => lhs; whnf) ?_
                refine R.fldA Try.underlying37 rfl Try.sizeOf3 (by decide) rfl rfl ?_
                refine R.ldH Try.isAgg3 rfl rfl (s22 _ _ h9) rfl ?_
                refine R.bs rfl (run_buildSlice1 Try.underlying23 Try.sizeOf3 Try.zeroValue3 rfl rfl) ?_
                intro b59
                refine R.app (ys := [y.1]) Try_ty23 rfl rfl rfl ((ho.mono s9).mono s22) (.tl .hd) (Src.lit (vs := [.int .i64 y.1]) .hd) ⟨[.int .i64 y.1], [], rfl, rfl, rfl⟩ (by simp; omega) (by simp; omega) ?_
                intro v60 c60 w60
                refine TL.del (.tl .hd) ?_
                refine R.asE rfl (by conv => lhs; whnf) ?_
                refine TL.nil (Post.blkN ?_)
                refine id (Post.thnN ?_)
                refine T.region ?_
                refine R.addI rfl rfl rfl (by omega) ?_
                refine R.mvE rfl (by conv => lhs; whnf) ?_
                refine TL.nil (Post.thnN ?_)
                -- round's end, way ynyyyy
                exact ⟨(k + 1, v60, c60), s_0.trans (s9.trans s22), ⟨by show k + 1 ≤ _; omega, rfl, rfl, by rw [heirsQK_yes hy (by unfold heirQ; rw [hy]; rw [hy'']; simp [g36, g42, hrn, c55])]; exact w60⟩, by show xs.length - (k + 1) < xs.length - k; omega, ⟨rfl, rfl, rfl, rfl, rfl, rfl, rfl, trivial⟩⟩
              · refine T.skip (Post.blkN ?_)
                refine id (Post.thnN ?_)
                refine T.region ?_
                refine R.addI rfl rfl rfl (by omega) ?_
                refine R.mvE rfl (by conv => lhs; whnf) ?_
                refine TL.nil (Post.thnN ?_)
                -- round's end, way ynyyyn
                exact ⟨(k + 1, v, ch), s_0.trans (s9.trans s22), ⟨by show k + 1 ≤ _; omega, rfl, rfl, by rw [heirsQK_no (by unfold heirQ; rw [hy]; rw [hy'']; simp only [decide_eq_false c55, Bool.and_false])]; exact (ho.mono s9).mono s22⟩, by show xs.length - (k + 1) < xs.length - k; omega, ⟨rfl, rfl, rfl, rfl, rfl, rfl, rfl, trivial⟩⟩
            · have hrn : ownerW xs y.1 os = [] := by
                rw [isNone_of g22 z22] at g46; simpa using g46
              refine Plan.v 24 [25, 26, 27, 28, 29, 30, 31, 32] (by kernel_rfl) (by kernel_rfl) (by kernel_rfl) (by kernel_rfl) rfl (fun _ _ h_ => TL.off rfl rfl rfl (TL.nil h_)) ?_
              refine Plan.v 25 [26, 27, 28, 29, 30, 31, 32] (by kernel_rfl) (by kernel_rfl) (by kernel_rfl) (by kernel_rfl) rfl (fun _ _ h_ => TL.off rfl rfl rfl (TL.nil h_)) ?_
              refine Plan.v 26 [27, 28, 29, 30, 31, 32] (by kernel_rfl) (by kernel_rfl) (by kernel_rfl) (by kernel_rfl) rfl (fun _ _ h_ => TL.off rfl rfl rfl (TL.nil h_)) ?_
              refine Plan.v 27 [28, 29, 30, 31, 32] (by kernel_rfl) (by kernel_rfl) (by kernel_rfl) (by kernel_rfl) rfl (fun _ _ h_ => TL.off rfl rfl rfl (TL.nil h_)) ?_
              refine Plan.v 28 [29, 30, 31, 32] (by kernel_rfl) (by kernel_rfl) (by kernel_rfl) (by kernel_rfl) rfl (fun _ _ h_ => TL.off rfl rfl rfl (TL.nil h_)) ?_
              refine Plan.v 29 [30, 31, 32] (by kernel_rfl) (by kernel_rfl) (by kernel_rfl) (by kernel_rfl) rfl (fun _ _ h_ => TL.off rfl rfl rfl (TL.nil h_)) ?_
              refine Plan.v 30 [31, 32] (by kernel_rfl) (by kernel_rfl) (by kernel_rfl) (by kernel_rfl) rfl (fun _ _ h_ => TL.off rfl rfl rfl (TL.nil h_)) ?_
              refine Plan.v 31 [32] (by kernel_rfl) (by kernel_rfl) (by kernel_rfl) (by kernel_rfl) rfl (fun _ _ h_ => TL.off rfl rfl rfl (TL.nil h_)) ?_
              refine Plan.v 32 [] (by kernel_rfl) (by kernel_rfl) (by kernel_rfl) (by kernel_rfl) rfl (fun _ _ h_ => R.pkFE rfl rfl (by conv => lhs; whnf) (TL.nil h_)) ?_
              refine Plan.done (Post.thnN ?_)
              refine T.condN rfl ?_
              refine T.skip (Post.blkN ?_)
              refine id (Post.thnN ?_)
              refine T.region ?_
              refine R.addI rfl rfl rfl (by omega) ?_
              refine R.mvE rfl (by conv => lhs; whnf) ?_
              refine TL.nil (Post.thnN ?_)
              -- round's end, way ynyyn
              exact ⟨(k + 1, v, ch), s_0.trans (s9.trans s22), ⟨by show k + 1 ≤ _; omega, rfl, rfl, by rw [heirsQK_no (by unfold heirQ; rw [hy]; rw [hy'']; simp only [decide_eq_true hrn, Bool.not_true, Bool.and_false, Bool.false_and])]; exact (ho.mono s9).mono s22⟩, by show xs.length - (k + 1) < xs.length - k; omega, ⟨rfl, rfl, rfl, rfl, rfl, rfl, rfl, trivial⟩⟩
          · refine Plan.v 20 [21, 22, 23, 24, 25, 26, 27, 28, 29, 30, 31, 32] (by kernel_rfl) (by kernel_rfl) (by kernel_rfl) (by kernel_rfl) rfl (fun _ _ h_ => TL.off rfl rfl rfl (TL.nil h_)) ?_
            refine Plan.v 21 [22, 23, 24, 25, 26, 27, 28, 29, 30, 31, 32] (by kernel_rfl) (by kernel_rfl) (by kernel_rfl) (by kernel_rfl) rfl (fun _ _ h_ => TL.off rfl rfl rfl (TL.nil h_)) ?_
            refine Plan.v 22 [23, 24, 25, 26, 27, 28, 29, 30, 31, 32] (by kernel_rfl) (by kernel_rfl) (by kernel_rfl) (by kernel_rfl) rfl (fun _ _ h_ => R.pkFE rfl rfl (by conv => lhs; whnf) (TL.nil h_)) ?_
            refine Plan.v 23 [24, 25, 26, 27, 28, 29, 30, 31, 32] (by kernel_rfl) (by kernel_rfl) (by kernel_rfl) (by kernel_rfl) rfl (fun _ _ h_ => R.mvE rfl (by conv => lhs; whnf) (TL.nil h_)) ?_
            refine Plan.v 24 [25, 26, 27, 28, 29, 30, 31, 32] (by kernel_rfl) (by kernel_rfl) (by kernel_rfl) (by kernel_rfl) rfl (fun _ _ h_ => TL.off rfl rfl rfl (TL.nil h_)) ?_
            refine Plan.v 25 [26, 27, 28, 29, 30, 31, 32] (by kernel_rfl) (by kernel_rfl) (by kernel_rfl) (by kernel_rfl) rfl (fun _ _ h_ => TL.off rfl rfl rfl (TL.nil h_)) ?_
            refine Plan.v 26 [27, 28, 29, 30, 31, 32] (by kernel_rfl) (by kernel_rfl) (by kernel_rfl) (by kernel_rfl) rfl (fun _ _ h_ => TL.off rfl rfl rfl (TL.nil h_)) ?_
            refine Plan.v 27 [28, 29, 30, 31, 32] (by kernel_rfl) (by kernel_rfl) (by kernel_rfl) (by kernel_rfl) rfl (fun _ _ h_ => TL.off rfl rfl rfl (TL.nil h_)) ?_
            refine Plan.v 28 [29, 30, 31, 32] (by kernel_rfl) (by kernel_rfl) (by kernel_rfl) (by kernel_rfl) rfl (fun _ _ h_ => TL.off rfl rfl rfl (TL.nil h_)) ?_
            refine Plan.v 29 [30, 31, 32] (by kernel_rfl) (by kernel_rfl) (by kernel_rfl) (by kernel_rfl) rfl (fun _ _ h_ => TL.off rfl rfl rfl (TL.nil h_)) ?_
            refine Plan.v 30 [31, 32] (by kernel_rfl) (by kernel_rfl) (by kernel_rfl) (by kernel_rfl) rfl (fun _ _ h_ => TL.off rfl rfl rfl (TL.nil h_)) ?_
            refine Plan.v 31 [32] (by kernel_rfl) (by kernel_rfl) (by kernel_rfl) (by kernel_rfl) rfl (fun _ _ h_ => TL.off rfl rfl rfl (TL.nil h_)) ?_
            refine Plan.v 32 [] (by kernel_rfl) (by kernel_rfl) (by kernel_rfl) (by kernel_rfl) rfl (fun _ _ h_ => R.pkFE rfl rfl (by conv => lhs; whnf) (TL.nil h_)) ?_
            refine Plan.done (Post.thnN ?_)
            refine T.condN rfl ?_
            refine T.skip (Post.blkN ?_)
            refine id (Post.thnN ?_)
            refine T.region ?_
            refine R.addI rfl rfl rfl (by omega) ?_
            refine R.mvE rfl (by conv => lhs; whnf) ?_
            refine TL.nil (Post.thnN ?_)
            -- round's end, way ynyn
            exact ⟨(k + 1, v, ch), s_0.trans (s9.trans s22), ⟨by show k + 1 ≤ _; omega, rfl, rfl, by rw [heirsQK_no (by unfold heirQ; rw [hy]; rw [hy'']; simp only [decide_eq_true (Decidable.of_not_not g42), Bool.not_true, Bool.and_false, Bool.false_and])]; exact (ho.mono s9).mono s22⟩, by show xs.length - (k + 1) < xs.length - k; omega, ⟨rfl, rfl, rfl, rfl, rfl, rfl, rfl, trivial⟩⟩
        · refine Plan.v 14 [15, 16, 17, 18, 19, 20, 21, 22, 23, 24, 25, 26, 27, 28, 29, 30, 31, 32] (by kernel_rfl) (by kernel_rfl) (by kernel_rfl) (by kernel_rfl) rfl (fun _ _ h_ => TL.off rfl rfl rfl (TL.nil h_)) ?_
          refine Plan.v 15 [16, 17, 18, 19, 20, 21, 22, 23, 24, 25, 26, 27, 28, 29, 30, 31, 32] (by kernel_rfl) (by kernel_rfl) (by kernel_rfl) (by kernel_rfl) rfl (fun _ _ h_ => TL.off rfl rfl rfl (TL.nil h_)) ?_
          refine Plan.v 16 [17, 18, 19, 20, 21, 22, 23, 24, 25, 26, 27, 28, 29, 30, 31, 32] (by kernel_rfl) (by kernel_rfl) (by kernel_rfl) (by kernel_rfl) rfl (fun _ _ h_ => TL.off rfl rfl rfl (TL.nil h_)) ?_
          refine Plan.v 17 [18, 19, 20, 21, 22, 23, 24, 25, 26, 27, 28, 29, 30, 31, 32] (by kernel_rfl) (by kernel_rfl) (by kernel_rfl) (by kernel_rfl) rfl (fun _ _ h_ => TL.off rfl rfl rfl (TL.nil h_)) ?_
          refine Plan.v 18 [19, 20, 21, 22, 23, 24, 25, 26, 27, 28, 29, 30, 31, 32] (by kernel_rfl) (by kernel_rfl) (by kernel_rfl) (by kernel_rfl) rfl (fun _ _ h_ => R.pkFE rfl rfl (by conv => lhs; whnf) (TL.nil h_)) ?_
          refine Plan.v 19 [20, 21, 22, 23, 24, 25, 26, 27, 28, 29, 30, 31, 32] (by kernel_rfl) (by kernel_rfl) (by kernel_rfl) (by kernel_rfl) rfl (fun _ _ h_ => R.mvE rfl (by conv => lhs; whnf) (TL.nil h_)) ?_
          refine Plan.v 20 [21, 22, 23, 24, 25, 26, 27, 28, 29, 30, 31, 32] (by kernel_rfl) (by kernel_rfl) (by kernel_rfl) (by kernel_rfl) rfl (fun _ _ h_ => TL.off rfl rfl rfl (TL.nil h_)) ?_
          refine Plan.v 21 [22, 23, 24, 25, 26, 27, 28, 29, 30, 31, 32] (by kernel_rfl) (by kernel_rfl) (by kernel_rfl) (by kernel_rfl) rfl (fun _ _ h_ => TL.off rfl rfl rfl (TL.nil h_)) ?_
          refine Plan.v 22 [23, 24, 25, 26, 27, 28, 29, 30, 31, 32] (by kernel_rfl) (by kernel_rfl) (by kernel_rfl) (by kernel_rfl) rfl (fun _ _ h_ => R.pkFE rfl rfl (by conv => lhs; whnf) (TL.nil h_)) ?_
          refine Plan.v 23 [24, 25, 26, 27, 28, 29, 30, 31, 32] (by kernel_rfl) (by kernel_rfl) (by kernel_rfl) (by kernel_rfl) rfl (fun _ _ h_ => R.mvE rfl (by conv => lhs; whnf) (TL.nil h_)) ?_
          refine Plan.v 24 [25, 26, 27, 28, 29, 30, 31, 32] (by kernel_rfl) (by kernel_rfl) (by kernel_rfl) (by kernel_rfl) rfl (fun _ _ h_ => TL.off rfl rfl rfl (TL.nil h_)) ?_
          refine Plan.v 25 [26, 27, 28, 29, 30, 31, 32] (by kernel_rfl) (by kernel_rfl) (by kernel_rfl) (by kernel_rfl) rfl (fun _ _ h_ => TL.off rfl rfl rfl (TL.nil h_)) ?_
          refine Plan.v 26 [27, 28, 29, 30, 31, 32] (by kernel_rfl) (by kernel_rfl) (by kernel_rfl) (by kernel_rfl) rfl (fun _ _ h_ => TL.off rfl rfl rfl (TL.nil h_)) ?_
          refine Plan.v 27 [28, 29, 30, 31, 32] (by kernel_rfl) (by kernel_rfl) (by kernel_rfl) (by kernel_rfl) rfl (fun _ _ h_ => TL.off rfl rfl rfl (TL.nil h_)) ?_
          refine Plan.v 28 [29, 30, 31, 32] (by kernel_rfl) (by kernel_rfl) (by kernel_rfl) (by kernel_rfl) rfl (fun _ _ h_ => TL.off rfl rfl rfl (TL.nil h_)) ?_
          refine Plan.v 29 [30, 31, 32] (by kernel_rfl) (by kernel_rfl) (by kernel_rfl) (by kernel_rfl) rfl (fun _ _ h_ => TL.off rfl rfl rfl (TL.nil h_)) ?_
          refine Plan.v 30 [31, 32] (by kernel_rfl) (by kernel_rfl) (by kernel_rfl) (by kernel_rfl) rfl (fun _ _ h_ => TL.off rfl rfl rfl (TL.nil h_)) ?_
          refine Plan.v 31 [32] (by kernel_rfl) (by kernel_rfl) (by kernel_rfl) (by kernel_rfl) rfl (fun _ _ h_ => TL.off rfl rfl rfl (TL.nil h_)) ?_
          refine Plan.v 32 [] (by kernel_rfl) (by kernel_rfl) (by kernel_rfl) (by kernel_rfl) rfl (fun _ _ h_ => R.pkFE rfl rfl (by conv => lhs; whnf) (TL.nil h_)) ?_
          refine Plan.done (Post.thnN ?_)
          refine T.condN rfl ?_
          refine T.skip (Post.blkN ?_)
          refine id (Post.thnN ?_)
          refine T.region ?_
          refine R.addI rfl rfl rfl (by omega) ?_
          refine R.mvE rfl (by conv => lhs; whnf) ?_
          refine TL.nil (Post.thnN ?_)
          -- round's end, way ynn
          exact ⟨(k + 1, v, ch), s_0.trans (s9.trans s22), ⟨by show k + 1 ≤ _; omega, rfl, rfl, by rw [heirsQK_no (by unfold heirQ; rw [hy]; rw [hy'']; simp [show ¬ k = 0 by omega, Decidable.of_not_not g36])]; exact (ho.mono s9).mono s22⟩, by show xs.length - (k + 1) < xs.length - k; omega, ⟨rfl, rfl, rfl, rfl, rfl, rfl, rfl, trivial⟩⟩
    · have hkx : k = xs.length := by omega
      subst hkx
      refine T.exit (Post.thnE (Post.thnE (Post.blkX ?_)))
      refine id (Post.thnN ?_)
      refine T.seq ?_
      refine T.shut .hd ?_
      intro HW sW qW
      have hw := ho.read sW qW
      refine T.region ?_
      refine R.mvE rfl (by conv => lhs; whnf) ?_
      refine R.asE rfl (by conv => lhs; whnf) ?_
      refine TL.nil (Post.thnN ?_)
      refine T.ret ?_
      -- way n
      exact fin1 rfl rfl ⟨rfl, hw⟩

end Go.SX
