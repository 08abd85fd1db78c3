/- slices: IndexFunc, ContainsFunc, CompareFunc, Reverse. -/
import Derived.Test.YtmkmdfgfclckoaaSl2
import Derived.Test.YtmkmdfgfclckoaaWv
set_option linter.unusedVariables false
set_option linter.unusedSimpArgs false
namespace Go.SX
open Go Go.Proofs

set_option maxHeartbeats 1600000 in
theorem indexFU22_c (H : Heap) (v fv : Value) (xs : List Int) (p : Int → Bool) (hr : RdS (intE .u64) H v xs) (hU : Us xs) (hp : Pred Try.prog fv p H) : Fv Try.prog (fnv 68) [v, fv] H (.int .i64 (fidxI p xs)) := by
  refine Fc.of_body (N := 19) Try.func68 rfl (by kernel_rfl) rfl rfl ?_
  intro w0
  obtain ⟨A, c, rfl, hc1, hc2, hr⟩ := hr.shape
  refine T.seq ?_
  refine T.region ?_
  refine R.asE rfl (by conv => lhs; whnf) ?_
  refine TL.nil (Post.thnN ?_)
  refine T.seq ?_
  refine T.seq ?_
  refine T.region ?_
  refine R.mvE rfl (by conv => lhs; whnf) ?_
  refine R.len Try.underlying22 rfl rfl ?_
  refine R.mvE rfl (by conv => lhs; whnf) ?_
  refine TL.nil (Post.thnN ?_)
  refine T.block ?_
  refine T.loop (ι := Nat) (fun k H' L' ds' => k ≤ xs.length ∧ ∀ (j : Nat) z, j < k → xs[j]? = some z → p z = false) (fun k => [(0, .slice A xs.length c), (1, fv), (7, .int .i64 xs.length), (8, .int .i64 k)]) (fun k => xs.length - k) (0) ?_ ?_ ?_
  · exact ⟨Nat.zero_le _, fun j z h => absurd h (by omega)⟩
  · exact ⟨rfl, rfl, rfl, rfl, trivial⟩
  · intro k σ0 H_0 L_0 ds_0 s_0 hI_0
    obtain ⟨hk, hw⟩ := hI_0
    refine T.seq ?_
    refine T.region ?_
    refine R.lss rfl rfl rfl ?_
    refine TL.nil (Post.thnN ?_)
    refine T.seq ?_
    refine T.condD rfl (fun c9 => ?_) (fun c9 => ?_)
    · have hlt : k < xs.length := by omega
      obtain ⟨a, hx⟩ := getk hlt
      have haU := hU a (List.mem_of_getElem? hx)
      refine T.skip (Post.thnN ?_)
      refine T.seq ?_
      refine T.block ?_
      refine T.seq ?_
      refine T.region ?_
      refine R.mvE rfl (by conv => lhs; whnf) ?_
      refine R.asE rfl (by conv => lhs; whnf) ?_
      refine TL.nil (Post.thnN ?_)
      refine T.seq ?_
      refine T.region ?_
      refine R.mvE rfl (by conv => lhs; whnf) ?_
      refine R.mvE rfl (by conv => lhs; whnf) ?_
      refine R.mvE rfl (by conv => lhs; whnf) ?_
      obtain ⟨b14, o14, i14, e14⟩ := (hr.mono s_0).elem (hx)
      refine R.ixp Try.underlying22 Try.sizeOf28 rfl rfl rfl (by omega) i14 ?_
      refine R.ldC Try.isAgg28 rfl rfl (e14).int ?_
      refine R.callv rfl rfl rfl (hp _ s_0 a haU) ?_
      refine TL.nil (Post.thnN ?_)
      refine T.cond rfl (fun c16 => ?_) (fun c16 => ?_)
      · refine T.seq ?_
        refine T.region ?_
        refine R.mvE rfl (by conv => lhs; whnf) ?_
        refine R.asE rfl (by conv => lhs; whnf) ?_
        refine TL.nil (Post.thnN ?_)
        refine T.ret (Post.blkR (Post.thnR (Post.thnR (Post.blkR (Post.thnR ?_)))))
        -- way yy
        exact fin1 rfl rfl ⟨rfl, congrArg (Value.int .i64) (fidxI_at (p := p) hx c16 hw).symm⟩
      · refine T.skip (Post.blkN ?_)
        refine id (Post.thnN ?_)
        refine T.region ?_
        refine R.addI rfl rfl rfl (by omega) ?_
        refine R.mvE rfl (by conv => lhs; whnf) ?_
        refine TL.nil (Post.thnN ?_)
        -- round's end, way yn
        exact ⟨k + 1, s_0, ⟨by omega, fun j z h1 h2 => if e : j = k then by subst e; rw [hx] at h2; injection h2 with h2; subst h2; exact c16 else hw j z (by omega) h2⟩, by omega, ⟨rfl, rfl, rfl, rfl, trivial⟩⟩
    · refine T.exit (Post.thnE (Post.thnE (Post.blkX ?_)))
      refine id (Post.thnN ?_)
      refine T.seq ?_
      refine T.region ?_
      refine R.asE rfl (by conv => lhs; whnf) ?_
      refine TL.nil (Post.thnN ?_)
      refine T.ret ?_
      -- way n
      exact fin1 rfl rfl ⟨rfl, congrArg (Value.int .i64) (fidxI_none (p := p) (fun j z h => hw j z (by have := (List.getElem?_eq_some_iff.1 h).1; omega) h)).symm⟩


set_option maxHeartbeats 1600000 in
theorem containsFU22_c (H : Heap) (v fv : Value) (xs : List Int) (p : Int → Bool) (hr : RdS (intE .u64) H v xs) (hU : Us xs) (hp : Pred Try.prog fv p H) : Fv Try.prog (fnv 32) [v, fv] H (.bool (xs.any p)) := by
  refine Fc.of_body (N := 9) Try.func32 rfl (by kernel_rfl) rfl rfl ?_
  intro w0
  refine T.seq ?_
  refine T.region ?_
  refine R.asE rfl (by conv => lhs; whnf) ?_
  refine TL.nil (Post.thnN ?_)
  refine T.seq ?_
  refine T.region ?_
  refine R.mvE rfl (by conv => lhs; whnf) ?_
  refine R.mvE rfl (by conv => lhs; whnf) ?_
  refine R.callv rfl rfl rfl (indexFU22_c _ _ _ _ p hr hU hp) ?_
  refine R.geq rfl rfl rfl ?_
  refine R.asE rfl (by conv => lhs; whnf) ?_
  refine TL.nil (Post.thnN ?_)
  refine T.ret ?_
  exact fin1 rfl rfl ⟨rfl, congrArg Value.bool (by rw [Bool.eq_iff_iff, decide_eq_true_eq]; exact fidxI_ge)⟩


set_option maxHeartbeats 1600000 in
theorem compareFU22_c (H : Heap) (v u fv : Value) (xs ys : List Int) (hr : RdS (intE .u64) H v xs) (hr2 : RdS (intE .u64) H u ys) (hf : FCmp Try.prog fv H) : Fv Try.prog (fnv 66) [v, u, fv] H (.int .i64 (cmpL xs ys)) := by
  refine Fc.of_body (N := 39) Try.func66 rfl (by kernel_rfl) rfl rfl ?_
  intro w0
  obtain ⟨A, c, rfl, hc1, hc2, hr⟩ := hr.shape
  obtain ⟨A2, c2, rfl, hc3, hc4, hr2⟩ := hr2.shape
  refine T.seq ?_
  refine T.region ?_
  refine R.asE rfl (by conv => lhs; whnf) ?_
  refine TL.nil (Post.thnN ?_)
  refine T.seq ?_
  refine T.seq ?_
  refine T.region ?_
  refine R.mvE rfl (by conv => lhs; whnf) ?_
  refine R.len Try.underlying22 rfl rfl ?_
  refine R.mvE rfl (by conv => lhs; whnf) ?_
  refine TL.nil (Post.thnN ?_)
  refine T.block ?_
  refine T.loop (ι := Nat) (fun k H' L' ds' => k ≤ xs.length ∧ k ≤ ys.length ∧ xs.take k = ys.take k) (fun k => [(0, .slice A xs.length c), (1, .slice A2 ys.length c2), (2, fv), (11, .slice A xs.length c), (12, .int .i64 xs.length), (13, .int .i64 k)]) (fun k => xs.length - k) (0) ?_ ?_ ?_
  · exact ⟨Nat.zero_le _, Nat.zero_le _, rfl⟩
  · exact ⟨rfl, rfl, rfl, rfl, rfl, rfl, trivial⟩
  · intro k σ0 H_0 L_0 ds_0 s_0 hI_0
    obtain ⟨hk, hk2, hw⟩ := hI_0
    refine T.seq ?_
    refine T.region ?_
    refine R.lss rfl rfl rfl ?_
    refine TL.nil (Post.thnN ?_)
    refine T.seq ?_
    refine T.condD rfl (fun c14 => ?_) (fun c14 => ?_)
    · have hlt : k < xs.length := by omega
      obtain ⟨a, hx⟩ := getk hlt
      refine T.skip (Post.thnN ?_)
      refine T.seq ?_
      refine T.block ?_
      refine T.seq ?_
      refine T.region ?_
      refine R.mvE rfl (by conv => lhs; whnf) ?_
      obtain ⟨b16, o16, i16, e16⟩ := (hr.mono s_0).elem (hx)
      refine R.ixp Try.underlying22 Try.sizeOf28 rfl rfl rfl (by omega) i16 ?_
      refine R.ldC Try.isAgg28 rfl rfl (e16).int ?_
      refine R.asE rfl (by conv => lhs; whnf) ?_
      refine R.asE rfl (by conv => lhs; whnf) ?_
      refine TL.nil (Post.thnN ?_)
      refine T.seq ?_
      refine T.seq ?_
      refine T.region ?_
      refine R.mvE rfl (by conv => lhs; whnf) ?_
      refine R.mvE rfl (by conv => lhs; whnf) ?_
      refine R.len Try.underlying22 rfl rfl ?_
      refine R.geq rfl rfl rfl ?_
      refine TL.nil (Post.thnN ?_)
      refine T.condD rfl (fun c21 => ?_) (fun c21 => ?_)
      · refine T.seq ?_
        refine T.region ?_
        refine R.asE rfl (by conv => lhs; whnf) ?_
        refine TL.nil (Post.thnN ?_)
        refine T.ret (Post.thnR (Post.blkR (Post.thnR (Post.thnR (Post.blkR (Post.thnR ?_))))))
        -- way yy
        have hky : k = ys.length := by omega
        exact fin1 rfl rfl ⟨rfl, congrArg (Value.int .i64) (cmpL_long xs ys (by rw [← hky, hw, hky, List.take_length]) (by omega)).symm⟩
      · obtain ⟨b, hy⟩ := getk (xs := ys) (k := k) (by omega)
        refine T.skip (Post.thnN ?_)
        refine T.seq ?_
        refine T.region ?_
        refine R.mvE rfl (by conv => lhs; whnf) ?_
        refine R.mvE rfl (by conv => lhs; whnf) ?_
        obtain ⟨b24, o24, i24, e24⟩ := (hr2.mono s_0).elem (hy)
        refine R.ixp Try.underlying22 Try.sizeOf28 rfl rfl rfl (by omega) i24 ?_
        refine R.ldC Try.isAgg28 rfl rfl (e24).int ?_
        refine R.asE rfl (by conv => lhs; whnf) ?_
        refine TL.nil (Post.thnN ?_)
        refine T.seq ?_
        refine T.region ?_
        refine R.mvE rfl (by conv => lhs; whnf) ?_
        refine R.mvE rfl (by conv => lhs; whnf) ?_
        refine R.mvE rfl (by conv => lhs; whnf) ?_
        refine R.callv rfl rfl rfl (hf _ s_0 a b) ?_
        refine R.asE rfl (by conv => lhs; whnf) ?_
        refine TL.nil (Post.thnN ?_)
        refine T.seq ?_
        refine T.region ?_
        refine R.mvE rfl (by conv => lhs; whnf) ?_
        refine R.neq rfl rfl rfl ?_
        refine TL.nil (Post.thnN ?_)
        refine T.condD rfl (fun c31 => ?_) (fun c31 => ?_)
        · refine T.seq ?_
          refine T.region ?_
          refine R.mvE rfl (by conv => lhs; whnf) ?_
          refine R.asE rfl (by conv => lhs; whnf) ?_
          refine TL.nil (Post.thnN ?_)
          refine T.ret (Post.blkR (Post.thnR (Post.thnR (Post.blkR (Post.thnR ?_)))))
          -- way yny
          exact fin1 rfl rfl ⟨rfl, congrArg (Value.int .i64) (cmpL_at k xs ys a b hw hx hy (fun h => c31 (cmpI_zero.2 h))).symm⟩
        · refine T.skip (Post.blkN ?_)
          refine id (Post.thnN ?_)
          refine T.region ?_
          refine R.addI rfl rfl rfl (by omega) ?_
          refine R.mvE rfl (by conv => lhs; whnf) ?_
          refine TL.nil (Post.thnN ?_)
          -- round's end, way ynn
          have hab : a = b := cmpI_zero.1 (Decidable.of_not_not c31)
          exact ⟨k + 1, s_0, ⟨by omega, by omega, take_eq_of hw hx (by rw [hab]; exact hy)⟩, by omega, ⟨rfl, rfl, rfl, rfl, rfl, rfl, trivial⟩⟩
    · refine T.exit (Post.thnE (Post.thnE (Post.blkX ?_)))
      refine id (Post.thnN ?_)
      refine T.seq ?_
      refine T.seq ?_
      refine T.region ?_
      refine R.mvE rfl (by conv => lhs; whnf) ?_
      refine R.len Try.underlying22 rfl rfl ?_
      refine R.mvE rfl (by conv => lhs; whnf) ?_
      refine R.len Try.underlying22 rfl rfl ?_
      refine R.lss rfl rfl rfl ?_
      refine TL.nil (Post.thnN ?_)
      refine T.condD rfl (fun c38 => ?_) (fun c38 => ?_)
      · refine T.seq ?_
        refine T.region ?_
        refine R.asE rfl (by conv => lhs; whnf) ?_
        refine TL.nil (Post.thnN ?_)
        refine T.ret (Post.thnR ?_)
        -- way ny
        have hkx : k = xs.length := by omega
        exact fin1 rfl rfl ⟨rfl, congrArg (Value.int .i64) (by rw [cmpL_end xs ys (by rw [← hkx, ← hw, hkx, List.take_length]), if_pos (by omega)])⟩
      · refine T.skip (Post.thnN ?_)
        refine T.seq ?_
        refine T.region ?_
        refine R.asE rfl (by conv => lhs; whnf) ?_
        refine TL.nil (Post.thnN ?_)
        refine T.ret ?_
        -- way nn
        have hkx : k = xs.length := by omega
        exact fin1 rfl rfl ⟨rfl, congrArg (Value.int .i64) (by rw [cmpL_end xs ys (by rw [← hkx, ← hw, hkx, List.take_length]), if_neg (by omega)])⟩


set_option maxHeartbeats 1600000 in
theorem reverseU22_c (H : Heap) (v : Value) (xs : List Int) (ch : Chunk) (ho : OwnS (intE .u64) 28 H v xs ch) (hl : xs.length ≤ 1048576) : Fc Try.prog (fnv 29) [v] H [ch] (fun _ H' L' => ∃ c, L' = [c] ∧ OwnS (intE .u64) 28 H' v xs.reverse c) := by
  refine Fc.of_body (N := 28) Try.func29 rfl (by kernel_rfl) rfl rfl ?_
  intro w0
  obtain ⟨A, cap, rfl, hc1, hc2⟩ := ho.shape
  refine T.seq ?_
  refine T.region ?_
  refine R.mvE rfl (by conv => lhs; whnf) ?_
  refine R.len Try.underlying22 rfl rfl ?_
  refine R.subI rfl rfl rfl (by omega) ?_
  refine R.asE rfl (by conv => lhs; whnf) ?_
  refine R.asE rfl (by conv => lhs; whnf) ?_
  refine TL.nil (Post.thnN ?_)
  refine T.block ?_
  refine T.loop (ι := Nat × List Int × Chunk) (fun q H' L' ds' => L' = [q.2.2] ∧ ds' = [] ∧ OwnS (intE .u64) 28 H' (.slice A xs.length cap) q.2.1 q.2.2 ∧ revI xs q.1 q.2.1 ∧ 2 * q.1 ≤ xs.length + 1) (fun q => [(0, .slice A xs.length cap), (2, .int .i64 q.1), (3, .int .i64 ((xs.length : Int) - 1 - q.1))]) (fun q => xs.length - q.1) ((0, xs, ch)) ?_ ?_ ?_
  · exact ⟨rfl, rfl, ho, revI_zero xs, by omega⟩
  · exact ⟨rfl, rfl, congrArg (Value.int .i64) (by show (xs.length : Int) - 1 = (xs.length : Int) - 1 - ((0 : Nat) : Int); omega), trivial⟩
  · intro q σ0 H_0 L_0 ds_0 s_0 hI_0
    obtain ⟨rfl, rfl, ho, hv, hq2⟩ := hI_0
    have hvl := hv.1
    refine T.seq ?_
    refine T.seq ?_
    refine T.region ?_
    refine R.mvE rfl (by conv => lhs; whnf) ?_
    refine R.mvE rfl (by conv => lhs; whnf) ?_
    refine R.lss rfl rfl rfl ?_
    refine TL.nil (Post.thnN ?_)
    refine T.condD rfl (fun c9 => ?_) (fun c9 => ?_)
    · have hlt : q.1 < q.2.1.length := by omega
      obtain ⟨a, hi⟩ := getk hlt
      obtain ⟨b, hj⟩ := getk (xs := q.2.1) (k := ((xs.length : Int) - 1 - q.1).toNat) (by omega)
      obtain ⟨b1, k1, cs1, l1, hce, hve, hix1, hR1, hcs1⟩ := ho.elem hi
      obtain rfl : l1 = [.int .u64 a] := hR1
      rw [hce] at ho ⊢
      obtain ⟨b2, k2, cs2, l2, hce2, hve2, hix2, hR2, hcs2⟩ := ho.elem hj
      obtain rfl : l2 = [.int .u64 b] := hR2
      obtain ⟨rfl, rfl⟩ : b1 = b2 ∧ cs1 = cs2 := by simpa using hce2
      refine T.skip (Post.thnN ?_)
      refine T.seq ?_
      refine T.block ?_
      refine T.draw Try_mixed (by kernel_rfl) ?_
      refine Plan.v 0 [1, 2, 3, 4, 5, 6, 7, 8, 9, 10, 11, 12, 13, 14, 15] (by kernel_rfl) (by kernel_rfl) (by kernel_rfl) (by kernel_rfl) rfl (fun _ _ h_ => R.mvE rfl (by conv => lhs; whnf) (TL.nil h_)) ?_
      refine Plan.v 1 [2, 3, 4, 5, 6, 7, 8, 9, 10, 11, 12, 13, 14, 15] (by kernel_rfl) (by kernel_rfl) (by kernel_rfl) (by kernel_rfl) rfl (fun _ _ h_ => R.mvE rfl (by conv => lhs; whnf) (TL.nil h_)) ?_
      refine Plan.v 2 [3, 4, 5, 6, 7, 8, 9, 10, 11, 12, 13, 14, 15] (by kernel_rfl) (by kernel_rfl) (by kernel_rfl) (by kernel_rfl) rfl (fun _ _ h_ => R.mvE rfl (by conv => lhs; whnf) (TL.nil h_)) ?_
      refine Plan.v 3 [4, 5, 6, 7, 8, 9, 10, 11, 12, 13, 14, 15] (by kernel_rfl) (by kernel_rfl) (by kernel_rfl) (by kernel_rfl) rfl (fun _ _ h_ => R.mvE rfl (by conv => lhs; whnf) (TL.nil h_)) ?_
      refine Plan.v 4 [5, 6, 7, 8, 9, 10, 11, 12, 13, 14, 15] (by kernel_rfl) (by kernel_rfl) (by kernel_rfl) (by kernel_rfl) rfl (fun _ _ h_ => R.mvE rfl (by conv => lhs; whnf) (TL.nil h_)) ?_
      refine Plan.v 5 [6, 7, 8, 9, 10, 11, 12, 13, 14, 15] (by kernel_rfl) (by kernel_rfl) (by kernel_rfl) (by kernel_rfl) rfl (fun _ _ h_ => R.mvE rfl (by conv => lhs; whnf) (TL.nil h_)) ?_
      refine Plan.v 6 [7, 8, 9, 10, 11, 12, 13, 14, 15] (by kernel_rfl) (by kernel_rfl) (by kernel_rfl) (by kernel_rfl) rfl (fun _ _ h_ => R.ixp Try.underlying22 Try.sizeOf28 rfl rfl rfl (by omega) hix2 (TL.nil h_)) ?_
      refine Plan.v 8 [7, 9, 10, 11, 12, 13, 14, 15] (by kernel_rfl) (by kernel_rfl) (by kernel_rfl) (by kernel_rfl) rfl (fun _ _ h_ => R.mvE rfl (by conv => lhs; whnf) (TL.nil h_)) ?_
      refine Plan.v 9 [7, 10, 11, 12, 13, 14, 15] (by kernel_rfl) (by kernel_rfl) (by kernel_rfl) (by kernel_rfl) rfl (fun _ _ h_ => R.mvE rfl (by conv => lhs; whnf) (TL.nil h_)) ?_
      refine Plan.v 10 [7, 11, 12, 13, 14, 15] (by kernel_rfl) (by kernel_rfl) (by kernel_rfl) (by kernel_rfl) rfl (fun _ _ h_ => R.ixp Try.underlying22 Try.sizeOf28 rfl rfl rfl (by omega) hix1 (TL.nil h_)) ?_
      refine Plan.s2 7 11 [11, 12, 13, 14, 15] [7, 12, 13, 14, 15] (by kernel_rfl) (by kernel_rfl) (by kernel_rfl) rfl rfl ?_ ?_
      · refine R.ld Try.isAgg28 rfl rfl .hd (hcs2 0 _ rfl) ?_
        refine TL.nil (Plan.e1 (HLe.refl _) ?_)
        refine Plan.s1 11 [12, 13, 14, 15] (by kernel_rfl) (by kernel_rfl) rfl ?_
        refine R.ld Try.isAgg28 rfl rfl .hd (hcs1 0 _ rfl) ?_
        refine TL.nil (Plan.e1 (HLe.refl _) ?_)
        refine Plan.v 12 [13, 14, 15] (by kernel_rfl) (by kernel_rfl) (by kernel_rfl) (by kernel_rfl) rfl (fun _ _ h_ => R.ixp Try.underlying22 Try.sizeOf28 rfl rfl rfl (by omega) hix1 (TL.nil h_)) ?_
        refine Plan.s1 13 [14, 15] (by kernel_rfl) (by kernel_rfl) rfl ?_
        refine R.stE Try.sizeOf28 rfl rfl ho .hd hix1 rfl rfl rfl ?_
        intro c26 w26
        refine TL.nil (Plan.e0 (HLe.refl _) ?_)
        refine Plan.v 14 [15] (by kernel_rfl) (by kernel_rfl) (by kernel_rfl) (by kernel_rfl) rfl (fun _ _ h_ => R.ixp Try.underlying22 Try.sizeOf28 rfl rfl rfl (by omega) hix2 (TL.nil h_)) ?_
        refine Plan.s1 15 [] (by kernel_rfl) (by kernel_rfl) rfl ?_
        refine R.stE Try.sizeOf28 rfl rfl w26 .hd hix2 rfl rfl rfl ?_
        intro c27 w27
        refine TL.nil (Plan.e0 (HLe.refl _) ?_)
        refine Plan.done (Post.blkN ?_)
        refine id (Post.thnN ?_)
        refine T.region ?_
        refine R.mvE rfl (by conv => lhs; whnf) ?_
        refine R.addI rfl rfl rfl (by omega) ?_
        refine R.mvE rfl (by conv => lhs; whnf) ?_
        refine R.subI rfl rfl rfl (by omega) ?_
        refine R.asE rfl (by conv => lhs; whnf) ?_
        refine R.asE rfl (by conv => lhs; whnf) ?_
        refine TL.nil (Post.thnN ?_)
        -- round's end, way y0
        exact ⟨(q.1 + 1, (q.2.1.set q.1 b).set (((xs.length : Int) - 1 - q.1).toNat) a, c27), s_0, ⟨rfl, rfl, w27, revI_step hv (by omega) hi hj, by show 2 * (q.1 + 1) ≤ xs.length + 1; omega⟩, by show xs.length - (q.1 + 1) < xs.length - q.1; omega, ⟨rfl, rfl, congrArg (Value.int .i64) (by show (xs.length : Int) - 1 - q.1 - 1 = (xs.length : Int) - 1 - ((q.1 + 1 : Nat) : Int); omega), trivial⟩⟩
      · refine R.ld Try.isAgg28 rfl rfl .hd (hcs1 0 _ rfl) ?_
        refine TL.nil (Plan.e1 (HLe.refl _) ?_)
        refine Plan.s1 7 [12, 13, 14, 15] (by kernel_rfl) (by kernel_rfl) rfl ?_
        refine R.ld Try.isAgg28 rfl rfl .hd (hcs2 0 _ rfl) ?_
        refine TL.nil (Plan.e1 (HLe.refl _) ?_)
        refine Plan.v 12 [13, 14, 15] (by kernel_rfl) (by kernel_rfl) (by kernel_rfl) (by kernel_rfl) rfl (fun _ _ h_ => R.ixp Try.underlying22 Try.sizeOf28 rfl rfl rfl (by omega) hix1 (TL.nil h_)) ?_
        refine Plan.s1 13 [14, 15] (by kernel_rfl) (by kernel_rfl) rfl ?_
        refine R.stE Try.sizeOf28 rfl rfl ho .hd hix1 rfl rfl rfl ?_
        intro c26 w26
        refine TL.nil (Plan.e0 (HLe.refl _) ?_)
        refine Plan.v 14 [15] (by kernel_rfl) (by kernel_rfl) (by kernel_rfl) (by kernel_rfl) rfl (fun _ _ h_ => R.ixp Try.underlying22 Try.sizeOf28 rfl rfl rfl (by omega) hix2 (TL.nil h_)) ?_
        refine Plan.s1 15 [] (by kernel_rfl) (by kernel_rfl) rfl ?_
        refine R.stE Try.sizeOf28 rfl rfl w26 .hd hix2 rfl rfl rfl ?_
        intro c27 w27
        refine TL.nil (Plan.e0 (HLe.refl _) ?_)
        refine Plan.done (Post.blkN ?_)
        refine id (Post.thnN ?_)
        refine T.region ?_
        refine R.mvE rfl (by conv => lhs; whnf) ?_
        refine R.addI rfl rfl rfl (by omega) ?_
        refine R.mvE rfl (by conv => lhs; whnf) ?_
        refine R.subI rfl rfl rfl (by omega) ?_
        refine R.asE rfl (by conv => lhs; whnf) ?_
        refine R.asE rfl (by conv => lhs; whnf) ?_
        refine TL.nil (Post.thnN ?_)
        -- round's end, way y1
        exact ⟨(q.1 + 1, (q.2.1.set q.1 b).set (((xs.length : Int) - 1 - q.1).toNat) a, c27), s_0, ⟨rfl, rfl, w27, revI_step hv (by omega) hi hj, by show 2 * (q.1 + 1) ≤ xs.length + 1; omega⟩, by show xs.length - (q.1 + 1) < xs.length - q.1; omega, ⟨rfl, rfl, congrArg (Value.int .i64) (by show (xs.length : Int) - 1 - q.1 - 1 = (xs.length : Int) - 1 - ((q.1 + 1 : Nat) : Int); omega), trivial⟩⟩
    · refine T.exit (Post.thnE (Post.thnE (Post.blkX ?_)))
      refine id ?_
      -- way n
      rw [revI_end hv (by omega)] at ho
      exact fin0N [_] rfl (List.Sublist.refl _) ⟨_, rfl, ho⟩

end Go.SX
