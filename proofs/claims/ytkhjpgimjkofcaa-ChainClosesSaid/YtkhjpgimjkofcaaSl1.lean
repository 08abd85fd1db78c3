/- slices: types, Equal, Index, Contains, Clone. -/
import Derived.Test.YtkhjpgimjkofcaaPl
import Derived.Test.YtkhjpgimjkofcaaSx9
import Derived.Test.YtkhjpgimjkofcaaProg
set_option linter.unusedVariables false
set_option linter.unusedSimpArgs false
namespace Go.SX
open Go Go.Proofs

theorem Try_mixed : Try.prog.follows .mixedOrders = true := by kernel_rfl

theorem Try_ty22 : TyE Try.prog 22 37 pairE 16 := TyE.mk' (z := .agg #[.int .i64 0, .int .i64 0]) Try.underlying22 (by kernel_rfl) rfl (by decide)

theorem Try_ty23 : TyE Try.prog 23 3 (intE .i64) 8 := TyE.mk' (z := .int .i64 0) Try.underlying23 (by kernel_rfl) rfl (by decide)

theorem Try_ty52 : TyE Try.prog 52 23 (slE (intE .i64)) 24 := TyE.mk' (z := .slice none 0 0) Try.underlying52 (by kernel_rfl) rfl (by decide)

theorem Try_ty55 : TyE Try.prog 55 22 (slE pairE) 24 := TyE.mk' (z := .slice none 0 0) Try.underlying55 (by kernel_rfl) rfl (by decide)

set_option maxHeartbeats 1600000 in
theorem equalI23_c (H : Heap) (v u : Value) (xs ys : List Int) (hr : RdS (intE .i64) H v xs) (hr2 : RdS (intE .i64) H u ys) : Fv Try.prog (fnv 20) [v, u] H (.bool (decide (xs = ys))) := by
  refine Fc.of_body (N := 26) Try.func20 rfl (by kernel_rfl) rfl rfl ?_
  intro w0
  obtain ⟨A, c, rfl, hc1, hc2, hr⟩ := hr.shape
  obtain ⟨A2, c2, rfl, hc3, hc4, hr2⟩ := hr2.shape
  refine T.seq ?_
  refine T.region ?_
  refine R.asE rfl (by conv => lhs; whnf) ?_
  refine TL.nil (Post.thnN ?_)
  refine T.seq ?_
  refine T.seq ?_
  refine T.region ?_
  refine R.mvE rfl (by conv => lhs; whnf) ?_
  refine R.len Try.underlying23 rfl rfl ?_
  refine R.mvE rfl (by conv => lhs; whnf) ?_
  refine R.len Try.underlying23 rfl rfl ?_
  refine R.neq rfl rfl rfl ?_
  refine TL.nil (Post.thnN ?_)
  refine T.condD rfl (fun c10 => ?_) (fun c10 => ?_)
  · refine T.seq ?_
    refine T.region ?_
    refine R.asE rfl (by conv => lhs; whnf) ?_
    refine TL.nil (Post.thnN ?_)
    refine T.ret (Post.thnR ?_)
    -- way y
    exact fin1 rfl rfl ⟨rfl, congrArg Value.bool (decide_eq_false (fun e => c10 (by rw [e]))).symm⟩
  · refine T.skip (Post.thnN ?_)
    refine T.seq ?_
    refine T.seq ?_
    refine T.region ?_
    refine R.mvE rfl (by conv => lhs; whnf) ?_
    refine R.len Try.underlying23 rfl rfl ?_
    refine R.mvE rfl (by conv => lhs; whnf) ?_
    refine TL.nil (Post.thnN ?_)
    refine T.block ?_
    refine T.loop (ι := Nat) (fun k H' L' ds' => k ≤ xs.length ∧ xs.take k = ys.take k) (fun k => [(0, .slice A xs.length c), (1, .slice A2 ys.length c2), (12, .int .i64 xs.length), (13, .int .i64 k)]) (fun k => xs.length - k) (0) ?_ ?_ ?_
    · exact ⟨Nat.zero_le _, rfl⟩
    · exact ⟨rfl, rfl, rfl, rfl, trivial⟩
    · intro k σ0 H_0 L_0 ds_0 s_0 hI_0
      obtain ⟨hk, hw⟩ := hI_0
      refine T.seq ?_
      refine T.region ?_
      refine R.lss rfl rfl rfl ?_
      refine TL.nil (Post.thnN ?_)
      refine T.seq ?_
      refine T.condD rfl (fun c14 => ?_) (fun c14 => ?_)
      · have hlt : k < xs.length := by omega
        obtain ⟨a, hx⟩ := getk hlt
        obtain ⟨b, hy⟩ := getk (xs := ys) (k := k) (by omega)
        refine T.skip (Post.thnN ?_)
        refine T.seq ?_
        refine T.block ?_
        refine T.seq ?_
        refine T.region ?_
        refine R.mvE rfl (by conv => lhs; whnf) ?_
        refine R.asE rfl (by conv => lhs; whnf) ?_
        refine TL.nil (Post.thnN ?_)
        refine T.seq ?_
        refine T.draw Try_mixed (by kernel_rfl) ?_
        refine Plan.v 0 [1, 2, 3, 4, 5, 6, 7, 8] (by kernel_rfl) (by kernel_rfl) (by kernel_rfl) (by kernel_rfl) rfl (fun _ _ h_ => R.mvE rfl (by conv => lhs; whnf) (TL.nil h_)) ?_
        refine Plan.v 1 [2, 3, 4, 5, 6, 7, 8] (by kernel_rfl) (by kernel_rfl) (by kernel_rfl) (by kernel_rfl) rfl (fun _ _ h_ => R.mvE rfl (by conv => lhs; whnf) (TL.nil h_)) ?_
        obtain ⟨b18, o18, i18, e18⟩ := (hr.mono s_0).elem (hx)
        refine Plan.v 2 [3, 4, 5, 6, 7, 8] (by kernel_rfl) (by kernel_rfl) (by kernel_rfl) (by kernel_rfl) rfl (fun _ _ h_ => R.ixp Try.underlying23 Try.sizeOf3 rfl rfl rfl (by omega) i18 (TL.nil h_)) ?_
        refine Plan.v 3 [4, 5, 6, 7, 8] (by kernel_rfl) (by kernel_rfl) (by kernel_rfl) (by kernel_rfl) rfl (fun _ _ h_ => R.ldC Try.isAgg3 rfl rfl (e18).int (TL.nil h_)) ?_
        refine Plan.v 4 [5, 6, 7, 8] (by kernel_rfl) (by kernel_rfl) (by kernel_rfl) (by kernel_rfl) rfl (fun _ _ h_ => R.mvE rfl (by conv => lhs; whnf) (TL.nil h_)) ?_
        refine Plan.v 5 [6, 7, 8] (by kernel_rfl) (by kernel_rfl) (by kernel_rfl) (by kernel_rfl) rfl (fun _ _ h_ => R.mvE rfl (by conv => lhs; whnf) (TL.nil h_)) ?_
        obtain ⟨b22, o22, i22, e22⟩ := (hr2.mono s_0).elem (hy)
        refine Plan.v 6 [7, 8] (by kernel_rfl) (by kernel_rfl) (by kernel_rfl) (by kernel_rfl) rfl (fun _ _ h_ => R.ixp Try.underlying23 Try.sizeOf3 rfl rfl rfl (by omega) i22 (TL.nil h_)) ?_
        refine Plan.v 7 [8] (by kernel_rfl) (by kernel_rfl) (by kernel_rfl) (by kernel_rfl) rfl (fun _ _ h_ => R.ldC Try.isAgg3 rfl rfl (e22).int (TL.nil h_)) ?_
        refine Plan.v 8 [] (by kernel_rfl) (by kernel_rfl) (by kernel_rfl) (by kernel_rfl) rfl (fun _ _ h_ => R.neq rfl rfl rfl (TL.nil h_)) ?_
        refine Plan.done (Post.thnN ?_)
        refine T.condD rfl (fun c24 => ?_) (fun c24 => ?_)
        · refine T.seq ?_
          refine T.region ?_
          refine R.asE rfl (by conv => lhs; whnf) ?_
          refine TL.nil (Post.thnN ?_)
          refine T.ret (Post.blkR (Post.thnR (Post.thnR (Post.blkR (Post.thnR ?_)))))
          -- way nyy
          exact fin1 rfl rfl ⟨rfl, congrArg Value.bool (decide_eq_false (ne_of_get hx hy c24)).symm⟩
        · refine T.skip (Post.blkN ?_)
          refine id (Post.thnN ?_)
          refine T.region ?_
          refine R.addI rfl rfl rfl (by omega) ?_
          refine R.mvE rfl (by conv => lhs; whnf) ?_
          refine TL.nil (Post.thnN ?_)
          -- round's end, way nyn
          exact ⟨k + 1, s_0, ⟨by omega, take_eq_of hw hx (by rw [hy]; exact congrArg some (by omega))⟩, by omega, ⟨rfl, rfl, rfl, rfl, trivial⟩⟩
      · refine T.exit (Post.thnE (Post.thnE (Post.blkX ?_)))
        refine id (Post.thnN ?_)
        refine T.seq ?_
        refine T.region ?_
        refine R.asE rfl (by conv => lhs; whnf) ?_
        refine TL.nil (Post.thnN ?_)
        refine T.ret ?_
        -- way nn
        obtain rfl : k = xs.length := by omega
        have e1 : xs = ys := by
          rw [List.take_length, show xs.length = ys.length by omega, List.take_length] at hw; exact hw
        exact fin1 rfl rfl ⟨rfl, congrArg Value.bool (decide_eq_true e1).symm⟩


set_option maxHeartbeats 1600000 in
theorem indexI23_c (H : Heap) (v : Value) (xs : List Int) (x : Int) (hr : RdS (intE .i64) H v xs) : Fv Try.prog (fnv 71) [v, .int .i64 x] H (.int .i64 (fidxI (fun y => decide (x = y)) xs)) := by
  refine Fc.of_body (N := 19) Try.func71 rfl (by kernel_rfl) rfl rfl ?_
  intro w0
  obtain ⟨A, c, rfl, hc1, hc2, hr⟩ := hr.shape
  refine T.seq ?_
  refine T.region ?_
  refine R.asE rfl (by conv => lhs; whnf) ?_
  refine TL.nil (Post.thnN ?_)
  refine T.seq ?_
  refine T.seq ?_
  refine T.region ?_
  refine R.mvE rfl (by conv => lhs; whnf) ?_
  refine R.len Try.underlying23 rfl rfl ?_
  refine R.mvE rfl (by conv => lhs; whnf) ?_
  refine TL.nil (Post.thnN ?_)
  refine T.block ?_
  refine T.loop (ι := Nat) (fun k H' L' ds' => k ≤ xs.length ∧ ∀ (j : Nat) z, j < k → xs[j]? = some z → decide (x = z) = false) (fun k => [(0, .slice A xs.length c), (1, .int .i64 x), (7, .int .i64 xs.length), (8, .int .i64 k)]) (fun k => xs.length - k) (0) ?_ ?_ ?_
  · exact ⟨Nat.zero_le _, fun j z h => absurd h (by omega)⟩
  · exact ⟨rfl, rfl, rfl, rfl, trivial⟩
  · intro k σ0 H_0 L_0 ds_0 s_0 hI_0
    obtain ⟨hk, hw⟩ := hI_0
    refine T.seq ?_
    refine T.region ?_
    refine R.lss rfl rfl rfl ?_
    refine TL.nil (Post.thnN ?_)
    refine T.seq ?_
    refine T.condD rfl (fun c9 => ?_) (fun c9 => ?_)
    · have hlt : k < xs.length := by omega
      obtain ⟨a, hx⟩ := getk hlt
      refine T.skip (Post.thnN ?_)
      refine T.seq ?_
      refine T.block ?_
      refine T.seq ?_
      refine T.region ?_
      refine R.mvE rfl (by conv => lhs; whnf) ?_
      refine R.asE rfl (by conv => lhs; whnf) ?_
      refine TL.nil (Post.thnN ?_)
      refine T.seq ?_
      refine T.region ?_
      refine R.mvE rfl (by conv => lhs; whnf) ?_
      refine R.mvE rfl (by conv => lhs; whnf) ?_
      refine R.mvE rfl (by conv => lhs; whnf) ?_
      obtain ⟨b14, o14, i14, e14⟩ := (hr.mono s_0).elem (hx)
      refine R.ixp Try.underlying23 Try.sizeOf3 rfl rfl rfl (by omega) i14 ?_
      refine R.ldC Try.isAgg3 rfl rfl (e14).int ?_
      refine R.eql rfl rfl rfl ?_
      refine TL.nil (Post.thnN ?_)
      refine T.condD rfl (fun c16 => ?_) (fun c16 => ?_)
      · refine T.seq ?_
        refine T.region ?_
        refine R.mvE rfl (by conv => lhs; whnf) ?_
        refine R.asE rfl (by conv => lhs; whnf) ?_
        refine TL.nil (Post.thnN ?_)
        refine T.ret (Post.blkR (Post.thnR (Post.thnR (Post.blkR (Post.thnR ?_)))))
        -- way yy
        exact fin1 rfl rfl ⟨rfl, congrArg (Value.int .i64) (fidxI_at (p := fun y => decide (x = y)) hx (decide_eq_true c16) hw).symm⟩
      · refine T.skip (Post.blkN ?_)
        refine id (Post.thnN ?_)
        refine T.region ?_
        refine R.addI rfl rfl rfl (by omega) ?_
        refine R.mvE rfl (by conv => lhs; whnf) ?_
        refine TL.nil (Post.thnN ?_)
        -- round's end, way yn
        exact ⟨k + 1, s_0, ⟨by omega, fun j z h1 h2 => if e : j = k then by subst e; rw [hx] at h2; injection h2 with h2; subst h2; exact decide_eq_false c16 else hw j z (by omega) h2⟩, by omega, ⟨rfl, rfl, rfl, rfl, trivial⟩⟩
    · refine T.exit (Post.thnE (Post.thnE (Post.blkX ?_)))
      refine id (Post.thnN ?_)
      refine T.seq ?_
      refine T.region ?_
      refine R.asE rfl (by conv => lhs; whnf) ?_
      refine TL.nil (Post.thnN ?_)
      refine T.ret ?_
      -- way n
      exact fin1 rfl rfl ⟨rfl, congrArg (Value.int .i64) (fidxI_none (p := fun y => decide (x = y)) (fun j z h => hw j z (by have := (List.getElem?_eq_some_iff.1 h).1; omega) h)).symm⟩


set_option maxHeartbeats 1600000 in
theorem containsI23_c (H : Heap) (v : Value) (xs : List Int) (x : Int) (hr : RdS (intE .i64) H v xs) : Fv Try.prog (fnv 30) [v, .int .i64 x] H (.bool (xs.any (fun y => decide (x = y)))) := by
  refine Fc.of_body (N := 9) Try.func30 rfl (by kernel_rfl) rfl rfl ?_
  intro w0
  refine T.seq ?_
  refine T.region ?_
  refine R.asE rfl (by conv => lhs; whnf) ?_
  refine TL.nil (Post.thnN ?_)
  refine T.seq ?_
  refine T.region ?_
  refine R.mvE rfl (by conv => lhs; whnf) ?_
  refine R.mvE rfl (by conv => lhs; whnf) ?_
  refine R.callv rfl rfl rfl (indexI23_c _ _ _ _ hr) ?_
  refine R.geq rfl rfl rfl ?_
  refine R.asE rfl (by conv => lhs; whnf) ?_
  refine TL.nil (Post.thnN ?_)
  refine T.ret ?_
  exact fin1 rfl rfl ⟨rfl, congrArg Value.bool (by rw [Bool.eq_iff_iff, decide_eq_true_eq]; exact fidxI_ge)⟩


set_option maxHeartbeats 1600000 in
theorem cloneI23_c (H : Heap) (v : Value) (xs : List Int) (hr : RdS (intE .i64) H v xs) (hl : xs.length ≤ 1048576) : Fc Try.prog (fnv 32) [v] H [] (fun v' H' L' => ∃ c, L' = [c] ∧ OwnS (intE .i64) 3 H' v' xs c) := by
  refine Fc.of_body (N := 8) Try.func32 rfl (by kernel_rfl) rfl rfl ?_
  intro w0
  obtain ⟨A, c, rfl, hc1, hc2, hr⟩ := hr.shape
  refine T.seq ?_
  refine T.region ?_
  refine R.asE rfl (by conv => lhs; whnf) ?_
  refine TL.nil (Post.thnN ?_)
  refine T.seq ?_
  refine T.seq ?_
  refine T.region ?_
  refine R.mvE rfl (by conv => lhs; whnf) ?_
  refine R.nilS Try.underlying23 rfl rfl rfl ?_
  refine TL.nil (Post.thnN ?_)
  refine T.cond rfl (fun c4 => ?_) (fun c4 => ?_)
  · refine T.seq ?_
    refine T.nilc ?_
    refine T.region ?_
    refine R.asE rfl (by conv => lhs; whnf) ?_
    refine TL.nil (Post.thnN ?_)
    refine T.ret (Post.thnR ?_)
    -- way y
    exact fin1L [[]] rfl rfl (List.Sublist.refl _) ⟨_, rfl, .inl ⟨rfl, RdS.none_nil (by cases A with | none => exact hr | some _ => cases c4), rfl⟩⟩
  · refine T.skip (Post.thnN ?_)
    refine T.seq ?_
    refine T.region ?_
    refine R.bs0 (E := (intE .i64)) rfl Try.underlying23 Try.sizeOf3 ?_
    intro v5 c5 w5
    refine R.mvE rfl (by conv => lhs; whnf) ?_
    obtain ⟨cs7, y7, r7⟩ := Src.rd (L := [c5]) hr
    refine R.app Try_ty23 rfl rfl rfl w5 .hd r7 y7 (by simp; omega) (by simp; omega) ?_
    intro v7 c7 w7
    rw [List.nil_append] at w7
    refine R.asE rfl (by conv => lhs; whnf) ?_
    refine TL.nil (Post.thnN ?_)
    refine T.ret ?_
    -- way n
    exact fin1L [c7] rfl rfl (List.Sublist.refl _) ⟨_, rfl, w7⟩


set_option maxHeartbeats 1600000 in
theorem cloneP22_c (H : Heap) (v : Value) (xs : List (Int × Int)) (hr : RdS pairE H v xs) (hl : xs.length ≤ 1048576) : Fc Try.prog (fnv 48) [v] H [] (fun v' H' L' => ∃ c, L' = [c] ∧ OwnS pairE 37 H' v' xs c) := by
  refine Fc.of_body (N := 8) Try.func48 rfl (by kernel_rfl) rfl rfl ?_
  intro w0
  obtain ⟨A, c, rfl, hc1, hc2, hr⟩ := hr.shape
  refine T.seq ?_
  refine T.region ?_
  refine R.asE rfl (by conv => lhs; whnf) ?_
  refine TL.nil (Post.thnN ?_)
  refine T.seq ?_
  refine T.seq ?_
  refine T.region ?_
  refine R.mvE rfl (by conv => lhs; whnf) ?_
  refine R.nilS Try.underlying22 rfl rfl rfl ?_
  refine TL.nil (Post.thnN ?_)
  refine T.cond rfl (fun c4 => ?_) (fun c4 => ?_)
  · refine T.seq ?_
    refine T.nilc ?_
    refine T.region ?_
    refine R.asE rfl (by conv => lhs; whnf) ?_
    refine TL.nil (Post.thnN ?_)
    refine T.ret (Post.thnR ?_)
    -- way y
    exact fin1L [[]] rfl rfl (List.Sublist.refl _) ⟨_, rfl, .inl ⟨rfl, RdS.none_nil (by cases A with | none => exact hr | some _ => cases c4), rfl⟩⟩
  · refine T.skip (Post.thnN ?_)
    refine T.seq ?_
    refine T.region ?_
    refine R.bs0 (E := pairE) rfl Try.underlying22 Try.sizeOf37 ?_
    intro v5 c5 w5
    refine R.mvE rfl (by conv => lhs; whnf) ?_
    obtain ⟨cs7, y7, r7⟩ := Src.rd (L := [c5]) hr
    refine R.app Try_ty22 rfl rfl rfl w5 .hd r7 y7 (by simp; omega) (by simp; omega) ?_
    intro v7 c7 w7
    rw [List.nil_append] at w7
    refine R.asE rfl (by conv => lhs; whnf) ?_
    refine TL.nil (Post.thnN ?_)
    refine T.ret ?_
    -- way n
    exact fin1L [c7] rfl rfl (List.Sublist.refl _) ⟨_, rfl, w7⟩


set_option maxHeartbeats 1600000 in
theorem isNaNcI3_c (H : Heap) (x : Int) : Fv Try.prog (fnv 91) [.int .i64 x] H (.bool false) := by
  refine Fc.of_body (N := 6) Try.func91 rfl (by kernel_rfl) rfl rfl ?_
  intro w0
  refine T.seq ?_
  refine T.region ?_
  refine R.asE rfl (by conv => lhs; whnf) ?_
  refine TL.nil (Post.thnN ?_)
  refine T.seq ?_
  refine T.region ?_
  refine R.mvE rfl (by conv => lhs; whnf) ?_
  refine R.mvE rfl (by conv => lhs; whnf) ?_
  refine R.neq rfl rfl rfl ?_
  refine R.asE rfl (by conv => lhs; whnf) ?_
  refine TL.nil (Post.thnN ?_)
  refine T.ret ?_
  exact fin1 rfl rfl ⟨rfl, congrArg Value.bool (by simp)⟩


set_option maxHeartbeats 1600000 in
theorem lessI3_c (H : Heap) (x y : Int) : Fv Try.prog (fnv 72) [.int .i64 x, .int .i64 y] H (.bool (decide (x < y))) := by
  refine Fc.of_body (N := 17) Try.func72 rfl (by kernel_rfl) rfl rfl ?_
  intro w0
  refine T.seq ?_
  refine T.region ?_
  refine R.asE rfl (by conv => lhs; whnf) ?_
  refine TL.nil (Post.thnN ?_)
  refine T.seq ?_
  refine T.region ?_
  refine R.mvE rfl (by conv => lhs; whnf) ?_
  refine R.callv rfl rfl rfl (isNaNcI3_c _ _) ?_
  refine R.mvE rfl (by conv => lhs; whnf) ?_
  refine TL.off rfl rfl rfl ?_
  refine TL.off rfl rfl rfl ?_
  refine TL.off rfl rfl rfl ?_
  refine R.pkFE rfl rfl (by conv => lhs; whnf) ?_
  refine R.mvE rfl (by conv => lhs; whnf) ?_
  refine R.mvE rfl (by conv => lhs; whnf) ?_
  refine R.mvE rfl (by conv => lhs; whnf) ?_
  refine R.lss rfl rfl rfl ?_
  refine R.pkFE rfl rfl (by conv => lhs; whnf) ?_
  refine R.asE rfl (by conv => lhs; whnf) ?_
  refine TL.nil (Post.thnN ?_)
  refine T.ret ?_
  exact fin1 rfl rfl ⟨rfl, rfl⟩


set_option maxHeartbeats 1600000 in
theorem compareI3_c (H : Heap) (x y : Int) : Fv Try.prog (fnv 86) [.int .i64 x, .int .i64 y] H (.int .i64 (cmpI x y)) := by
  refine Fc.of_body (N := 20) Try.func86 rfl (by kernel_rfl) rfl rfl ?_
  intro w0
  refine T.seq ?_
  refine T.region ?_
  refine R.asE rfl (by conv => lhs; whnf) ?_
  refine TL.nil (Post.thnN ?_)
  refine T.seq ?_
  refine T.region ?_
  refine R.mvE rfl (by conv => lhs; whnf) ?_
  refine R.callv rfl rfl rfl (isNaNcI3_c _ _) ?_
  refine R.asE rfl (by conv => lhs; whnf) ?_
  refine TL.nil (Post.thnN ?_)
  refine T.seq ?_
  refine T.region ?_
  refine R.mvE rfl (by conv => lhs; whnf) ?_
  refine R.callv rfl rfl rfl (isNaNcI3_c _ _) ?_
  refine R.asE rfl (by conv => lhs; whnf) ?_
  refine TL.nil (Post.thnN ?_)
  refine T.seq ?_
  refine T.seq ?_
  refine T.region ?_
  refine R.mvE rfl (by conv => lhs; whnf) ?_
  refine TL.nil (Post.thnN ?_)
  refine T.condN rfl ?_
  refine T.skip (Post.thnN ?_)
  refine T.seq ?_
  refine T.seq ?_
  refine T.region ?_
  refine R.mvE rfl (by conv => lhs; whnf) ?_
  refine TL.nil (Post.thnN ?_)
  refine T.condN rfl ?_
  refine T.skip (Post.thnN ?_)
  refine T.seq ?_
  refine T.seq ?_
  refine T.region ?_
  refine R.mvE rfl (by conv => lhs; whnf) ?_
  refine R.mvE rfl (by conv => lhs; whnf) ?_
  refine R.lss rfl rfl rfl ?_
  refine TL.nil (Post.thnN ?_)
  refine T.condD rfl (fun c16 => ?_) (fun c16 => ?_)
  · refine T.seq ?_
    refine T.region ?_
    refine R.asE rfl (by conv => lhs; whnf) ?_
    refine TL.nil (Post.thnN ?_)
    refine T.ret (Post.thnR ?_)
    -- way y
    exact fin1 rfl rfl ⟨rfl, congrArg (Value.int .i64) (by unfold cmpI; split <;> (try split) <;> omega)⟩
  · refine T.skip (Post.thnN ?_)
    refine T.seq ?_
    refine T.seq ?_
    refine T.region ?_
    refine R.mvE rfl (by conv => lhs; whnf) ?_
    refine R.mvE rfl (by conv => lhs; whnf) ?_
    refine R.gtr rfl rfl rfl ?_
    refine TL.nil (Post.thnN ?_)
    refine T.condD rfl (fun c19 => ?_) (fun c19 => ?_)
    · refine T.seq ?_
      refine T.region ?_
      refine R.asE rfl (by conv => lhs; whnf) ?_
      refine TL.nil (Post.thnN ?_)
      refine T.ret (Post.thnR ?_)
      -- way ny
      exact fin1 rfl rfl ⟨rfl, congrArg (Value.int .i64) (by unfold cmpI; split <;> (try split) <;> omega)⟩
    · refine T.skip (Post.thnN ?_)
      refine T.seq ?_
      refine T.region ?_
      refine R.asE rfl (by conv => lhs; whnf) ?_
      refine TL.nil (Post.thnN ?_)
      refine T.ret ?_
      -- way nn
      exact fin1 rfl rfl ⟨rfl, congrArg (Value.int .i64) (by unfold cmpI; split <;> (try split) <;> omega)⟩

end Go.SX
