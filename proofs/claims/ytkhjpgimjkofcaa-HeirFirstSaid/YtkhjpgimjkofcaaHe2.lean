/- asked: the ways, one by one. -/
import Derived.Test.YtkhjpgimjkofcaaHe1
import Derived.Test.YtkhjpgimjkofcaaWf
import Derived.Test.YtkhjpgimjkofcaaSx5
set_option linter.unusedVariables false
set_option linter.unusedSimpArgs false
namespace Go.SX
open Go Go.Proofs

set_option maxHeartbeats 1600000 in
theorem asked1_c (H : Heap) (b2 b3 : Nat) (v : Value) (xs : List Lk) (a : Int) (h2 : H b2 = some (.cells #[.int .i64 a] 3)) (h3 : H b3 = some (.cells #[v] 22)) (hr : RdS pairE H v xs) (hc : chainB xs = true) (hl : xs.length ≤ 1000) : Iter Try.prog (.func (.func 84) #[] ([.pointer (some ⟨b2, 0, none⟩), .pointer (some ⟨b3, 0, none⟩)] : List Value).toArray) YW H (askL xs a) := by
  obtain ⟨A, c, rfl, hc1, hc2, hr⟩ := hr.shape
  intro l J Jx H1 Lc hle hJ hJx hY h0
  refine Fc.of_body (N := 84) Try.func84 rfl (by kernel_rfl) rfl rfl ?_
  intro w0
  refine T.seq ?_
  refine T.region ?_
  refine R.mkm rfl ?_
  intro b13
  refine R.ldH Try.isAgg3 rfl rfl (hle _ _ h2) rfl ?_
  refine R.ins Try.underlying51 Try.underlying3 rfl rfl rfl rfl .hd (mapIs_nil _) ?_
  intro es13 ck13 i13
  refine R.mvE rfl (by conv => lhs; whnf) ?_
  refine R.asE rfl (by conv => lhs; whnf) ?_
  refine TL.nil (Post.thnN ?_)
  refine T.seq ?_
  refine T.region ?_
  refine R.mkm rfl ?_
  intro b16
  refine TL.permL (L' := [(b13, .map es13 ck13)] :: [(b16, .map #[] 0)] :: ([] ++ Lc)) permS ?_
  refine R.asE rfl (by conv => lhs; whnf) ?_
  refine TL.nil (Post.thnN ?_)
  refine T.seq ?_
  refine T.seq ?_
  refine T.region ?_
  refine R.ldH Try.isAgg22 rfl rfl (hle _ _ h3) rfl ?_
  refine R.len Try.underlying22 rfl rfl ?_
  refine R.mvE rfl (by conv => lhs; whnf) ?_
  refine TL.nil (Post.thnN ?_)
  refine T.block ?_
  refine T.loop (ι := Nat × MapL × Own × Array MapEntry × Nat) (fun ⟨k, m, rows, es, ck⟩ H' L' ds' => k ≤ xs.length ∧ ds' = [] ∧ L' = [(b13, .map es13 ck13)] :: [(b16, .map es ck)] :: (rows ++ Lc) ∧ MapIs .i64 es m ∧ F2 (intE .i64) 3 H' (tosN xs k) m rows ∧ (m.map Prod.fst).Nodup ∧ (∀ j, j ∉ m.map Prod.fst → tosN xs k j = []) ∧ J [] H' Lc) (fun ⟨k, m, rows, es, ck⟩ => [(0, yieldv l), (1, .pointer (some ⟨b2, 0, none⟩)), (4, .map (some b13)), (5, .map (some b16)), (17, .slice A xs.length c), (18, .int .i64 xs.length), (19, .int .i64 k)]) (fun ⟨k, m, rows, es, ck⟩ => xs.length - k) ((0, [], [], #[], 0)) ?_ ?_ ?_
  · exact ⟨Nat.zero_le _, rfl, rfl, mapIs_nil _, trivial, List.nodup_nil, fun j _ => tosN_zero xs j, h0⟩
  · exact ⟨rfl, rfl, rfl, rfl, rfl, rfl, rfl, trivial⟩
  · intro ⟨k, m, rows, es, ck⟩ σ0 H_0 L_0 ds_0 s_0 hI_0
    obtain ⟨hk, rfl, rfl, hm, hf, hnd, hno, hJ0⟩ := hI_0
    refine T.seq ?_
    refine T.region ?_
    refine R.lss rfl rfl rfl ?_
    refine TL.nil (Post.thnN ?_)
    refine T.seq ?_
    refine T.condD rfl (fun c20 => ?_) (fun c20 => ?_)
    · have hlt : k < xs.length := by omega
      obtain ⟨y, hy⟩ := getk hlt
      refine T.skip (Post.thnN ?_)
      refine T.seq ?_
      refine T.block ?_
      refine T.seq ?_
      refine T.region ?_
      obtain ⟨b21, o21, i21, e21⟩ := ((hr.mono hle).mono s_0).elem (hy)
      refine R.ixp Try.underlying22 Try.sizeOf37 rfl rfl rfl (by omega) i21 ?_
      refine R.ldP Try.isAgg37 Try.sizeOf37 rfl rfl (e21) ?_
      refine R.alloc Try.zeroValue37 rfl ?_
      intro b7
      refine R.stA (old := [.int .i64 0, .int .i64 0]) Try.sizeOf37 rfl rfl rfl rfl rfl (by intro v hv; simp at hv; rcases hv with rfl | rfl <;> rfl) .hd ?_
      refine TL.nil (Post.thnN ?_)
      refine T.shut .hd ?_
      intro H7 s7 q7
      have h7 : H7 b7 = some (.cells #[.int .i64 y.1, .int .i64 y.2] 37) := shut1 q7
      obtain ⟨cr, RR, hpr, hoc, hput⟩ := F2.take y.1 (hf.mono s7) hnd (hno y.1)
      refine T.permL (L' := cr :: [(b13, .map es13 ck13)] :: [(b16, .map es ck)] :: (RR ++ Lc)) (perm_take hpr) ?_
      have hbl := tosN_len xs k y.1
      refine T.draw Try_mixed (by kernel_rfl) ?_
      refine Plan.v 0 [1, 2, 3, 4, 5, 6, 7, 8, 9, 10, 11] (by kernel_rfl) (by kernel_rfl) (by kernel_rfl) (by kernel_rfl) rfl (fun _ _ h_ => R.mvE rfl (by conv => lhs; whnf) (TL.nil h_)) ?_
      refine Plan.v 1 [2, 3, 4, 5, 6, 7, 8, 9, 10, 11] (by kernel_rfl) (by kernel_rfl) (by kernel_rfl) (by kernel_rfl) rfl (fun _ _ h_ => R.fldA Try.underlying37 rfl Try.sizeOf3 (by decide) rfl rfl (TL.nil h_)) ?_
      refine Plan.v 2 [3, 4, 5, 6, 7, 8, 9, 10, 11] (by kernel_rfl) (by kernel_rfl) (by kernel_rfl) (by kernel_rfl) rfl (fun _ _ h_ => R.ldH Try.isAgg3 rfl rfl (h7) rfl (TL.nil h_)) ?_
      refine Plan.v 3 [4, 5, 6, 7, 8, 9, 10, 11] (by kernel_rfl) (by kernel_rfl) (by kernel_rfl) (by kernel_rfl) rfl (fun _ _ h_ => R.mvE rfl (by conv => lhs; whnf) (TL.nil h_)) ?_
      refine Plan.v 4 [5, 6, 7, 8, 9, 10, 11] (by kernel_rfl) (by kernel_rfl) (by kernel_rfl) (by kernel_rfl) rfl (fun _ _ h_ => R.fldA Try.underlying37 rfl Try.sizeOf3 (by decide) rfl rfl (TL.nil h_)) ?_
      refine Plan.v 5 [6, 7, 8, 9, 10, 11] (by kernel_rfl) (by kernel_rfl) (by kernel_rfl) (by kernel_rfl) rfl (fun _ _ h_ => R.ldH Try.isAgg3 rfl rfl (h7) rfl (TL.nil h_)) ?_
      refine Plan.v 7 [6, 8, 9, 10, 11] (by kernel_rfl) (by kernel_rfl) (by kernel_rfl) (by kernel_rfl) rfl (fun _ _ h_ => R.fldA Try.underlying37 rfl Try.sizeOf3 (by decide) rfl rfl (TL.nil h_)) ?_
      refine Plan.v 8 [6, 9, 10, 11] (by kernel_rfl) (by kernel_rfl) (by kernel_rfl) (by kernel_rfl) rfl (fun _ _ h_ => R.ldH Try.isAgg3 rfl rfl (h7) rfl (TL.nil h_)) ?_
      refine Plan.s2 6 9 [9, 10, 11] [6, 10, 11] (by kernel_rfl) (by kernel_rfl) (by kernel_rfl) rfl rfl ?_ ?_
      · refine R.lku Try.underlying97 Try.underlying3 Try.zeroValue23 rfl rfl rfl (by first | exact .hd | exact .tl .hd | exact .tl (.tl .hd) | exact .tl (.tl (.tl .hd)) | exact .tl (.tl (.tl (.tl .hd))) | exact .tl (.tl (.tl (.tl (.tl .hd)))) | exact .tl (.tl (.tl (.tl (.tl (.tl .hd))))) | exact .tl (.tl (.tl (.tl (.tl (.tl (.tl .hd)))))) | exact .tl (.tl (.tl (.tl (.tl (.tl (.tl (.tl .hd))))))) | exact .tl (.tl (.tl (.tl (.tl (.tl (.tl (.tl (.tl .hd))))))))) hm ?_
        refine TL.nil (Plan.e1 (HLe.refl _) ?_)
        refine Plan.s1 9 [10, 11] (by kernel_rfl) (by kernel_rfl) rfl ?_
        refine R.bs rfl (run_buildSlice1 Try.underlying23 Try.sizeOf3 Try.zeroValue3 rfl rfl) ?_
        intro b32
        refine TL.nil (Plan.e1 (HLe.refl _) ?_)
        refine Plan.s1 10 [11] (by kernel_rfl) (by kernel_rfl) rfl ?_
        refine R.app (ys := [y.2]) Try_ty23 rfl rfl rfl hoc (.tl .hd) (Src.lit (vs := [.int .i64 y.2]) (by first | exact .hd | exact .tl .hd | exact .tl (.tl .hd) | exact .tl (.tl (.tl .hd)) | exact .tl (.tl (.tl (.tl .hd))) | exact .tl (.tl (.tl (.tl (.tl .hd)))) | exact .tl (.tl (.tl (.tl (.tl (.tl .hd))))) | exact .tl (.tl (.tl (.tl (.tl (.tl (.tl .hd)))))) | exact .tl (.tl (.tl (.tl (.tl (.tl (.tl (.tl .hd))))))) | exact .tl (.tl (.tl (.tl (.tl (.tl (.tl (.tl (.tl .hd)))))))))) ⟨[.int .i64 y.2], [], rfl, rfl, rfl⟩ (by first | omega | (simp; omega)) (by first | omega | (simp; omega)) ?_
        intro v33 c33 w33
        refine TL.del (.tl .hd) ?_
        refine TL.nil (Plan.e1 (HLe.refl _) ?_)
        refine Plan.s1 11 [] (by kernel_rfl) (by kernel_rfl) rfl ?_
        refine R.mup Try.underlying97 Try.underlying3 rfl rfl rfl rfl (.tl (.tl .hd)) hm ?_
        intro es34 ck34 i34
        refine TL.nil (Plan.e0 (HLe.refl _) ?_)
        refine Plan.done (Post.blkN ?_)
        refine id (Post.thnN ?_)
        obtain ⟨rowsX, hfX, hpX⟩ := hput H7 v33 c33 _ (HLe.refl _) w33
        refine T.permL (L' := [(b13, .map es13 ck13)] :: [(b16, .map es34 ck34)] :: (rowsX ++ Lc)) (perm_put hpX) ?_
        refine T.region ?_
        refine R.addI rfl rfl rfl (by omega) ?_
        refine R.mvE rfl (by conv => lhs; whnf) ?_
        refine TL.nil (Post.thnN ?_)
        -- round's end, way y0
        refine ⟨(k + 1, mput m y.1 v33, rowsX, es34, ck34), s_0.trans s7, ⟨by show k + 1 ≤ _; omega, rfl, rfl, i34, by rw [← tosN_snoc hy]; exact hfX, mput_nodup _ _ _ hnd, fun j hj => ?_, hJ _ _ _ _ s7 hJ0⟩, by show xs.length - (k + 1) < xs.length - k; omega, ⟨rfl, rfl, rfl, rfl, rfl, rfl, rfl, trivial⟩⟩
        have h9 : j ≠ y.1 ∧ j ∉ m.map Prod.fst := by
          refine ⟨fun e => hj ((mput_keys _ _ _ _).2 (.inl e)), fun e => hj ((mput_keys _ _ _ _).2 (.inr e))⟩
        rw [← congrFun (tosN_snoc hy) j, if_neg h9.1]
        exact hno j h9.2
      · refine R.bs rfl (run_buildSlice1 Try.underlying23 Try.sizeOf3 Try.zeroValue3 rfl rfl) ?_
        intro b32
        refine TL.nil (Plan.e1 (HLe.refl _) ?_)
        refine Plan.s1 6 [10, 11] (by kernel_rfl) (by kernel_rfl) rfl ?_
        refine R.lku Try.underlying97 Try.underlying3 Try.zeroValue23 rfl rfl rfl (by first | exact .hd | exact .tl .hd | exact .tl (.tl .hd) | exact .tl (.tl (.tl .hd)) | exact .tl (.tl (.tl (.tl .hd))) | exact .tl (.tl (.tl (.tl (.tl .hd)))) | exact .tl (.tl (.tl (.tl (.tl (.tl .hd))))) | exact .tl (.tl (.tl (.tl (.tl (.tl (.tl .hd)))))) | exact .tl (.tl (.tl (.tl (.tl (.tl (.tl (.tl .hd))))))) | exact .tl (.tl (.tl (.tl (.tl (.tl (.tl (.tl (.tl .hd))))))))) hm ?_
        refine TL.nil (Plan.e1 (HLe.refl _) ?_)
        refine Plan.s1 10 [11] (by kernel_rfl) (by kernel_rfl) rfl ?_
        refine R.app (ys := [y.2]) Try_ty23 rfl rfl rfl hoc (.tl .hd) (Src.lit (vs := [.int .i64 y.2]) (by first | exact .hd | exact .tl .hd | exact .tl (.tl .hd) | exact .tl (.tl (.tl .hd)) | exact .tl (.tl (.tl (.tl .hd))) | exact .tl (.tl (.tl (.tl (.tl .hd)))) | exact .tl (.tl (.tl (.tl (.tl (.tl .hd))))) | exact .tl (.tl (.tl (.tl (.tl (.tl (.tl .hd)))))) | exact .tl (.tl (.tl (.tl (.tl (.tl (.tl (.tl .hd))))))) | exact .tl (.tl (.tl (.tl (.tl (.tl (.tl (.tl (.tl .hd)))))))))) ⟨[.int .i64 y.2], [], rfl, rfl, rfl⟩ (by first | omega | (simp; omega)) (by first | omega | (simp; omega)) ?_
        intro v33 c33 w33
        refine TL.del (.tl .hd) ?_
        refine TL.nil (Plan.e1 (HLe.refl _) ?_)
        refine Plan.s1 11 [] (by kernel_rfl) (by kernel_rfl) rfl ?_
        refine R.mup Try.underlying97 Try.underlying3 rfl rfl rfl rfl (.tl (.tl .hd)) hm ?_
        intro es34 ck34 i34
        refine TL.nil (Plan.e0 (HLe.refl _) ?_)
        refine Plan.done (Post.blkN ?_)
        refine id (Post.thnN ?_)
        obtain ⟨rowsX, hfX, hpX⟩ := hput H7 v33 c33 _ (HLe.refl _) w33
        refine T.permL (L' := [(b13, .map es13 ck13)] :: [(b16, .map es34 ck34)] :: (rowsX ++ Lc)) (perm_put hpX) ?_
        refine T.region ?_
        refine R.addI rfl rfl rfl (by omega) ?_
        refine R.mvE rfl (by conv => lhs; whnf) ?_
        refine TL.nil (Post.thnN ?_)
        -- round's end, way y1
        refine ⟨(k + 1, mput m y.1 v33, rowsX, es34, ck34), s_0.trans s7, ⟨by show k + 1 ≤ _; omega, rfl, rfl, i34, by rw [← tosN_snoc hy]; exact hfX, mput_nodup _ _ _ hnd, fun j hj => ?_, hJ _ _ _ _ s7 hJ0⟩, by show xs.length - (k + 1) < xs.length - k; omega, ⟨rfl, rfl, rfl, rfl, rfl, rfl, rfl, trivial⟩⟩
        have h9 : j ≠ y.1 ∧ j ∉ m.map Prod.fst := by
          refine ⟨fun e => hj ((mput_keys _ _ _ _).2 (.inl e)), fun e => hj ((mput_keys _ _ _ _).2 (.inr e))⟩
        rw [← congrFun (tosN_snoc hy) j, if_neg h9.1]
        exact hno j h9.2
    · refine T.exit (Post.thnE (Post.thnE (Post.blkX ?_)))
      refine id (Post.thnN ?_)
      refine T.seq ?_
      have hkx : k = xs.length := by omega
      refine T.permL (L' := ([(b16, .map es ck)] ++ rows.flatten) :: [(b13, .map es13 ck13)] :: Lc) perm_frz ?_
      refine T.shut .hd ?_
      intro HF sF qF
      have hmF : HF b16 = some (.map es ck) := qF (b16, .map es ck) (by simp)
      have hAt : ∀ j, RdS (intE .i64) HF ((mget m j).getD (.slice none 0 0)) (toL xs j) := fun j => by
        rw [← tosN_all hc j, ← hkx]
        exact hf.read j sF (fun q hq => qF q (List.mem_append_right _ hq)) (hno j)
      obtain ⟨esA, ckA, mA, hmA, hmF, hAt⟩ : ∃ esA ckA mA, MapIs .i64 esA mA ∧ HF b16 = some (.map esA ckA) ∧ ∀ j, RdS (intE .i64) HF ((mget mA j).getD (.slice none 0 0)) (toL xs j) := ⟨es, ck, m, hm, hmF, hAt⟩
      refine T.region ?_
      refine R.ldH Try.isAgg3 rfl rfl (sF _ _ (s_0 _ _ (hle _ _ h2))) rfl ?_
      refine R.bs rfl (run_buildSlice1 Try.underlying23 Try.sizeOf3 Try.zeroValue3 rfl rfl) ?_
      intro b36
      refine TL.shut .hd ?_
      intro H36 s36 q36
      refine R.bs rfl (run_buildSlice1 Try.underlying52 Try.sizeOf23 Try.zeroValue23 rfl rfl) ?_
      intro b37
      refine R.asE rfl (by conv => lhs; whnf) ?_
      refine TL.nil (Post.thnN ?_)
      refine T.block ?_
      refine T.loop (ι := Nat × List (List Int) × List Int × List (List Int) × Value × Chunk × Array MapEntry × Nat × MapL × Own) (fun ⟨n, pre, met, q, vw, cw, es, ck, m, Lj⟩ H' L' ds' => ds' = [] ∧ L' = cw :: [(b13, .map es ck)] :: Lj ∧ AInv xs a n pre met q ∧ OwnO (slE (intE .i64)) 23 H' vw q cw ∧ MapIs .i64 es m ∧ MetIs m met ∧ J pre H' Lj) (fun ⟨n, pre, met, q, vw, cw, es, ck, m, Lj⟩ => [(0, yieldv l), (1, .pointer (some ⟨b2, 0, none⟩)), (4, .map (some b13)), (5, .map (some b16)), (8, vw)]) (fun ⟨n, pre, met, q, vw, cw, es, ck, m, Lj⟩ => n) ((xs.length + 2, [], [a], [[a]], .slice (some ⟨b37, 0, none⟩) 1 1, [(b37, .cells #[.slice (some ⟨b36, 0, none⟩) 1 1] 23)], es13, ck13, mput [] a (.bool true), Lc)) ?_ ?_ ?_
      · exact ⟨rfl, rfl, AInv.start xs a, own_one rfl (slE_one (RdS.lit1 q36)), i13, MetIs.one a, hJ _ _ _ _ (sF.trans s36) hJ0⟩
      · exact ⟨rfl, rfl, rfl, rfl, rfl, trivial⟩
      · intro ⟨n, pre, met, q, vw, cw, es, ck, m, Lj⟩ σ1 H_1 L_1 ds_1 s_1 hI_1
        obtain ⟨rfl, rfl, hA, hw, hm, hM, hJ1⟩ := hI_1
        obtain ⟨Aw, kw, hvw, hw1, hw2⟩ := hw.shape
        subst hvw
        refine T.seq ?_
        refine T.seq ?_
        refine T.region ?_
        refine R.mvE rfl (by conv => lhs; whnf) ?_
        refine R.len Try.underlying52 rfl rfl ?_
        refine R.gtr rfl rfl rfl ?_
        refine TL.nil (Post.thnN ?_)
        refine T.condD rfl (fun c40 => ?_) (fun c40 => ?_)
        · obtain ⟨p, q, rfl⟩ : ∃ p q', q = p :: q' := by
            cases q with
            | nil => simp at c40
            | cons p q => exact ⟨p, q, rfl⟩
          refine T.skip (Post.thnN ?_)
          refine T.seq ?_
          refine T.block ?_
          refine T.seq ?_
          refine T.region ?_
          refine R.mvE rfl (by conv => lhs; whnf) ?_
          obtain ⟨bw, ow, kw', csw, lw, hcw, hvw, hkw, hix, hRw, hcs⟩ := hw.elem (rfl : (p :: q)[0]? = some p)
          subst hcw
          cases hvw
          obtain ⟨vp, rfl, hp⟩ := hRw
          obtain ⟨Ap, kp, rfl, hp1, hp2, hp⟩ := hp.shape
          have hpn : p ≠ [] := (hA.mid 0).2.2
          refine R.ixp Try.underlying52 Try.sizeOf23 rfl rfl rfl (by omega) hix ?_
          refine R.ld Try.isAgg23 rfl rfl .hd (hcs 0 _ rfl) ?_
          refine R.asE rfl (by conv => lhs; whnf) ?_
          refine TL.nil (Post.thnN ?_)
          refine T.seq ?_
          refine T.region ?_
          refine R.mvE rfl (by conv => lhs; whnf) ?_
          refine R.mvE rfl (by conv => lhs; whnf) ?_
          refine R.len Try.underlying23 rfl rfl ?_
          refine R.subI rfl rfl rfl (by omega) ?_
          obtain ⟨b50, o50, i50, e50⟩ := (hp.mono (HLe.refl _)).elem (lastI_at hpn)
          refine R.ixp Try.underlying23 Try.sizeOf3 rfl rfl rfl (by have := List.length_pos_iff.2 hpn; omega) i50 ?_
          refine R.ldC Try.isAgg3 rfl rfl (e50).int ?_
          refine R.asE rfl (by conv => lhs; whnf) ?_
          refine TL.nil (Post.thnN ?_)
          refine T.seq ?_
          refine T.seq ?_
          refine T.region ?_
          refine R.mvE rfl (by conv => lhs; whnf) ?_
          refine R.mvE rfl (by conv => lhs; whnf) ?_
          refine R.mvE rfl (by conv => lhs; whnf) ?_
          refine TL.callT 2 rfl rfl rfl (hY pre p _ H_1 Lj (s_0.trans (sF.trans (s36.trans s_1))) hA.hand hJ1 ⟨_, rfl, hp⟩) ?_
          intro v55 H55 L55 s55 q55
          rcases q55 with ⟨rfl, hJ2⟩ | ⟨rfl, hJ2⟩
          · refine R.not rfl rfl ?_
            refine TL.nil (Post.thnN ?_)
            refine T.condN rfl ?_
            refine T.skip (Post.thnN ?_)
            refine T.seq ?_
            refine T.region ?_
            refine R.mvE rfl (by conv => lhs; whnf) ?_
            refine R.mvE rfl (by conv => lhs; whnf) ?_
            refine R.lkuH Try.underlying97 Try.underlying3 Try.zeroValue23 rfl rfl rfl ((s_1.trans s55) _ _ (s36 _ _ hmF)) hmA ?_
            have hat := ((hAt (lastI p)).mono s36).mono (s_1.trans s55)
            obtain ⟨At, kt, hva, ht1, ht2, hat⟩ := hat.shape
            refine TL.set 59 (.slice At (toL xs (lastI p)).length kt) hva ?_
            refine R.len Try.underlying23 rfl rfl ?_
            refine R.mvE rfl (by conv => lhs; whnf) ?_
            refine TL.nil (Post.thnN ?_)
            refine T.block ?_
            refine T.loop (ι := Nat × Value × Chunk × Array MapEntry × Nat × MapL × Own) (fun ⟨i, vw2, cw2, es2, ck2, m2, Lj2⟩ H' L' ds' => i ≤ (toL xs (lastI p)).length ∧ ds' = [] ∧ L' = cw2 :: [(b13, .map es2 ck2)] :: Lj2 ∧ OwnO (slE (intE .i64)) 23 H' vw2 (p :: (askIn p ((toL xs (lastI p)).take i) (met, q)).2) cw2 ∧ MapIs .i64 es2 m2 ∧ MetIs m2 (askIn p ((toL xs (lastI p)).take i) (met, q)).1 ∧ J (pre ++ [p]) H' Lj2) (fun ⟨i, vw2, cw2, es2, ck2, m2, Lj2⟩ => [(0, yieldv l), (1, .pointer (some ⟨b2, 0, none⟩)), (4, .map (some b13)), (5, .map (some b16)), (8, vw2), (9, .slice Ap p.length kp), (59, .slice At (toL xs (lastI p)).length kt), (60, .int .i64 (toL xs (lastI p)).length), (61, .int .i64 i)]) (fun ⟨i, vw2, cw2, es2, ck2, m2, Lj2⟩ => (toL xs (lastI p)).length - i) ((0, .slice (some ⟨bw, ow, none⟩) (p :: q).length kw, [(bw, .cells csw 23)], es, ck, m, L55)) ?_ ?_ ?_
            · exact ⟨Nat.zero_le _, rfl, rfl, hw.mono s55, hm, hM, hJ2⟩
            · exact ⟨rfl, rfl, rfl, rfl, rfl, rfl, rfl, rfl, rfl, trivial⟩
            · intro ⟨i, vw2, cw2, es2, ck2, m2, Lj2⟩ σ2 H_2 L_2 ds_2 s_2 hI_2
              obtain ⟨hi, rfl, rfl, hw3, hm2, hM2, hJ3⟩ := hI_2
              have hmd := hA.mid i
              obtain ⟨Aw2, kw2, hvw2, hw4, hw5⟩ := hw3.shape
              subst hvw2
              refine T.seq ?_
              refine T.region ?_
              refine R.lss rfl rfl rfl ?_
              refine TL.nil (Post.thnN ?_)
              refine T.seq ?_
              refine T.condD rfl (fun c62 => ?_) (fun c62 => ?_)
              · have hlt2 : i < (toL xs (lastI p)).length := by omega
                obtain ⟨z, hz⟩ := getk hlt2
                refine T.skip (Post.thnN ?_)
                refine T.seq ?_
                refine T.block ?_
                refine T.seq ?_
                refine T.region ?_
                obtain ⟨b63, o63, i63, e63⟩ := (hat.mono s_2).elem (hz)
                refine R.ixp Try.underlying23 Try.sizeOf3 rfl rfl rfl (by omega) i63 ?_
                refine R.ldC Try.isAgg3 rfl rfl (e63).int ?_
                refine R.asE rfl (by conv => lhs; whnf) ?_
                refine TL.nil (Post.thnN ?_)
                refine T.seq ?_
                refine T.region ?_
                refine R.mvE rfl (by conv => lhs; whnf) ?_
                refine R.mvE rfl (by conv => lhs; whnf) ?_
                refine R.lku Try.underlying51 Try.underlying3 Try.zeroValue4 rfl rfl rfl (.tl .hd) hm2 ?_
                refine TL.set 67 (.bool (decide (z ∈ (askIn p ((toL xs (lastI p)).take i) (met, q)).1))) (hM2 z) ?_
                refine R.notD rfl rfl ?_
                refine TL.nil (Post.thnN ?_)
                refine T.condD rfl (fun c68 => ?_) (fun c68 => ?_)
                · refine T.seq ?_
                  refine T.region ?_
                  refine R.mvE rfl (by conv => lhs; whnf) ?_
                  refine R.mvE rfl (by conv => lhs; whnf) ?_
                  refine R.mup Try.underlying51 Try.underlying3 rfl rfl rfl rfl (.tl .hd) hm2 ?_
                  intro es70 ck70 i70
                  refine TL.permL (L' := cw2 :: [(b13, .map es70 ck70)] :: Lj2) permS ?_
                  refine TL.nil (Post.thnN ?_)
                  refine T.region ?_
                  refine R.mvE rfl (by conv => lhs; whnf) ?_
                  refine R.mvE rfl (by conv => lhs; whnf) ?_
                  refine R.mvE rfl (by conv => lhs; whnf) ?_
                  refine R.len Try.underlying23 rfl rfl ?_
                  refine R.mvE rfl (by conv => lhs; whnf) ?_
                  refine R.len Try.underlying23 rfl rfl ?_
                  refine R.sHM Try.underlying23 Try.sizeOf3 rfl rfl rfl rfl (by omega) (by omega) (by omega) ?_
                  refine TL.set 77 (.slice Ap p.length p.length) (slc_take00 (A := Ap) (n := p.length) (c := kp) (sz := 1)) ?_
                  refine R.mvE rfl (by conv => lhs; whnf) ?_
                  refine R.bs rfl (run_buildSlice1 Try.underlying23 Try.sizeOf3 Try.zeroValue3 rfl rfl) ?_
                  intro b79
                  have hp7 : RdS (intE .i64) H_2 (.slice Ap p.length p.length) p := by
                    have h9 := ((hp.mono s55).mono s_2).take (i := p.length) (Nat.le_refl _) hp1
                    rwa [List.take_length] at h9
                  refine R.appN (ys := [z]) Try_ty23 rfl rfl rfl hp7 (Src.lit (vs := [.int .i64 z]) .hd) ⟨[.int .i64 z], [], rfl, rfl, rfl⟩ (by simp) (by simp; omega) (by simp; omega) ?_
                  intro v80 c80 w80
                  refine TL.shut .hd ?_
                  intro H80 s80 q80
                  have g80 := w80.read s80 q80
                  obtain ⟨A80, k80, rfl, m80, n80, g80⟩ := g80.shape
                  refine TL.del .hd ?_
                  refine R.bs rfl (run_buildSlice1 Try.underlying52 Try.sizeOf23 Try.zeroValue23 rfl rfl) ?_
                  intro b81
                  refine R.appO (ys := [p ++ [z]]) Try_ty52 rfl rfl rfl (hw3.mono s80) (.tl .hd) (Src.lit (vs := [.slice A80 (p ++ [z]).length k80]) .hd) ⟨[_], [], rfl, ⟨_, rfl, g80⟩, rfl⟩ (by simp) (by simp; omega) (by simp; omega) ?_
                  intro v82 c82 w82
                  refine TL.del (.tl .hd) ?_
                  refine R.asE rfl (by conv => lhs; whnf) ?_
                  refine TL.nil (Post.blkN ?_)
                  refine id (Post.thnN ?_)
                  refine T.region ?_
                  refine R.addI rfl rfl rfl (by omega) ?_
                  refine R.mvE rfl (by conv => lhs; whnf) ?_
                  refine TL.nil (Post.thnN ?_)
                  -- round's end, way nyyyy
                  exact ⟨(i + 1, v82, c82, es70, ck70, mput m2 z (.bool true), Lj2), s_2.trans s80, ⟨by show i + 1 ≤ _; omega, rfl, rfl, by rw [askIn_snoc hz, askStep, if_neg c68]; exact w82, i70, by rw [askIn_snoc hz, askStep, if_neg c68]; exact hM2.put z, hJ _ _ _ _ s80 hJ3⟩, by show (toL xs (lastI p)).length - (i + 1) < (toL xs (lastI p)).length - i; omega, ⟨rfl, rfl, rfl, rfl, rfl, rfl, rfl, rfl, rfl, trivial⟩⟩
                · refine T.skip (Post.blkN ?_)
                  refine id (Post.thnN ?_)
                  refine T.region ?_
                  refine R.addI rfl rfl rfl (by omega) ?_
                  refine R.mvE rfl (by conv => lhs; whnf) ?_
                  refine TL.nil (Post.thnN ?_)
                  -- round's end, way nyyyn
                  exact ⟨(i + 1, _, cw2, es2, ck2, m2, Lj2), s_2, ⟨by show i + 1 ≤ _; omega, rfl, rfl, by rw [askIn_snoc hz, askStep, if_pos (Decidable.of_not_not c68)]; exact hw3, hm2, by rw [askIn_snoc hz, askStep, if_pos (Decidable.of_not_not c68)]; exact hM2, hJ3⟩, by show (toL xs (lastI p)).length - (i + 1) < (toL xs (lastI p)).length - i; omega, ⟨rfl, rfl, rfl, rfl, rfl, rfl, rfl, rfl, rfl, trivial⟩⟩
              · refine T.exit (Post.thnE (Post.thnE (Post.blkX ?_)))
                refine id (Post.blkN ?_)
                refine id (Post.thnN ?_)
                refine T.region ?_
                refine R.mvE rfl (by conv => lhs; whnf) ?_
                refine R.sL Try.underlying52 Try.sizeOf23 rfl rfl rfl (by omega) (by show (1 : Int) ≤ ((_ + 1 : Nat) : Int); omega) ?_
                refine R.asE rfl (by conv => lhs; whnf) ?_
                refine TL.nil (Post.thnN ?_)
                -- round's end, way nyyn
                have hfull : i = (toL xs (lastI p)).length := by omega
                have hgo : AInv xs a (n - 1) (pre ++ [p]) (askIn p ((toL xs (lastI p)).take i) (met, q)).1 (askIn p ((toL xs (lastI p)).take i) (met, q)).2 := by
                  rw [hfull, List.take_length]; exact hA.go.1
                exact ⟨(n - 1, pre ++ [p], (askIn p ((toL xs (lastI p)).take i) (met, q)).1, (askIn p ((toL xs (lastI p)).take i) (met, q)).2, slcV (.slice Aw2 ((askIn p ((toL xs (lastI p)).take i) (met, q)).2.length + 1) kw2) 1 ((askIn p ((toL xs (lastI p)).take i) (met, q)).2.length + 1) kw2 1, cw2, es2, ck2, m2, Lj2), s_1.trans (s55.trans s_2), ⟨rfl, rfl, hgo, hw3.slide, hm2, hM2, hJ3⟩, by show n - 1 < n; have := hA.go.2; omega, ⟨rfl, rfl, rfl, rfl, rfl, trivial⟩⟩
          · refine R.not rfl rfl ?_
            refine TL.nil (Post.thnN ?_)
            refine T.condY rfl ?_
            refine T.ret (Post.thnR (Post.blkR (Post.thnR (Post.thnR (Post.blkR ?_)))))
            -- way nyn
            exact fin0L L55 rfl (List.sublist_append_right _ _) (.inr ⟨_, p, hA.hand, hJ2⟩)
        · have hq0 : q = [] := by
            cases q with
            | nil => rfl
            | cons p q => exact absurd (show (0 : Int) < ((q.length + 1 : Nat) : Int) by omega) c40
          subst hq0
          have hst := hA.stop
          refine T.exit (Post.thnE (Post.thnE (Post.blkX ?_)))
          refine id ?_
          -- way nn
          exact fin0N Lj rfl ((List.sublist_cons_self _ _).trans (List.sublist_cons_self _ _)) (.inl (by rw [hst]; exact hJ1))

end Go.SX
