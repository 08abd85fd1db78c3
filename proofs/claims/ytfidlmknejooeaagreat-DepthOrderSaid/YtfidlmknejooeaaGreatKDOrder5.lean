/- 'DepthOrder' answers true, whatever it is handed, and what it is handed reads behind it as it did. -/
import Derived.RangeFuncNested
import Derived.RangeFuncBound
import Derived.RangeFuncCalls
import Derived.RangeFuncLeaves
import Derived.Shelf.Abstract
import Derived.Laws.AppendOwn
import Derived.Laws.OwnMore
import Derived.KernelRfl
import Derived.IntWalk
import Derived.Laws.Append
import Derived.WideLaws
import Derived.Laws.Slices
import Derived.Laws.MakeOwn
import Derived.OrdersIn
import Derived.Laws.Cover3
import Derived.Test.YtfidlmknejooeaaGreatProg
import Derived.Sort.OwnSortedInts
import Derived.Shelf.Sort.Plain
import Derived.Laws.StructEq
import Derived.Maps.RangeRun
import Derived.Shelf.SlSortCmp.NoneTotal
import Derived.Deep.Draws
import Derived.Shelf.Slices.In.SortNone
import Derived.ProofKit
import Derived.ChangeSlices
import Derived.Carry
import Derived.Deep.Slices
import Derived.OpenShut
import Derived.Test.YtfidlmknejooeaaGreatRows
import Derived.Test.YtfidlmknejooeaaGreatKDOrder4
set_option linter.unusedVariables false
set_option linter.unusedSimpArgs false
namespace Go.SX
open Go Go.Proofs

set_option maxHeartbeats 1600000 in
theorem outs_c (H : Heap) (v : Value) (xs : List Lk) (hr : RdS pairE H v xs) (hcb : chainB xs = true) (hl : xs.length ≤ 1000) : Fp Tryz.prog (fnv 62) [v] H (fun v' H' => ∃ b es ck m, v' = .map (some b) ∧ H' b = some (.map es ck) ∧ MapIs .i64 es m ∧ ∀ j, RdS (intE .i64) H' ((mget m j).getD (.slice none 0 0)) (toL xs j)) := by
  refine Fc.of_body (N := 26) Tryz.func62 rfl (by kernel_rfl) rfl rfl ?_
  intro w0
  obtain ⟨A, c, rfl, hc1, hc2, hr⟩ := hr.shape
  refine T.seq ?_
  refine T.region ?_
  refine R.asE rfl (by conv => lhs; whnf) ?_
  refine TL.nil (Post.thnN ?_)
  refine T.seq ?_
  refine T.region ?_
  refine R.mkm rfl ?_
  intro b6
  refine R.asE rfl (by conv => lhs; whnf) ?_
  refine TL.nil (Post.thnN ?_)
  refine T.seq ?_
  refine T.seq ?_
  refine T.region ?_
  refine R.mvE rfl (by conv => lhs; whnf) ?_
  refine R.len Tryz.underlying22 rfl rfl ?_
  refine R.mvE rfl (by conv => lhs; whnf) ?_
  refine TL.nil (Post.thnN ?_)
  refine T.block ?_
  refine T.loop (ι := Nat × MapL × Own × Array MapEntry × Nat) (fun ⟨k, m, rows, es, ck⟩ H' L' ds' => k ≤ xs.length ∧ ds' = [] ∧ L' = [(b6, .map es ck)] :: rows ∧ MapIs .i64 es m ∧ F2 (intE .i64) 3 H' (tosN xs k) m rows ∧ (m.map Prod.fst).Nodup ∧ (∀ j, j ∉ m.map Prod.fst → tosN xs k j = [])) (fun ⟨k, m, rows, es, ck⟩ => [(3, .map (some b6)), (7, .slice A xs.length c), (8, .int .i64 xs.length), (9, .int .i64 k)]) (fun ⟨k, m, rows, es, ck⟩ => xs.length - k) ((0, [], [], #[], 0)) ?_ ?_ ?_
  · exact ⟨Nat.zero_le _, rfl, rfl, mapIs_nil _, trivial, List.nodup_nil, fun j _ => tosN_zero xs j⟩
  · exact ⟨rfl, rfl, rfl, rfl, trivial⟩
  · intro ⟨k, m, rows, es, ck⟩ σ0 H_0 L_0 ds_0 s_0 hI_0
    obtain ⟨hk, rfl, rfl, hm, hf, hnd, hno⟩ := hI_0
    refine T.seq ?_
    refine T.region ?_
    refine R.lss rfl rfl rfl ?_
    refine TL.nil (Post.thnN ?_)
    refine T.seq ?_
    refine T.condD rfl (fun c10 => ?_) (fun c10 => ?_)
    · have hlt : k < xs.length := by omega
      obtain ⟨y, hy⟩ := getk hlt
      refine T.skip (Post.thnN ?_)
      refine T.seq ?_
      refine T.block ?_
      refine T.seq ?_
      refine T.region ?_
      obtain ⟨b11, o11, i11, e11⟩ := (hr.mono s_0).elem (hy)
      refine R.ixp Tryz.underlying22 Tryz.sizeOf45 rfl rfl rfl (by omega) i11 ?_
      refine R.ldP Tryz.isAgg45 Tryz.sizeOf45 rfl rfl (e11) ?_
      refine R.alloc Tryz.zeroValue45 rfl ?_
      intro b5
      refine R.stA (old := [.int .i64 0, .int .i64 0]) Tryz.sizeOf45 rfl rfl rfl rfl rfl (by intro v hv; simp at hv; rcases hv with rfl | rfl <;> rfl) .hd ?_
      refine TL.nil (Post.thnN ?_)
      refine T.shut .hd ?_
      intro H5 s5 q5
      have h5 : H5 b5 = some (.cells #[.int .i64 y.1, .int .i64 y.2] 45) := shut1 q5
      obtain ⟨cr, RR, hpr, hoc, hput⟩ := F2.take y.1 (hf.mono s5) hnd (hno y.1)
      refine T.permL (L' := cr :: [(b6, .map es ck)] :: RR) (perm_take1 hpr) ?_
      have hbl := tosN_len xs k y.1
      refine T.draw Tryz_mixed (by kernel_rfl) ?_
      refine Plan.v 0 [1, 2, 3, 4, 5, 6, 7, 8, 9, 10, 11] (by kernel_rfl) (by kernel_rfl) (by kernel_rfl) (by kernel_rfl) rfl (fun _ _ h_ => R.mvE rfl (by conv => lhs; whnf) (TL.nil h_)) ?_
      refine Plan.v 1 [2, 3, 4, 5, 6, 7, 8, 9, 10, 11] (by kernel_rfl) (by kernel_rfl) (by kernel_rfl) (by kernel_rfl) rfl (fun _ _ h_ => R.fldA Tryz.underlying45 rfl Tryz.sizeOf3 (by decide) rfl rfl (TL.nil h_)) ?_
      refine Plan.v 2 [3, 4, 5, 6, 7, 8, 9, 10, 11] (by kernel_rfl) (by kernel_rfl) (by kernel_rfl) (by kernel_rfl) rfl (fun _ _ h_ => R.ldH Tryz.isAgg3 rfl rfl (h5) rfl (TL.nil h_)) ?_
      refine Plan.v 3 [4, 5, 6, 7, 8, 9, 10, 11] (by kernel_rfl) (by kernel_rfl) (by kernel_rfl) (by kernel_rfl) rfl (fun _ _ h_ => R.mvE rfl (by conv => lhs; whnf) (TL.nil h_)) ?_
      refine Plan.v 4 [5, 6, 7, 8, 9, 10, 11] (by kernel_rfl) (by kernel_rfl) (by kernel_rfl) (by kernel_rfl) rfl (fun _ _ h_ => R.fldA Tryz.underlying45 rfl Tryz.sizeOf3 (by decide) rfl rfl (TL.nil h_)) ?_
      refine Plan.v 5 [6, 7, 8, 9, 10, 11] (by kernel_rfl) (by kernel_rfl) (by kernel_rfl) (by kernel_rfl) rfl (fun _ _ h_ => R.ldH Tryz.isAgg3 rfl rfl (h5) rfl (TL.nil h_)) ?_
      refine Plan.v 7 [6, 8, 9, 10, 11] (by kernel_rfl) (by kernel_rfl) (by kernel_rfl) (by kernel_rfl) rfl (fun _ _ h_ => R.fldA Tryz.underlying45 rfl Tryz.sizeOf3 (by decide) rfl rfl (TL.nil h_)) ?_
      refine Plan.v 8 [6, 9, 10, 11] (by kernel_rfl) (by kernel_rfl) (by kernel_rfl) (by kernel_rfl) rfl (fun _ _ h_ => R.ldH Tryz.isAgg3 rfl rfl (h5) rfl (TL.nil h_)) ?_
      refine Plan.s2 6 9 [9, 10, 11] [6, 10, 11] (by kernel_rfl) (by kernel_rfl) (by kernel_rfl) rfl rfl ?_ ?_
      · refine R.lku Tryz.underlying90 Tryz.underlying3 Tryz.zeroValue24 rfl rfl rfl (by first | exact .hd | exact .tl .hd | exact .tl (.tl .hd) | exact .tl (.tl (.tl .hd)) | exact .tl (.tl (.tl (.tl .hd))) | exact .tl (.tl (.tl (.tl (.tl .hd)))) | exact .tl (.tl (.tl (.tl (.tl (.tl .hd))))) | exact .tl (.tl (.tl (.tl (.tl (.tl (.tl .hd)))))) | exact .tl (.tl (.tl (.tl (.tl (.tl (.tl (.tl .hd))))))) | exact .tl (.tl (.tl (.tl (.tl (.tl (.tl (.tl (.tl .hd))))))))) hm ?_
        refine TL.nil (Plan.e1 (HLe.refl _) ?_)
        refine Plan.s1 9 [10, 11] (by kernel_rfl) (by kernel_rfl) rfl ?_
        refine R.bs rfl (run_buildSlice1 Tryz.underlying24 Tryz.sizeOf3 Tryz.zeroValue3 rfl rfl) ?_
        intro b22
        refine TL.nil (Plan.e1 (HLe.refl _) ?_)
        refine Plan.s1 10 [11] (by kernel_rfl) (by kernel_rfl) rfl ?_
        refine R.app (ys := [y.2]) Tryz_ty24 rfl rfl rfl hoc (.tl .hd) (Src.lit (vs := [.int .i64 y.2]) (by first | exact .hd | exact .tl .hd | exact .tl (.tl .hd) | exact .tl (.tl (.tl .hd)) | exact .tl (.tl (.tl (.tl .hd))) | exact .tl (.tl (.tl (.tl (.tl .hd)))) | exact .tl (.tl (.tl (.tl (.tl (.tl .hd))))) | exact .tl (.tl (.tl (.tl (.tl (.tl (.tl .hd)))))) | exact .tl (.tl (.tl (.tl (.tl (.tl (.tl (.tl .hd))))))) | exact .tl (.tl (.tl (.tl (.tl (.tl (.tl (.tl (.tl .hd)))))))))) ⟨[.int .i64 y.2], [], rfl, rfl, rfl⟩ (by first | omega | (simp; omega)) (by first | omega | (simp; omega)) ?_
        intro v23 c23 w23
        refine TL.del (.tl .hd) ?_
        refine TL.nil (Plan.e1 (HLe.refl _) ?_)
        refine Plan.s1 11 [] (by kernel_rfl) (by kernel_rfl) rfl ?_
        refine R.mup Tryz.underlying90 Tryz.underlying3 rfl rfl rfl rfl (.tl .hd) hm ?_
        intro es24 ck24 i24
        refine TL.nil (Plan.e0 (HLe.refl _) ?_)
        refine Plan.done (Post.blkN ?_)
        refine id (Post.thnN ?_)
        obtain ⟨rowsX, hfX, hpX⟩ := hput H5 v23 c23 _ (HLe.refl _) w23
        refine T.permL (L' := [(b6, .map es24 ck24)] :: rowsX) (perm_put1 hpX) ?_
        refine T.region ?_
        refine R.addI rfl rfl rfl (by omega) ?_
        refine R.mvE rfl (by conv => lhs; whnf) ?_
        refine TL.nil (Post.thnN ?_)
        -- round's end, way y0
        refine ⟨(k + 1, mput m y.1 v23, rowsX, es24, ck24), s_0.trans s5, ⟨by show k + 1 ≤ _; omega, rfl, rfl, i24, by rw [← tosN_snoc hy]; exact hfX, mput_nodup _ _ _ hnd, fun j hj => ?_⟩, by show xs.length - (k + 1) < xs.length - k; omega, ⟨rfl, rfl, rfl, rfl, trivial⟩⟩
        have h9 : j ≠ y.1 ∧ j ∉ m.map Prod.fst := ⟨fun e => hj ((mput_keys _ _ _ _).2 (.inl e)), fun e => hj ((mput_keys _ _ _ _).2 (.inr e))⟩
        rw [← congrFun (tosN_snoc hy) j, if_neg h9.1]
        exact hno j h9.2
      · refine R.bs rfl (run_buildSlice1 Tryz.underlying24 Tryz.sizeOf3 Tryz.zeroValue3 rfl rfl) ?_
        intro b22
        refine TL.nil (Plan.e1 (HLe.refl _) ?_)
        refine Plan.s1 6 [10, 11] (by kernel_rfl) (by kernel_rfl) rfl ?_
        refine R.lku Tryz.underlying90 Tryz.underlying3 Tryz.zeroValue24 rfl rfl rfl (by first | exact .hd | exact .tl .hd | exact .tl (.tl .hd) | exact .tl (.tl (.tl .hd)) | exact .tl (.tl (.tl (.tl .hd))) | exact .tl (.tl (.tl (.tl (.tl .hd)))) | exact .tl (.tl (.tl (.tl (.tl (.tl .hd))))) | exact .tl (.tl (.tl (.tl (.tl (.tl (.tl .hd)))))) | exact .tl (.tl (.tl (.tl (.tl (.tl (.tl (.tl .hd))))))) | exact .tl (.tl (.tl (.tl (.tl (.tl (.tl (.tl (.tl .hd))))))))) hm ?_
        refine TL.nil (Plan.e1 (HLe.refl _) ?_)
        refine Plan.s1 10 [11] (by kernel_rfl) (by kernel_rfl) rfl ?_
        refine R.app (ys := [y.2]) Tryz_ty24 rfl rfl rfl hoc (.tl .hd) (Src.lit (vs := [.int .i64 y.2]) (by first | exact .hd | exact .tl .hd | exact .tl (.tl .hd) | exact .tl (.tl (.tl .hd)) | exact .tl (.tl (.tl (.tl .hd))) | exact .tl (.tl (.tl (.tl (.tl .hd)))) | exact .tl (.tl (.tl (.tl (.tl (.tl .hd))))) | exact .tl (.tl (.tl (.tl (.tl (.tl (.tl .hd)))))) | exact .tl (.tl (.tl (.tl (.tl (.tl (.tl (.tl .hd))))))) | exact .tl (.tl (.tl (.tl (.tl (.tl (.tl (.tl (.tl .hd)))))))))) ⟨[.int .i64 y.2], [], rfl, rfl, rfl⟩ (by first | omega | (simp; omega)) (by first | omega | (simp; omega)) ?_
        intro v23 c23 w23
        refine TL.del (.tl .hd) ?_
        refine TL.nil (Plan.e1 (HLe.refl _) ?_)
        refine Plan.s1 11 [] (by kernel_rfl) (by kernel_rfl) rfl ?_
        refine R.mup Tryz.underlying90 Tryz.underlying3 rfl rfl rfl rfl (.tl .hd) hm ?_
        intro es24 ck24 i24
        refine TL.nil (Plan.e0 (HLe.refl _) ?_)
        refine Plan.done (Post.blkN ?_)
        refine id (Post.thnN ?_)
        obtain ⟨rowsX, hfX, hpX⟩ := hput H5 v23 c23 _ (HLe.refl _) w23
        refine T.permL (L' := [(b6, .map es24 ck24)] :: rowsX) (perm_put1 hpX) ?_
        refine T.region ?_
        refine R.addI rfl rfl rfl (by omega) ?_
        refine R.mvE rfl (by conv => lhs; whnf) ?_
        refine TL.nil (Post.thnN ?_)
        -- round's end, way y1
        refine ⟨(k + 1, mput m y.1 v23, rowsX, es24, ck24), s_0.trans s5, ⟨by show k + 1 ≤ _; omega, rfl, rfl, i24, by rw [← tosN_snoc hy]; exact hfX, mput_nodup _ _ _ hnd, fun j hj => ?_⟩, by show xs.length - (k + 1) < xs.length - k; omega, ⟨rfl, rfl, rfl, rfl, trivial⟩⟩
        have h9 : j ≠ y.1 ∧ j ∉ m.map Prod.fst := ⟨fun e => hj ((mput_keys _ _ _ _).2 (.inl e)), fun e => hj ((mput_keys _ _ _ _).2 (.inr e))⟩
        rw [← congrFun (tosN_snoc hy) j, if_neg h9.1]
        exact hno j h9.2
    · refine T.exit (Post.thnE (Post.thnE (Post.blkX ?_)))
      refine id (Post.thnN ?_)
      refine T.seq ?_
      have hkx : k = xs.length := by omega
      refine T.permL (L' := [List.flatten ([(b6, .map es ck)] :: rows)]) perm_one ?_
      refine T.shut .hd ?_
      intro HF sF qF
      have hmF : HF b6 = some (.map es ck) := qF (b6, .map es ck) (by simp)
      have hAt : ∀ j, RdS (intE .i64) HF ((mget m j).getD (.slice none 0 0)) (toL xs j) := fun j => by
        rw [← tosN_all hcb j, ← hkx]
        exact hf.read j sF (fun q hq => qF q (by simp only [List.flatten_cons]; exact List.mem_append_right _ hq)) (hno j)
      refine T.region ?_
      refine R.mvE rfl (by conv => lhs; whnf) ?_
      refine R.asE rfl (by conv => lhs; whnf) ?_
      refine TL.nil (Post.thnN ?_)
      refine T.ret ?_
      -- way n
      exact fin1 rfl rfl ⟨rfl, b6, es, ck, m, rfl, hmF, hm, hAt⟩


set_option maxHeartbeats 1600000 in
theorem compactI_c (H : Heap) (v : Value) (xs : List Int) (ch : Chunk) (ho : OwnS (intE .i64) 3 H v xs ch) : Fc Tryz.prog (fnv 133) [v] H [ch] (fun v' H' L' => ∃ c', L' = [c'] ∧ OwnS (intE .i64) 3 H' v' (compactI xs) c') := by
  refine Fc.of_body (N := 61) Tryz.func133 rfl (by kernel_rfl) rfl rfl ?_
  intro w0
  obtain ⟨A, cap, rfl, hc1, hc2⟩ := ho.shape
  refine T.seq ?_
  refine T.region ?_
  refine R.asE rfl (by conv => lhs; whnf) ?_
  refine TL.nil (Post.thnN ?_)
  refine T.seq ?_
  refine T.seq ?_
  refine T.region ?_
  refine R.mvE rfl (by conv => lhs; whnf) ?_
  refine R.len Tryz.underlying24 rfl rfl ?_
  refine R.lss rfl rfl rfl ?_
  refine TL.nil (Post.thnN ?_)
  refine T.condD rfl (fun c8 => ?_) (fun c8 => ?_)
  · refine T.seq ?_
    refine T.region ?_
    refine R.mvE rfl (by conv => lhs; whnf) ?_
    refine R.asE rfl (by conv => lhs; whnf) ?_
    refine TL.nil (Post.thnN ?_)
    refine T.ret (Post.thnR ?_)
    -- way y
    exact fin1L [ch] rfl rfl (List.Sublist.refl _) ⟨_, rfl, by rw [compactI_short (by omega)]; exact ho⟩
  · refine T.skip (Post.thnN ?_)
    refine T.seq ?_
    refine T.seq ?_
    refine T.region ?_
    refine R.asE rfl (by conv => lhs; whnf) ?_
    refine TL.nil (Post.thnN ?_)
    refine T.block ?_
    refine T.loop (ι := Nat) (fun k H' L' ds' => (1 ≤ k ∧ k ≤ xs.length) ∧ L' = [ch] ∧ ds' = [] ∧ compactI (xs.take k) = xs.take k) (fun k => [(0, .slice A xs.length cap), (3, .int .i64 k)]) (fun k => xs.length - k) (1) ?_ ?_ ?_
    · exact ⟨⟨by omega, by omega⟩, rfl, rfl, compactI_one xs⟩
    · exact ⟨rfl, rfl, trivial⟩
    · intro k σ0 H_0 L_0 ds_0 s_0 hI_0
      obtain ⟨hk, rfl, rfl, hco⟩ := hI_0
      have ho := ho.mono s_0
      refine T.seq ?_
      refine T.seq ?_
      refine T.region ?_
      refine R.mvE rfl (by conv => lhs; whnf) ?_
      refine R.mvE rfl (by conv => lhs; whnf) ?_
      refine R.len Tryz.underlying24 rfl rfl ?_
      refine R.lss rfl rfl rfl ?_
      refine TL.nil (Post.thnN ?_)
      refine T.condD rfl (fun c13 => ?_) (fun c13 => ?_)
      · have hlt : k < xs.length := by omega
        obtain ⟨y, hy⟩ := getk hlt
        obtain ⟨z, hz⟩ := getk (xs := xs) (k := k - 1) (by omega)
        have hy1 : xs[k - 1 + 1]? = some y := by rw [show k - 1 + 1 = k by omega]; exact hy
        have hk2 : k + 1 = (k - 1) + 2 := by omega
        obtain ⟨b1, k1, cs1, l1, hce1, hve1, ix1, hR1, hcs1⟩ := ho.elem hy
        obtain rfl : l1 = [.int .i64 y] := hR1
        obtain ⟨b2, k2, cs2, l2, hce2, hve2, ix2, hR2, hcs2⟩ := ho.elem (show xs[((k : Int) - 1).toNat]? = some z by rw [show ((k : Int) - 1).toNat = k - 1 by omega]; exact hz)
        obtain rfl : l2 = [.int .i64 z] := hR2
        subst hce1
        obtain ⟨rfl, rfl⟩ : b1 = b2 ∧ cs1 = cs2 := by simpa using hce2
        refine T.skip (Post.thnN ?_)
        refine T.seq ?_
        refine T.block ?_
        refine T.seq ?_
        refine T.draw Tryz_mixed (by kernel_rfl) ?_
        refine Plan.v 0 [1, 2, 3, 4, 5, 6, 7, 8, 9] (by kernel_rfl) (by kernel_rfl) (by kernel_rfl) (by kernel_rfl) rfl (fun _ _ h_ => R.mvE rfl (by conv => lhs; whnf) (TL.nil h_)) ?_
        refine Plan.v 1 [2, 3, 4, 5, 6, 7, 8, 9] (by kernel_rfl) (by kernel_rfl) (by kernel_rfl) (by kernel_rfl) rfl (fun _ _ h_ => R.mvE rfl (by conv => lhs; whnf) (TL.nil h_)) ?_
        refine Plan.v 4 [2, 3, 5, 6, 7, 8, 9] (by kernel_rfl) (by kernel_rfl) (by kernel_rfl) (by kernel_rfl) rfl (fun _ _ h_ => R.mvE rfl (by conv => lhs; whnf) (TL.nil h_)) ?_
        refine Plan.v 5 [2, 3, 6, 7, 8, 9] (by kernel_rfl) (by kernel_rfl) (by kernel_rfl) (by kernel_rfl) rfl (fun _ _ h_ => R.mvE rfl (by conv => lhs; whnf) (TL.nil h_)) ?_
        refine Plan.v 6 [2, 3, 7, 8, 9] (by kernel_rfl) (by kernel_rfl) (by kernel_rfl) (by kernel_rfl) rfl (fun _ _ h_ => R.subI rfl rfl rfl (by omega) (TL.nil h_)) ?_
        refine Plan.s2 2 7 [3, 7, 8, 9] [2, 3, 8, 9] (by kernel_rfl) (by kernel_rfl) (by kernel_rfl) rfl rfl ?_ ?_
        · refine R.ixp Tryz.underlying24 Tryz.sizeOf3 rfl rfl rfl (by omega) ix1 ?_
          refine TL.nil (Plan.e1 (HLe.refl _) ?_)
          refine Plan.s2 3 7 [7, 8, 9] [3, 8, 9] (by kernel_rfl) (by kernel_rfl) (by kernel_rfl) rfl rfl ?_ ?_
          · refine R.ld Tryz.isAgg3 rfl rfl .hd (hcs1 0 _ rfl) ?_
            refine TL.nil (Plan.e1 (HLe.refl _) ?_)
            refine Plan.s1 7 [8, 9] (by kernel_rfl) (by kernel_rfl) rfl ?_
            refine R.ixp Tryz.underlying24 Tryz.sizeOf3 rfl rfl rfl (by omega) ix2 ?_
            refine TL.nil (Plan.e1 (HLe.refl _) ?_)
            refine Plan.s1 8 [9] (by kernel_rfl) (by kernel_rfl) rfl ?_
            refine R.ld Tryz.isAgg3 rfl rfl .hd (hcs2 0 _ rfl) ?_
            refine TL.nil (Plan.e1 (HLe.refl _) ?_)
            refine Plan.v 9 [] (by kernel_rfl) (by kernel_rfl) (by kernel_rfl) (by kernel_rfl) rfl (fun _ _ h_ => R.eql rfl rfl rfl (TL.nil h_)) ?_
            refine Plan.done (Post.thnN ?_)
            refine T.condD rfl (fun c25 => ?_) (fun c25 => ?_)
            · refine T.seq ?_
              refine T.region ?_
              refine R.mvE rfl (by conv => lhs; whnf) ?_
              refine R.mvE rfl (by conv => lhs; whnf) ?_
              refine R.sL Tryz.underlying24 Tryz.sizeOf3 rfl rfl rfl (by omega) (by omega) ?_
              refine R.asE rfl (by conv => lhs; whnf) ?_
              refine TL.nil (Post.thnN ?_)
              refine T.seq ?_
              refine T.seq ?_
              refine T.region ?_
              refine R.asE rfl (by conv => lhs; whnf) ?_
              refine TL.nil (Post.thnN ?_)
              refine T.block ?_
              refine T.loop (ι := Nat × Nat × List Int × Chunk) (fun ⟨i, j, cur, ch2⟩ H' L' ds' => (1 ≤ j ∧ k + j ≤ xs.length ∧ i + 1 ≤ k + j ∧ cur.length = xs.length) ∧ L' = [ch2] ∧ ds' = [] ∧ OwnS (intE .i64) 3 H' (.slice A cur.length cap) cur ch2 ∧ cur.take i = compactI (xs.take (k + j)) ∧ (∀ q, i ≤ q → cur[q]? = xs[q]?)) (fun ⟨i, j, cur, ch2⟩ => [(0, .slice A xs.length cap), (3, .int .i64 i), (4, slcV (.slice A xs.length cap) k xs.length cap 1), (5, .int .i64 j)]) (fun ⟨i, j, cur, ch2⟩ => xs.length - (k + j)) ((k, 1, xs, [(b1, .cells cs1 3)])) ?_ ?_ ?_
              · exact ⟨⟨by omega, by omega, by omega, rfl⟩, rfl, rfl, ho, by rw [hk2, compactI_take hz hy1, if_pos c25, show k - 1 + 1 = k by omega, hco], fun q hq => rfl⟩
              · exact ⟨rfl, rfl, rfl, rfl, trivial⟩
              · intro ⟨i, j, cur, ch2⟩ σ1 H_1 L_1 ds_1 s_1 hI_1
                obtain ⟨⟨hj1, hj2, hij, hcl⟩, rfl, rfl, hw, htk, hrest⟩ := hI_1
                refine T.seq ?_
                refine T.seq ?_
                refine T.region ?_
                refine R.mvE rfl (by conv => lhs; whnf) ?_
                refine R.mvE rfl (by conv => lhs; whnf) ?_
                refine R.len Tryz.underlying24 rfl rfl ?_
                refine R.lss rfl rfl rfl ?_
                refine TL.nil (Post.thnN ?_)
                refine T.condD rfl (fun c32 => ?_) (fun c32 => ?_)
                · have hlt2 : k + j < xs.length := by omega
                  obtain ⟨y2, hy2⟩ := getk hlt2
                  obtain ⟨z2, hz2⟩ := getk (xs := xs) (k := k + j - 1) (by omega)
                  have hkj : k + (j + 1) = (k + j - 1) + 2 := by omega
                  have hkj1 : k + j - 1 + 1 = k + j := by omega
                  have hy2' : xs[k + j - 1 + 1]? = some y2 := by rw [hkj1]; exact hy2
                  have hcy : cur[k + j]? = some y2 := by rw [hrest _ (by omega)]; exact hy2
                  have hcz : cur[k + ((j : Int) - 1).toNat]? = some z2 := by rw [show k + ((j : Int) - 1).toNat = k + j - 1 by omega, hrest _ (by omega)]; exact hz2
                  obtain ⟨yi, hci⟩ := getk (xs := cur) (k := i) (by omega)
                  obtain ⟨b3, k3, cs3, l3, hce3, hve3, ix3, hR3, hcs3⟩ := hw.elem hcy
                  obtain rfl : l3 = [.int .i64 y2] := hR3
                  obtain ⟨b4, k4, cs4, l4, hce4, hve4, ix4, hR4, hcs4⟩ := hw.elem hcz
                  obtain rfl : l4 = [.int .i64 z2] := hR4
                  obtain ⟨b5, k5, cs5, l5, hce5, hve5, ix5, hR5, hcs5⟩ := hw.elem hci
                  subst hce3
                  obtain ⟨rfl, rfl⟩ : b3 = b4 ∧ cs3 = cs4 := by simpa using hce4
                  obtain ⟨rfl, rfl⟩ : b3 = b5 ∧ cs3 = cs5 := by simpa using hce5
                  obtain rfl : cap = k3 := by injection hve3
                  rw [hcl] at hve3
                  have ix3' := ix_off (sz := 1) (k := k) (i := j) hve3 (by omega) (by omega) (by omega)
                  have ix4' := ix_off (sz := 1) (k := k) (i := ((j : Int) - 1).toNat) hve3 (by omega) (by omega) (by omega)
                  refine T.skip (Post.thnN ?_)
                  refine T.seq ?_
                  refine T.block ?_
                  refine T.seq ?_
                  refine T.draw Tryz_mixed (by kernel_rfl) ?_
                  refine Plan.v 0 [1, 2, 3, 4, 5, 6, 7, 8, 9] (by kernel_rfl) (by kernel_rfl) (by kernel_rfl) (by kernel_rfl) rfl (fun _ _ h_ => R.mvE rfl (by conv => lhs; whnf) (TL.nil h_)) ?_
                  refine Plan.v 1 [2, 3, 4, 5, 6, 7, 8, 9] (by kernel_rfl) (by kernel_rfl) (by kernel_rfl) (by kernel_rfl) rfl (fun _ _ h_ => R.mvE rfl (by conv => lhs; whnf) (TL.nil h_)) ?_
                  refine Plan.v 4 [2, 3, 5, 6, 7, 8, 9] (by kernel_rfl) (by kernel_rfl) (by kernel_rfl) (by kernel_rfl) rfl (fun _ _ h_ => R.mvE rfl (by conv => lhs; whnf) (TL.nil h_)) ?_
                  refine Plan.v 5 [2, 3, 6, 7, 8, 9] (by kernel_rfl) (by kernel_rfl) (by kernel_rfl) (by kernel_rfl) rfl (fun _ _ h_ => R.mvE rfl (by conv => lhs; whnf) (TL.nil h_)) ?_
                  refine Plan.v 6 [2, 3, 7, 8, 9] (by kernel_rfl) (by kernel_rfl) (by kernel_rfl) (by kernel_rfl) rfl (fun _ _ h_ => R.subI rfl rfl rfl (by omega) (TL.nil h_)) ?_
                  refine Plan.s2 2 7 [3, 7, 8, 9] [2, 3, 8, 9] (by kernel_rfl) (by kernel_rfl) (by kernel_rfl) rfl rfl ?_ ?_
                  · refine R.ixp Tryz.underlying24 Tryz.sizeOf3 rfl rfl rfl (by omega) ix3' ?_
                    refine TL.nil (Plan.e1 (HLe.refl _) ?_)
                    refine Plan.s2 3 7 [7, 8, 9] [3, 8, 9] (by kernel_rfl) (by kernel_rfl) (by kernel_rfl) rfl rfl ?_ ?_
                    · refine R.ld Tryz.isAgg3 rfl rfl .hd (hcs3 0 _ rfl) ?_
                      refine TL.nil (Plan.e1 (HLe.refl _) ?_)
                      refine Plan.s1 7 [8, 9] (by kernel_rfl) (by kernel_rfl) rfl ?_
                      refine R.ixp Tryz.underlying24 Tryz.sizeOf3 rfl rfl rfl (by omega) ix4' ?_
                      refine TL.nil (Plan.e1 (HLe.refl _) ?_)
                      refine Plan.s1 8 [9] (by kernel_rfl) (by kernel_rfl) rfl ?_
                      refine R.ld Tryz.isAgg3 rfl rfl .hd (hcs4 0 _ rfl) ?_
                      refine TL.nil (Plan.e1 (HLe.refl _) ?_)
                      refine Plan.v 9 [] (by kernel_rfl) (by kernel_rfl) (by kernel_rfl) (by kernel_rfl) rfl (fun _ _ h_ => R.neq rfl rfl rfl (TL.nil h_)) ?_
                      refine Plan.done (Post.thnN ?_)
                      refine T.condD rfl (fun c44 => ?_) (fun c44 => ?_)
                      · refine T.seq ?_
                        refine T.region ?_
                        refine R.mvE rfl (by conv => lhs; whnf) ?_
                        refine R.mvE rfl (by conv => lhs; whnf) ?_
                        refine R.mvE rfl (by conv => lhs; whnf) ?_
                        refine R.mvE rfl (by conv => lhs; whnf) ?_
                        refine R.ixp Tryz.underlying24 Tryz.sizeOf3 rfl rfl rfl (by omega) ix3' ?_
                        refine R.ld Tryz.isAgg3 rfl rfl .hd (hcs3 0 _ rfl) ?_
                        refine R.ixp Tryz.underlying24 Tryz.sizeOf3 rfl rfl rfl (by omega) (by rw [← hcl]; exact ix5) ?_
                        refine R.stE (y := y2) Tryz.sizeOf3 rfl rfl hw .hd ix5 rfl rfl rfl ?_
                        intro c51 w51
                        refine TL.nil (Post.thnN ?_)
                        refine T.region ?_
                        refine R.mvE rfl (by conv => lhs; whnf) ?_
                        refine R.addI rfl rfl rfl (by omega) ?_
                        refine R.asE rfl (by conv => lhs; whnf) ?_
                        refine TL.nil (Post.blkN ?_)
                        refine id (Post.thnN ?_)
                        refine T.region ?_
                        refine R.mvE rfl (by conv => lhs; whnf) ?_
                        refine R.addI rfl rfl rfl (by omega) ?_
                        refine R.asE rfl (by conv => lhs; whnf) ?_
                        refine TL.nil (Post.thnN ?_)
                        -- round's end, way ny00yy00y
                        exact ⟨(i + 1, j + 1, cur.set i y2, c51), s_1, ⟨⟨by omega, by show k + (j + 1) ≤ _; omega, by show i + 1 + 1 ≤ k + (j + 1); omega, by rw [List.length_set]; exact hcl⟩, rfl, rfl, by rw [List.length_set]; exact w51, by rw [set_take (by omega), htk, hkj, compactI_take hz2 hy2', if_neg c44, hkj1], fun q hq => by rw [List.getElem?_set_ne (by omega)]; exact hrest q (by omega)⟩, by show xs.length - (k + (j + 1)) < xs.length - (k + j); omega, ⟨rfl, rfl, rfl, rfl, trivial⟩⟩
                      · refine T.skip (Post.blkN ?_)
                        refine id (Post.thnN ?_)
                        refine T.region ?_
                        refine R.mvE rfl (by conv => lhs; whnf) ?_
                        refine R.addI rfl rfl rfl (by omega) ?_
                        refine R.asE rfl (by conv => lhs; whnf) ?_
                        refine TL.nil (Post.thnN ?_)
                        -- round's end, way ny00yy00n
                        exact ⟨(i, j + 1, cur, [(b3, .cells cs3 3)]), s_1, ⟨⟨by omega, by show k + (j + 1) ≤ _; omega, by show i + 1 ≤ k + (j + 1); omega, hcl⟩, rfl, rfl, hw, by rw [htk, hkj, compactI_take hz2 hy2', if_pos (Decidable.of_not_not c44), hkj1], hrest⟩, by show xs.length - (k + (j + 1)) < xs.length - (k + j); omega, ⟨rfl, rfl, rfl, rfl, trivial⟩⟩
                    · refine R.ixp Tryz.underlying24 Tryz.sizeOf3 rfl rfl rfl (by omega) ix4' ?_
                      refine TL.nil (Plan.e1 (HLe.refl _) ?_)
                      refine Plan.s2 3 8 [8, 9] [3, 9] (by kernel_rfl) (by kernel_rfl) (by kernel_rfl) rfl rfl ?_ ?_
                      · refine R.ld Tryz.isAgg3 rfl rfl .hd (hcs3 0 _ rfl) ?_
                        refine TL.nil (Plan.e1 (HLe.refl _) ?_)
                        refine Plan.s1 8 [9] (by kernel_rfl) (by kernel_rfl) rfl ?_
                        refine R.ld Tryz.isAgg3 rfl rfl .hd (hcs4 0 _ rfl) ?_
                        refine TL.nil (Plan.e1 (HLe.refl _) ?_)
                        refine Plan.v 9 [] (by kernel_rfl) (by kernel_rfl) (by kernel_rfl) (by kernel_rfl) rfl (fun _ _ h_ => R.neq rfl rfl rfl (TL.nil h_)) ?_
                        refine Plan.done (Post.thnN ?_)
                        refine T.condD rfl (fun c44 => ?_) (fun c44 => ?_)
                        · refine T.seq ?_
                          refine T.region ?_
                          refine R.mvE rfl (by conv => lhs; whnf) ?_
                          refine R.mvE rfl (by conv => lhs; whnf) ?_
                          refine R.mvE rfl (by conv => lhs; whnf) ?_
                          refine R.mvE rfl (by conv => lhs; whnf) ?_
                          refine R.ixp Tryz.underlying24 Tryz.sizeOf3 rfl rfl rfl (by omega) ix3' ?_
                          refine R.ld Tryz.isAgg3 rfl rfl .hd (hcs3 0 _ rfl) ?_
                          refine R.ixp Tryz.underlying24 Tryz.sizeOf3 rfl rfl rfl (by omega) (by rw [← hcl]; exact ix5) ?_
                          refine R.stE (y := y2) Tryz.sizeOf3 rfl rfl hw .hd ix5 rfl rfl rfl ?_
                          intro c51 w51
                          refine TL.nil (Post.thnN ?_)
                          refine T.region ?_
                          refine R.mvE rfl (by conv => lhs; whnf) ?_
                          refine R.addI rfl rfl rfl (by omega) ?_
                          refine R.asE rfl (by conv => lhs; whnf) ?_
                          refine TL.nil (Post.blkN ?_)
                          refine id (Post.thnN ?_)
                          refine T.region ?_
                          refine R.mvE rfl (by conv => lhs; whnf) ?_
                          refine R.addI rfl rfl rfl (by omega) ?_
                          refine R.asE rfl (by conv => lhs; whnf) ?_
                          refine TL.nil (Post.thnN ?_)
                          -- round's end, way ny00yy010y
                          exact ⟨(i + 1, j + 1, cur.set i y2, c51), s_1, ⟨⟨by omega, by show k + (j + 1) ≤ _; omega, by show i + 1 + 1 ≤ k + (j + 1); omega, by rw [List.length_set]; exact hcl⟩, rfl, rfl, by rw [List.length_set]; exact w51, by rw [set_take (by omega), htk, hkj, compactI_take hz2 hy2', if_neg c44, hkj1], fun q hq => by rw [List.getElem?_set_ne (by omega)]; exact hrest q (by omega)⟩, by show xs.length - (k + (j + 1)) < xs.length - (k + j); omega, ⟨rfl, rfl, rfl, rfl, trivial⟩⟩
                        · refine T.skip (Post.blkN ?_)
                          refine id (Post.thnN ?_)
                          refine T.region ?_
                          refine R.mvE rfl (by conv => lhs; whnf) ?_
                          refine R.addI rfl rfl rfl (by omega) ?_
                          refine R.asE rfl (by conv => lhs; whnf) ?_
                          refine TL.nil (Post.thnN ?_)
                          -- round's end, way ny00yy010n
                          exact ⟨(i, j + 1, cur, [(b3, .cells cs3 3)]), s_1, ⟨⟨by omega, by show k + (j + 1) ≤ _; omega, by show i + 1 ≤ k + (j + 1); omega, hcl⟩, rfl, rfl, hw, by rw [htk, hkj, compactI_take hz2 hy2', if_pos (Decidable.of_not_not c44), hkj1], hrest⟩, by show xs.length - (k + (j + 1)) < xs.length - (k + j); omega, ⟨rfl, rfl, rfl, rfl, trivial⟩⟩
                      · refine R.ld Tryz.isAgg3 rfl rfl .hd (hcs4 0 _ rfl) ?_
                        refine TL.nil (Plan.e1 (HLe.refl _) ?_)
                        refine Plan.s1 3 [9] (by kernel_rfl) (by kernel_rfl) rfl ?_
                        refine R.ld Tryz.isAgg3 rfl rfl .hd (hcs3 0 _ rfl) ?_
                        refine TL.nil (Plan.e1 (HLe.refl _) ?_)
                        refine Plan.v 9 [] (by kernel_rfl) (by kernel_rfl) (by kernel_rfl) (by kernel_rfl) rfl (fun _ _ h_ => R.neq rfl rfl rfl (TL.nil h_)) ?_
                        refine Plan.done (Post.thnN ?_)
                        refine T.condD rfl (fun c44 => ?_) (fun c44 => ?_)
                        · refine T.seq ?_
                          refine T.region ?_
                          refine R.mvE rfl (by conv => lhs; whnf) ?_
                          refine R.mvE rfl (by conv => lhs; whnf) ?_
                          refine R.mvE rfl (by conv => lhs; whnf) ?_
                          refine R.mvE rfl (by conv => lhs; whnf) ?_
                          refine R.ixp Tryz.underlying24 Tryz.sizeOf3 rfl rfl rfl (by omega) ix3' ?_
                          refine R.ld Tryz.isAgg3 rfl rfl .hd (hcs3 0 _ rfl) ?_
                          refine R.ixp Tryz.underlying24 Tryz.sizeOf3 rfl rfl rfl (by omega) (by rw [← hcl]; exact ix5) ?_
                          refine R.stE (y := y2) Tryz.sizeOf3 rfl rfl hw .hd ix5 rfl rfl rfl ?_
                          intro c51 w51
                          refine TL.nil (Post.thnN ?_)
                          refine T.region ?_
                          refine R.mvE rfl (by conv => lhs; whnf) ?_
                          refine R.addI rfl rfl rfl (by omega) ?_
                          refine R.asE rfl (by conv => lhs; whnf) ?_
                          refine TL.nil (Post.blkN ?_)
                          refine id (Post.thnN ?_)
                          refine T.region ?_
                          refine R.mvE rfl (by conv => lhs; whnf) ?_
                          refine R.addI rfl rfl rfl (by omega) ?_
                          refine R.asE rfl (by conv => lhs; whnf) ?_
                          refine TL.nil (Post.thnN ?_)
                          -- round's end, way ny00yy011y
                          exact ⟨(i + 1, j + 1, cur.set i y2, c51), s_1, ⟨⟨by omega, by show k + (j + 1) ≤ _; omega, by show i + 1 + 1 ≤ k + (j + 1); omega, by rw [List.length_set]; exact hcl⟩, rfl, rfl, by rw [List.length_set]; exact w51, by rw [set_take (by omega), htk, hkj, compactI_take hz2 hy2', if_neg c44, hkj1], fun q hq => by rw [List.getElem?_set_ne (by omega)]; exact hrest q (by omega)⟩, by show xs.length - (k + (j + 1)) < xs.length - (k + j); omega, ⟨rfl, rfl, rfl, rfl, trivial⟩⟩
                        · refine T.skip (Post.blkN ?_)
                          refine id (Post.thnN ?_)
                          refine T.region ?_
                          refine R.mvE rfl (by conv => lhs; whnf) ?_
                          refine R.addI rfl rfl rfl (by omega) ?_
                          refine R.asE rfl (by conv => lhs; whnf) ?_
                          refine TL.nil (Post.thnN ?_)
                          -- round's end, way ny00yy011n
                          exact ⟨(i, j + 1, cur, [(b3, .cells cs3 3)]), s_1, ⟨⟨by omega, by show k + (j + 1) ≤ _; omega, by show i + 1 ≤ k + (j + 1); omega, hcl⟩, rfl, rfl, hw, by rw [htk, hkj, compactI_take hz2 hy2', if_pos (Decidable.of_not_not c44), hkj1], hrest⟩, by show xs.length - (k + (j + 1)) < xs.length - (k + j); omega, ⟨rfl, rfl, rfl, rfl, trivial⟩⟩
                  · refine R.ixp Tryz.underlying24 Tryz.sizeOf3 rfl rfl rfl (by omega) ix4' ?_
                    refine TL.nil (Plan.e1 (HLe.refl _) ?_)
                    refine Plan.s2 2 8 [3, 8, 9] [2, 3, 9] (by kernel_rfl) (by kernel_rfl) (by kernel_rfl) rfl rfl ?_ ?_
                    · refine R.ixp Tryz.underlying24 Tryz.sizeOf3 rfl rfl rfl (by omega) ix3' ?_
                      refine TL.nil (Plan.e1 (HLe.refl _) ?_)
                      refine Plan.s2 3 8 [8, 9] [3, 9] (by kernel_rfl) (by kernel_rfl) (by kernel_rfl) rfl rfl ?_ ?_
                      · refine R.ld Tryz.isAgg3 rfl rfl .hd (hcs3 0 _ rfl) ?_
                        refine TL.nil (Plan.e1 (HLe.refl _) ?_)
                        refine Plan.s1 8 [9] (by kernel_rfl) (by kernel_rfl) rfl ?_
                        refine R.ld Tryz.isAgg3 rfl rfl .hd (hcs4 0 _ rfl) ?_
                        refine TL.nil (Plan.e1 (HLe.refl _) ?_)
                        refine Plan.v 9 [] (by kernel_rfl) (by kernel_rfl) (by kernel_rfl) (by kernel_rfl) rfl (fun _ _ h_ => R.neq rfl rfl rfl (TL.nil h_)) ?_
                        refine Plan.done (Post.thnN ?_)
                        refine T.condD rfl (fun c44 => ?_) (fun c44 => ?_)
                        · refine T.seq ?_
                          refine T.region ?_
                          refine R.mvE rfl (by conv => lhs; whnf) ?_
                          refine R.mvE rfl (by conv => lhs; whnf) ?_
                          refine R.mvE rfl (by conv => lhs; whnf) ?_
                          refine R.mvE rfl (by conv => lhs; whnf) ?_
                          refine R.ixp Tryz.underlying24 Tryz.sizeOf3 rfl rfl rfl (by omega) ix3' ?_
                          refine R.ld Tryz.isAgg3 rfl rfl .hd (hcs3 0 _ rfl) ?_
                          refine R.ixp Tryz.underlying24 Tryz.sizeOf3 rfl rfl rfl (by omega) (by rw [← hcl]; exact ix5) ?_
                          refine R.stE (y := y2) Tryz.sizeOf3 rfl rfl hw .hd ix5 rfl rfl rfl ?_
                          intro c51 w51
                          refine TL.nil (Post.thnN ?_)
                          refine T.region ?_
                          refine R.mvE rfl (by conv => lhs; whnf) ?_
                          refine R.addI rfl rfl rfl (by omega) ?_
                          refine R.asE rfl (by conv => lhs; whnf) ?_
                          refine TL.nil (Post.blkN ?_)
                          refine id (Post.thnN ?_)
                          refine T.region ?_
                          refine R.mvE rfl (by conv => lhs; whnf) ?_
                          refine R.addI rfl rfl rfl (by omega) ?_
                          refine R.asE rfl (by conv => lhs; whnf) ?_
                          refine TL.nil (Post.thnN ?_)
                          -- round's end, way ny00yy100y
                          exact ⟨(i + 1, j + 1, cur.set i y2, c51), s_1, ⟨⟨by omega, by show k + (j + 1) ≤ _; omega, by show i + 1 + 1 ≤ k + (j + 1); omega, by rw [List.length_set]; exact hcl⟩, rfl, rfl, by rw [List.length_set]; exact w51, by rw [set_take (by omega), htk, hkj, compactI_take hz2 hy2', if_neg c44, hkj1], fun q hq => by rw [List.getElem?_set_ne (by omega)]; exact hrest q (by omega)⟩, by show xs.length - (k + (j + 1)) < xs.length - (k + j); omega, ⟨rfl, rfl, rfl, rfl, trivial⟩⟩
                        · refine T.skip (Post.blkN ?_)
                          refine id (Post.thnN ?_)
                          refine T.region ?_
                          refine R.mvE rfl (by conv => lhs; whnf) ?_
                          refine R.addI rfl rfl rfl (by omega) ?_
                          refine R.asE rfl (by conv => lhs; whnf) ?_
                          refine TL.nil (Post.thnN ?_)
                          -- round's end, way ny00yy100n
                          exact ⟨(i, j + 1, cur, [(b3, .cells cs3 3)]), s_1, ⟨⟨by omega, by show k + (j + 1) ≤ _; omega, by show i + 1 ≤ k + (j + 1); omega, hcl⟩, rfl, rfl, hw, by rw [htk, hkj, compactI_take hz2 hy2', if_pos (Decidable.of_not_not c44), hkj1], hrest⟩, by show xs.length - (k + (j + 1)) < xs.length - (k + j); omega, ⟨rfl, rfl, rfl, rfl, trivial⟩⟩
                      · refine R.ld Tryz.isAgg3 rfl rfl .hd (hcs4 0 _ rfl) ?_
                        refine TL.nil (Plan.e1 (HLe.refl _) ?_)
                        refine Plan.s1 3 [9] (by kernel_rfl) (by kernel_rfl) rfl ?_
                        refine R.ld Tryz.isAgg3 rfl rfl .hd (hcs3 0 _ rfl) ?_
                        refine TL.nil (Plan.e1 (HLe.refl _) ?_)
                        refine Plan.v 9 [] (by kernel_rfl) (by kernel_rfl) (by kernel_rfl) (by kernel_rfl) rfl (fun _ _ h_ => R.neq rfl rfl rfl (TL.nil h_)) ?_
                        refine Plan.done (Post.thnN ?_)
                        refine T.condD rfl (fun c44 => ?_) (fun c44 => ?_)
                        · refine T.seq ?_
                          refine T.region ?_
                          refine R.mvE rfl (by conv => lhs; whnf) ?_
                          refine R.mvE rfl (by conv => lhs; whnf) ?_
                          refine R.mvE rfl (by conv => lhs; whnf) ?_
                          refine R.mvE rfl (by conv => lhs; whnf) ?_
                          refine R.ixp Tryz.underlying24 Tryz.sizeOf3 rfl rfl rfl (by omega) ix3' ?_
                          refine R.ld Tryz.isAgg3 rfl rfl .hd (hcs3 0 _ rfl) ?_
                          refine R.ixp Tryz.underlying24 Tryz.sizeOf3 rfl rfl rfl (by omega) (by rw [← hcl]; exact ix5) ?_
                          refine R.stE (y := y2) Tryz.sizeOf3 rfl rfl hw .hd ix5 rfl rfl rfl ?_
                          intro c51 w51
                          refine TL.nil (Post.thnN ?_)
                          refine T.region ?_
                          refine R.mvE rfl (by conv => lhs; whnf) ?_
                          refine R.addI rfl rfl rfl (by omega) ?_
                          refine R.asE rfl (by conv => lhs; whnf) ?_
                          refine TL.nil (Post.blkN ?_)
                          refine id (Post.thnN ?_)
                          refine T.region ?_
                          refine R.mvE rfl (by conv => lhs; whnf) ?_
                          refine R.addI rfl rfl rfl (by omega) ?_
                          refine R.asE rfl (by conv => lhs; whnf) ?_
                          refine TL.nil (Post.thnN ?_)
                          -- round's end, way ny00yy101y
                          exact ⟨(i + 1, j + 1, cur.set i y2, c51), s_1, ⟨⟨by omega, by show k + (j + 1) ≤ _; omega, by show i + 1 + 1 ≤ k + (j + 1); omega, by rw [List.length_set]; exact hcl⟩, rfl, rfl, by rw [List.length_set]; exact w51, by rw [set_take (by omega), htk, hkj, compactI_take hz2 hy2', if_neg c44, hkj1], fun q hq => by rw [List.getElem?_set_ne (by omega)]; exact hrest q (by omega)⟩, by show xs.length - (k + (j + 1)) < xs.length - (k + j); omega, ⟨rfl, rfl, rfl, rfl, trivial⟩⟩
                        · refine T.skip (Post.blkN ?_)
                          refine id (Post.thnN ?_)
                          refine T.region ?_
                          refine R.mvE rfl (by conv => lhs; whnf) ?_
                          refine R.addI rfl rfl rfl (by omega) ?_
                          refine R.asE rfl (by conv => lhs; whnf) ?_
                          refine TL.nil (Post.thnN ?_)
                          -- round's end, way ny00yy101n
                          exact ⟨(i, j + 1, cur, [(b3, .cells cs3 3)]), s_1, ⟨⟨by omega, by show k + (j + 1) ≤ _; omega, by show i + 1 ≤ k + (j + 1); omega, hcl⟩, rfl, rfl, hw, by rw [htk, hkj, compactI_take hz2 hy2', if_pos (Decidable.of_not_not c44), hkj1], hrest⟩, by show xs.length - (k + (j + 1)) < xs.length - (k + j); omega, ⟨rfl, rfl, rfl, rfl, trivial⟩⟩
                    · refine R.ld Tryz.isAgg3 rfl rfl .hd (hcs4 0 _ rfl) ?_
                      refine TL.nil (Plan.e1 (HLe.refl _) ?_)
                      refine Plan.s1 2 [3, 9] (by kernel_rfl) (by kernel_rfl) rfl ?_
                      refine R.ixp Tryz.underlying24 Tryz.sizeOf3 rfl rfl rfl (by omega) ix3' ?_
                      refine TL.nil (Plan.e1 (HLe.refl _) ?_)
                      refine Plan.s1 3 [9] (by kernel_rfl) (by kernel_rfl) rfl ?_
                      refine R.ld Tryz.isAgg3 rfl rfl .hd (hcs3 0 _ rfl) ?_
                      refine TL.nil (Plan.e1 (HLe.refl _) ?_)
                      refine Plan.v 9 [] (by kernel_rfl) (by kernel_rfl) (by kernel_rfl) (by kernel_rfl) rfl (fun _ _ h_ => R.neq rfl rfl rfl (TL.nil h_)) ?_
                      refine Plan.done (Post.thnN ?_)
                      refine T.condD rfl (fun c44 => ?_) (fun c44 => ?_)
                      · refine T.seq ?_
                        refine T.region ?_
                        refine R.mvE rfl (by conv => lhs; whnf) ?_
                        refine R.mvE rfl (by conv => lhs; whnf) ?_
                        refine R.mvE rfl (by conv => lhs; whnf) ?_
                        refine R.mvE rfl (by conv => lhs; whnf) ?_
                        refine R.ixp Tryz.underlying24 Tryz.sizeOf3 rfl rfl rfl (by omega) ix3' ?_
                        refine R.ld Tryz.isAgg3 rfl rfl .hd (hcs3 0 _ rfl) ?_
                        refine R.ixp Tryz.underlying24 Tryz.sizeOf3 rfl rfl rfl (by omega) (by rw [← hcl]; exact ix5) ?_
                        refine R.stE (y := y2) Tryz.sizeOf3 rfl rfl hw .hd ix5 rfl rfl rfl ?_
                        intro c51 w51
                        refine TL.nil (Post.thnN ?_)
                        refine T.region ?_
                        refine R.mvE rfl (by conv => lhs; whnf) ?_
                        refine R.addI rfl rfl rfl (by omega) ?_
                        refine R.asE rfl (by conv => lhs; whnf) ?_
                        refine TL.nil (Post.blkN ?_)
                        refine id (Post.thnN ?_)
                        refine T.region ?_
                        refine R.mvE rfl (by conv => lhs; whnf) ?_
                        refine R.addI rfl rfl rfl (by omega) ?_
                        refine R.asE rfl (by conv => lhs; whnf) ?_
                        refine TL.nil (Post.thnN ?_)
                        -- round's end, way ny00yy11y
                        exact ⟨(i + 1, j + 1, cur.set i y2, c51), s_1, ⟨⟨by omega, by show k + (j + 1) ≤ _; omega, by show i + 1 + 1 ≤ k + (j + 1); omega, by rw [List.length_set]; exact hcl⟩, rfl, rfl, by rw [List.length_set]; exact w51, by rw [set_take (by omega), htk, hkj, compactI_take hz2 hy2', if_neg c44, hkj1], fun q hq => by rw [List.getElem?_set_ne (by omega)]; exact hrest q (by omega)⟩, by show xs.length - (k + (j + 1)) < xs.length - (k + j); omega, ⟨rfl, rfl, rfl, rfl, trivial⟩⟩
                      · refine T.skip (Post.blkN ?_)
                        refine id (Post.thnN ?_)
                        refine T.region ?_
                        refine R.mvE rfl (by conv => lhs; whnf) ?_
                        refine R.addI rfl rfl rfl (by omega) ?_
                        refine R.asE rfl (by conv => lhs; whnf) ?_
                        refine TL.nil (Post.thnN ?_)
                        -- round's end, way ny00yy11n
                        exact ⟨(i, j + 1, cur, [(b3, .cells cs3 3)]), s_1, ⟨⟨by omega, by show k + (j + 1) ≤ _; omega, by show i + 1 ≤ k + (j + 1); omega, hcl⟩, rfl, rfl, hw, by rw [htk, hkj, compactI_take hz2 hy2', if_pos (Decidable.of_not_not c44), hkj1], hrest⟩, by show xs.length - (k + (j + 1)) < xs.length - (k + j); omega, ⟨rfl, rfl, rfl, rfl, trivial⟩⟩
                · have hje : k + j = xs.length := by omega
                  rw [hje, List.take_length] at htk
                  have hil : (cur.take i).length = i := by simp; omega
                  refine T.exit (Post.thnE (Post.thnE (Post.blkX ?_)))
                  refine id (Post.thnN ?_)
                  refine T.seq ?_
                  refine T.region ?_
                  refine R.mvE rfl (by conv => lhs; whnf) ?_
                  refine R.mvE rfl (by conv => lhs; whnf) ?_
                  refine R.sL Tryz.underlying24 Tryz.sizeOf3 rfl rfl rfl (by omega) (by omega) ?_
                  refine R.clr (dd := none) (xs := cur.take i) Tryz_ty24 (zone_of (z := .int .i64 0) (by kernel_rfl) (by intro v hv; have e0 : v = .int .i64 0 := (by simpa [Value.cells] using hv); subst e0; rfl)) rfl (fun q h => by cases h) (m := xs.length) (by rw [hil]; rfl) (by rw [hil]; exact own_take0 hw (by omega)) .hd (by omega) (by omega) ?_
                  intro c57 w57
                  refine TL.nil (Post.thnN ?_)
                  refine T.seq ?_
                  refine T.region ?_
                  refine R.mvE rfl (by conv => lhs; whnf) ?_
                  refine R.mvE rfl (by conv => lhs; whnf) ?_
                  refine R.sH Tryz.underlying24 Tryz.sizeOf3 rfl rfl rfl (by omega) (by omega) ?_
                  refine R.asE rfl (by conv => lhs; whnf) ?_
                  refine TL.nil (Post.thnN ?_)
                  refine T.ret (Post.blkR (Post.thnR (Post.thnR (Post.blkR (Post.thnR ?_)))))
                  -- way ny00yn
                  refine fin1L [c57] rfl rfl (List.Sublist.refl _) ⟨_, rfl, ?_⟩
                  show OwnS (intE .i64) 3 _ (slcV (.slice A xs.length cap) 0 i cap 1) (compactI xs) c57
                  rw [slc_take0, ← htk]
                  rw [hil] at w57
                  exact w57
            · refine T.skip (Post.blkN ?_)
              refine id (Post.thnN ?_)
              refine T.region ?_
              refine R.mvE rfl (by conv => lhs; whnf) ?_
              refine R.addI rfl rfl rfl (by omega) ?_
              refine R.asE rfl (by conv => lhs; whnf) ?_
              refine TL.nil (Post.thnN ?_)
              -- round's end, way ny00n
              exact ⟨k + 1, s_0, ⟨⟨by omega, by omega⟩, rfl, rfl, by rw [show k + 1 = (k - 1) + 2 by omega, compactI_take hz hy1, if_neg c25, show k - 1 + 1 = k by omega, hco, show k - 1 + 2 = k + 1 by omega, take_snoc _ _ _ hy]⟩, by omega, ⟨rfl, rfl, trivial⟩⟩
          · refine R.ixp Tryz.underlying24 Tryz.sizeOf3 rfl rfl rfl (by omega) ix2 ?_
            refine TL.nil (Plan.e1 (HLe.refl _) ?_)
            refine Plan.s2 3 8 [8, 9] [3, 9] (by kernel_rfl) (by kernel_rfl) (by kernel_rfl) rfl rfl ?_ ?_
            · refine R.ld Tryz.isAgg3 rfl rfl .hd (hcs1 0 _ rfl) ?_
              refine TL.nil (Plan.e1 (HLe.refl _) ?_)
              refine Plan.s1 8 [9] (by kernel_rfl) (by kernel_rfl) rfl ?_
              refine R.ld Tryz.isAgg3 rfl rfl .hd (hcs2 0 _ rfl) ?_
              refine TL.nil (Plan.e1 (HLe.refl _) ?_)
              refine Plan.v 9 [] (by kernel_rfl) (by kernel_rfl) (by kernel_rfl) (by kernel_rfl) rfl (fun _ _ h_ => R.eql rfl rfl rfl (TL.nil h_)) ?_
              refine Plan.done (Post.thnN ?_)
              refine T.condD rfl (fun c25 => ?_) (fun c25 => ?_)
              · refine T.seq ?_
                refine T.region ?_
                refine R.mvE rfl (by conv => lhs; whnf) ?_
                refine R.mvE rfl (by conv => lhs; whnf) ?_
                refine R.sL Tryz.underlying24 Tryz.sizeOf3 rfl rfl rfl (by omega) (by omega) ?_
                refine R.asE rfl (by conv => lhs; whnf) ?_
                refine TL.nil (Post.thnN ?_)
                refine T.seq ?_
                refine T.seq ?_
                refine T.region ?_
                refine R.asE rfl (by conv => lhs; whnf) ?_
                refine TL.nil (Post.thnN ?_)
                refine T.block ?_
                refine T.loop (ι := Nat × Nat × List Int × Chunk) (fun ⟨i, j, cur, ch2⟩ H' L' ds' => (1 ≤ j ∧ k + j ≤ xs.length ∧ i + 1 ≤ k + j ∧ cur.length = xs.length) ∧ L' = [ch2] ∧ ds' = [] ∧ OwnS (intE .i64) 3 H' (.slice A cur.length cap) cur ch2 ∧ cur.take i = compactI (xs.take (k + j)) ∧ (∀ q, i ≤ q → cur[q]? = xs[q]?)) (fun ⟨i, j, cur, ch2⟩ => [(0, .slice A xs.length cap), (3, .int .i64 i), (4, slcV (.slice A xs.length cap) k xs.length cap 1), (5, .int .i64 j)]) (fun ⟨i, j, cur, ch2⟩ => xs.length - (k + j)) ((k, 1, xs, [(b1, .cells cs1 3)])) ?_ ?_ ?_
                · exact ⟨⟨by omega, by omega, by omega, rfl⟩, rfl, rfl, ho, by rw [hk2, compactI_take hz hy1, if_pos c25, show k - 1 + 1 = k by omega, hco], fun q hq => rfl⟩
                · exact ⟨rfl, rfl, rfl, rfl, trivial⟩
                · intro ⟨i, j, cur, ch2⟩ σ2 H_2 L_2 ds_2 s_2 hI_2
                  obtain ⟨⟨hj1, hj2, hij, hcl⟩, rfl, rfl, hw, htk, hrest⟩ := hI_2
                  refine T.seq ?_
                  refine T.seq ?_
                  refine T.region ?_
                  refine R.mvE rfl (by conv => lhs; whnf) ?_
                  refine R.mvE rfl (by conv => lhs; whnf) ?_
                  refine R.len Tryz.underlying24 rfl rfl ?_
                  refine R.lss rfl rfl rfl ?_
                  refine TL.nil (Post.thnN ?_)
                  refine T.condD rfl (fun c32 => ?_) (fun c32 => ?_)
                  · have hlt2 : k + j < xs.length := by omega
                    obtain ⟨y2, hy2⟩ := getk hlt2
                    obtain ⟨z2, hz2⟩ := getk (xs := xs) (k := k + j - 1) (by omega)
                    have hkj : k + (j + 1) = (k + j - 1) + 2 := by omega
                    have hkj1 : k + j - 1 + 1 = k + j := by omega
                    have hy2' : xs[k + j - 1 + 1]? = some y2 := by rw [hkj1]; exact hy2
                    have hcy : cur[k + j]? = some y2 := by rw [hrest _ (by omega)]; exact hy2
                    have hcz : cur[k + ((j : Int) - 1).toNat]? = some z2 := by rw [show k + ((j : Int) - 1).toNat = k + j - 1 by omega, hrest _ (by omega)]; exact hz2
                    obtain ⟨yi, hci⟩ := getk (xs := cur) (k := i) (by omega)
                    obtain ⟨b3, k3, cs3, l3, hce3, hve3, ix3, hR3, hcs3⟩ := hw.elem hcy
                    obtain rfl : l3 = [.int .i64 y2] := hR3
                    obtain ⟨b4, k4, cs4, l4, hce4, hve4, ix4, hR4, hcs4⟩ := hw.elem hcz
                    obtain rfl : l4 = [.int .i64 z2] := hR4
                    obtain ⟨b5, k5, cs5, l5, hce5, hve5, ix5, hR5, hcs5⟩ := hw.elem hci
                    subst hce3
                    obtain ⟨rfl, rfl⟩ : b3 = b4 ∧ cs3 = cs4 := by simpa using hce4
                    obtain ⟨rfl, rfl⟩ : b3 = b5 ∧ cs3 = cs5 := by simpa using hce5
                    obtain rfl : cap = k3 := by injection hve3
                    rw [hcl] at hve3
                    have ix3' := ix_off (sz := 1) (k := k) (i := j) hve3 (by omega) (by omega) (by omega)
                    have ix4' := ix_off (sz := 1) (k := k) (i := ((j : Int) - 1).toNat) hve3 (by omega) (by omega) (by omega)
                    refine T.skip (Post.thnN ?_)
                    refine T.seq ?_
                    refine T.block ?_
                    refine T.seq ?_
                    refine T.draw Tryz_mixed (by kernel_rfl) ?_
                    refine Plan.v 0 [1, 2, 3, 4, 5, 6, 7, 8, 9] (by kernel_rfl) (by kernel_rfl) (by kernel_rfl) (by kernel_rfl) rfl (fun _ _ h_ => R.mvE rfl (by conv => lhs; whnf) (TL.nil h_)) ?_
                    refine Plan.v 1 [2, 3, 4, 5, 6, 7, 8, 9] (by kernel_rfl) (by kernel_rfl) (by kernel_rfl) (by kernel_rfl) rfl (fun _ _ h_ => R.mvE rfl (by conv => lhs; whnf) (TL.nil h_)) ?_
                    refine Plan.v 4 [2, 3, 5, 6, 7, 8, 9] (by kernel_rfl) (by kernel_rfl) (by kernel_rfl) (by kernel_rfl) rfl (fun _ _ h_ => R.mvE rfl (by conv => lhs; whnf) (TL.nil h_)) ?_
                    refine Plan.v 5 [2, 3, 6, 7, 8, 9] (by kernel_rfl) (by kernel_rfl) (by kernel_rfl) (by kernel_rfl) rfl (fun _ _ h_ => R.mvE rfl (by conv => lhs; whnf) (TL.nil h_)) ?_
                    refine Plan.v 6 [2, 3, 7, 8, 9] (by kernel_rfl) (by kernel_rfl) (by kernel_rfl) (by kernel_rfl) rfl (fun _ _ h_ => R.subI rfl rfl rfl (by omega) (TL.nil h_)) ?_
                    refine Plan.s2 2 7 [3, 7, 8, 9] [2, 3, 8, 9] (by kernel_rfl) (by kernel_rfl) (by kernel_rfl) rfl rfl ?_ ?_
                    · refine R.ixp Tryz.underlying24 Tryz.sizeOf3 rfl rfl rfl (by omega) ix3' ?_
                      refine TL.nil (Plan.e1 (HLe.refl _) ?_)
                      refine Plan.s2 3 7 [7, 8, 9] [3, 8, 9] (by kernel_rfl) (by kernel_rfl) (by kernel_rfl) rfl rfl ?_ ?_
                      · refine R.ld Tryz.isAgg3 rfl rfl .hd (hcs3 0 _ rfl) ?_
                        refine TL.nil (Plan.e1 (HLe.refl _) ?_)
                        refine Plan.s1 7 [8, 9] (by kernel_rfl) (by kernel_rfl) rfl ?_
                        refine R.ixp Tryz.underlying24 Tryz.sizeOf3 rfl rfl rfl (by omega) ix4' ?_
                        refine TL.nil (Plan.e1 (HLe.refl _) ?_)
                        refine Plan.s1 8 [9] (by kernel_rfl) (by kernel_rfl) rfl ?_
                        refine R.ld Tryz.isAgg3 rfl rfl .hd (hcs4 0 _ rfl) ?_
                        refine TL.nil (Plan.e1 (HLe.refl _) ?_)
                        refine Plan.v 9 [] (by kernel_rfl) (by kernel_rfl) (by kernel_rfl) (by kernel_rfl) rfl (fun _ _ h_ => R.neq rfl rfl rfl (TL.nil h_)) ?_
                        refine Plan.done (Post.thnN ?_)
                        refine T.condD rfl (fun c44 => ?_) (fun c44 => ?_)
                        · refine T.seq ?_
                          refine T.region ?_
                          refine R.mvE rfl (by conv => lhs; whnf) ?_
                          refine R.mvE rfl (by conv => lhs; whnf) ?_
                          refine R.mvE rfl (by conv => lhs; whnf) ?_
                          refine R.mvE rfl (by conv => lhs; whnf) ?_
                          refine R.ixp Tryz.underlying24 Tryz.sizeOf3 rfl rfl rfl (by omega) ix3' ?_
                          refine R.ld Tryz.isAgg3 rfl rfl .hd (hcs3 0 _ rfl) ?_
                          refine R.ixp Tryz.underlying24 Tryz.sizeOf3 rfl rfl rfl (by omega) (by rw [← hcl]; exact ix5) ?_
                          refine R.stE (y := y2) Tryz.sizeOf3 rfl rfl hw .hd ix5 rfl rfl rfl ?_
                          intro c51 w51
                          refine TL.nil (Post.thnN ?_)
                          refine T.region ?_
                          refine R.mvE rfl (by conv => lhs; whnf) ?_
                          refine R.addI rfl rfl rfl (by omega) ?_
                          refine R.asE rfl (by conv => lhs; whnf) ?_
                          refine TL.nil (Post.blkN ?_)
                          refine id (Post.thnN ?_)
                          refine T.region ?_
                          refine R.mvE rfl (by conv => lhs; whnf) ?_
                          refine R.addI rfl rfl rfl (by omega) ?_
                          refine R.asE rfl (by conv => lhs; whnf) ?_
                          refine TL.nil (Post.thnN ?_)
                          -- round's end, way ny010yy00y
                          exact ⟨(i + 1, j + 1, cur.set i y2, c51), s_2, ⟨⟨by omega, by show k + (j + 1) ≤ _; omega, by show i + 1 + 1 ≤ k + (j + 1); omega, by rw [List.length_set]; exact hcl⟩, rfl, rfl, by rw [List.length_set]; exact w51, by rw [set_take (by omega), htk, hkj, compactI_take hz2 hy2', if_neg c44, hkj1], fun q hq => by rw [List.getElem?_set_ne (by omega)]; exact hrest q (by omega)⟩, by show xs.length - (k + (j + 1)) < xs.length - (k + j); omega, ⟨rfl, rfl, rfl, rfl, trivial⟩⟩
                        · refine T.skip (Post.blkN ?_)
                          refine id (Post.thnN ?_)
                          refine T.region ?_
                          refine R.mvE rfl (by conv => lhs; whnf) ?_
                          refine R.addI rfl rfl rfl (by omega) ?_
                          refine R.asE rfl (by conv => lhs; whnf) ?_
                          refine TL.nil (Post.thnN ?_)
                          -- round's end, way ny010yy00n
                          exact ⟨(i, j + 1, cur, [(b3, .cells cs3 3)]), s_2, ⟨⟨by omega, by show k + (j + 1) ≤ _; omega, by show i + 1 ≤ k + (j + 1); omega, hcl⟩, rfl, rfl, hw, by rw [htk, hkj, compactI_take hz2 hy2', if_pos (Decidable.of_not_not c44), hkj1], hrest⟩, by show xs.length - (k + (j + 1)) < xs.length - (k + j); omega, ⟨rfl, rfl, rfl, rfl, trivial⟩⟩
                      · refine R.ixp Tryz.underlying24 Tryz.sizeOf3 rfl rfl rfl (by omega) ix4' ?_
                        refine TL.nil (Plan.e1 (HLe.refl _) ?_)
                        refine Plan.s2 3 8 [8, 9] [3, 9] (by kernel_rfl) (by kernel_rfl) (by kernel_rfl) rfl rfl ?_ ?_
                        · refine R.ld Tryz.isAgg3 rfl rfl .hd (hcs3 0 _ rfl) ?_
                          refine TL.nil (Plan.e1 (HLe.refl _) ?_)
                          refine Plan.s1 8 [9] (by kernel_rfl) (by kernel_rfl) rfl ?_
                          refine R.ld Tryz.isAgg3 rfl rfl .hd (hcs4 0 _ rfl) ?_
                          refine TL.nil (Plan.e1 (HLe.refl _) ?_)
                          refine Plan.v 9 [] (by kernel_rfl) (by kernel_rfl) (by kernel_rfl) (by kernel_rfl) rfl (fun _ _ h_ => R.neq rfl rfl rfl (TL.nil h_)) ?_
                          refine Plan.done (Post.thnN ?_)
                          refine T.condD rfl (fun c44 => ?_) (fun c44 => ?_)
                          · refine T.seq ?_
                            refine T.region ?_
                            refine R.mvE rfl (by conv => lhs; whnf) ?_
                            refine R.mvE rfl (by conv => lhs; whnf) ?_
                            refine R.mvE rfl (by conv => lhs; whnf) ?_
                            refine R.mvE rfl (by conv => lhs; whnf) ?_
                            refine R.ixp Tryz.underlying24 Tryz.sizeOf3 rfl rfl rfl (by omega) ix3' ?_
                            refine R.ld Tryz.isAgg3 rfl rfl .hd (hcs3 0 _ rfl) ?_
                            refine R.ixp Tryz.underlying24 Tryz.sizeOf3 rfl rfl rfl (by omega) (by rw [← hcl]; exact ix5) ?_
                            refine R.stE (y := y2) Tryz.sizeOf3 rfl rfl hw .hd ix5 rfl rfl rfl ?_
                            intro c51 w51
                            refine TL.nil (Post.thnN ?_)
                            refine T.region ?_
                            refine R.mvE rfl (by conv => lhs; whnf) ?_
                            refine R.addI rfl rfl rfl (by omega) ?_
                            refine R.asE rfl (by conv => lhs; whnf) ?_
                            refine TL.nil (Post.blkN ?_)
                            refine id (Post.thnN ?_)
                            refine T.region ?_
                            refine R.mvE rfl (by conv => lhs; whnf) ?_
                            refine R.addI rfl rfl rfl (by omega) ?_
                            refine R.asE rfl (by conv => lhs; whnf) ?_
                            refine TL.nil (Post.thnN ?_)
                            -- round's end, way ny010yy010y
                            exact ⟨(i + 1, j + 1, cur.set i y2, c51), s_2, ⟨⟨by omega, by show k + (j + 1) ≤ _; omega, by show i + 1 + 1 ≤ k + (j + 1); omega, by rw [List.length_set]; exact hcl⟩, rfl, rfl, by rw [List.length_set]; exact w51, by rw [set_take (by omega), htk, hkj, compactI_take hz2 hy2', if_neg c44, hkj1], fun q hq => by rw [List.getElem?_set_ne (by omega)]; exact hrest q (by omega)⟩, by show xs.length - (k + (j + 1)) < xs.length - (k + j); omega, ⟨rfl, rfl, rfl, rfl, trivial⟩⟩
                          · refine T.skip (Post.blkN ?_)
                            refine id (Post.thnN ?_)
                            refine T.region ?_
                            refine R.mvE rfl (by conv => lhs; whnf) ?_
                            refine R.addI rfl rfl rfl (by omega) ?_
                            refine R.asE rfl (by conv => lhs; whnf) ?_
                            refine TL.nil (Post.thnN ?_)
                            -- round's end, way ny010yy010n
                            exact ⟨(i, j + 1, cur, [(b3, .cells cs3 3)]), s_2, ⟨⟨by omega, by show k + (j + 1) ≤ _; omega, by show i + 1 ≤ k + (j + 1); omega, hcl⟩, rfl, rfl, hw, by rw [htk, hkj, compactI_take hz2 hy2', if_pos (Decidable.of_not_not c44), hkj1], hrest⟩, by show xs.length - (k + (j + 1)) < xs.length - (k + j); omega, ⟨rfl, rfl, rfl, rfl, trivial⟩⟩
                        · refine R.ld Tryz.isAgg3 rfl rfl .hd (hcs4 0 _ rfl) ?_
                          refine TL.nil (Plan.e1 (HLe.refl _) ?_)
                          refine Plan.s1 3 [9] (by kernel_rfl) (by kernel_rfl) rfl ?_
                          refine R.ld Tryz.isAgg3 rfl rfl .hd (hcs3 0 _ rfl) ?_
                          refine TL.nil (Plan.e1 (HLe.refl _) ?_)
                          refine Plan.v 9 [] (by kernel_rfl) (by kernel_rfl) (by kernel_rfl) (by kernel_rfl) rfl (fun _ _ h_ => R.neq rfl rfl rfl (TL.nil h_)) ?_
                          refine Plan.done (Post.thnN ?_)
                          refine T.condD rfl (fun c44 => ?_) (fun c44 => ?_)
                          · refine T.seq ?_
                            refine T.region ?_
                            refine R.mvE rfl (by conv => lhs; whnf) ?_
                            refine R.mvE rfl (by conv => lhs; whnf) ?_
                            refine R.mvE rfl (by conv => lhs; whnf) ?_
                            refine R.mvE rfl (by conv => lhs; whnf) ?_
                            refine R.ixp Tryz.underlying24 Tryz.sizeOf3 rfl rfl rfl (by omega) ix3' ?_
                            refine R.ld Tryz.isAgg3 rfl rfl .hd (hcs3 0 _ rfl) ?_
                            refine R.ixp Tryz.underlying24 Tryz.sizeOf3 rfl rfl rfl (by omega) (by rw [← hcl]; exact ix5) ?_
                            refine R.stE (y := y2) Tryz.sizeOf3 rfl rfl hw .hd ix5 rfl rfl rfl ?_
                            intro c51 w51
                            refine TL.nil (Post.thnN ?_)
                            refine T.region ?_
                            refine R.mvE rfl (by conv => lhs; whnf) ?_
                            refine R.addI rfl rfl rfl (by omega) ?_
                            refine R.asE rfl (by conv => lhs; whnf) ?_
                            refine TL.nil (Post.blkN ?_)
                            refine id (Post.thnN ?_)
                            refine T.region ?_
                            refine R.mvE rfl (by conv => lhs; whnf) ?_
                            refine R.addI rfl rfl rfl (by omega) ?_
                            refine R.asE rfl (by conv => lhs; whnf) ?_
                            refine TL.nil (Post.thnN ?_)
                            -- round's end, way ny010yy011y
                            exact ⟨(i + 1, j + 1, cur.set i y2, c51), s_2, ⟨⟨by omega, by show k + (j + 1) ≤ _; omega, by show i + 1 + 1 ≤ k + (j + 1); omega, by rw [List.length_set]; exact hcl⟩, rfl, rfl, by rw [List.length_set]; exact w51, by rw [set_take (by omega), htk, hkj, compactI_take hz2 hy2', if_neg c44, hkj1], fun q hq => by rw [List.getElem?_set_ne (by omega)]; exact hrest q (by omega)⟩, by show xs.length - (k + (j + 1)) < xs.length - (k + j); omega, ⟨rfl, rfl, rfl, rfl, trivial⟩⟩
                          · refine T.skip (Post.blkN ?_)
                            refine id (Post.thnN ?_)
                            refine T.region ?_
                            refine R.mvE rfl (by conv => lhs; whnf) ?_
                            refine R.addI rfl rfl rfl (by omega) ?_
                            refine R.asE rfl (by conv => lhs; whnf) ?_
                            refine TL.nil (Post.thnN ?_)
                            -- round's end, way ny010yy011n
                            exact ⟨(i, j + 1, cur, [(b3, .cells cs3 3)]), s_2, ⟨⟨by omega, by show k + (j + 1) ≤ _; omega, by show i + 1 ≤ k + (j + 1); omega, hcl⟩, rfl, rfl, hw, by rw [htk, hkj, compactI_take hz2 hy2', if_pos (Decidable.of_not_not c44), hkj1], hrest⟩, by show xs.length - (k + (j + 1)) < xs.length - (k + j); omega, ⟨rfl, rfl, rfl, rfl, trivial⟩⟩
                    · refine R.ixp Tryz.underlying24 Tryz.sizeOf3 rfl rfl rfl (by omega) ix4' ?_
                      refine TL.nil (Plan.e1 (HLe.refl _) ?_)
                      refine Plan.s2 2 8 [3, 8, 9] [2, 3, 9] (by kernel_rfl) (by kernel_rfl) (by kernel_rfl) rfl rfl ?_ ?_
                      · refine R.ixp Tryz.underlying24 Tryz.sizeOf3 rfl rfl rfl (by omega) ix3' ?_
                        refine TL.nil (Plan.e1 (HLe.refl _) ?_)
                        refine Plan.s2 3 8 [8, 9] [3, 9] (by kernel_rfl) (by kernel_rfl) (by kernel_rfl) rfl rfl ?_ ?_
                        · refine R.ld Tryz.isAgg3 rfl rfl .hd (hcs3 0 _ rfl) ?_
                          refine TL.nil (Plan.e1 (HLe.refl _) ?_)
                          refine Plan.s1 8 [9] (by kernel_rfl) (by kernel_rfl) rfl ?_
                          refine R.ld Tryz.isAgg3 rfl rfl .hd (hcs4 0 _ rfl) ?_
                          refine TL.nil (Plan.e1 (HLe.refl _) ?_)
                          refine Plan.v 9 [] (by kernel_rfl) (by kernel_rfl) (by kernel_rfl) (by kernel_rfl) rfl (fun _ _ h_ => R.neq rfl rfl rfl (TL.nil h_)) ?_
                          refine Plan.done (Post.thnN ?_)
                          refine T.condD rfl (fun c44 => ?_) (fun c44 => ?_)
                          · refine T.seq ?_
                            refine T.region ?_
                            refine R.mvE rfl (by conv => lhs; whnf) ?_
                            refine R.mvE rfl (by conv => lhs; whnf) ?_
                            refine R.mvE rfl (by conv => lhs; whnf) ?_
                            refine R.mvE rfl (by conv => lhs; whnf) ?_
                            refine R.ixp Tryz.underlying24 Tryz.sizeOf3 rfl rfl rfl (by omega) ix3' ?_
                            refine R.ld Tryz.isAgg3 rfl rfl .hd (hcs3 0 _ rfl) ?_
                            refine R.ixp Tryz.underlying24 Tryz.sizeOf3 rfl rfl rfl (by omega) (by rw [← hcl]; exact ix5) ?_
                            refine R.stE (y := y2) Tryz.sizeOf3 rfl rfl hw .hd ix5 rfl rfl rfl ?_
                            intro c51 w51
                            refine TL.nil (Post.thnN ?_)
                            refine T.region ?_
                            refine R.mvE rfl (by conv => lhs; whnf) ?_
                            refine R.addI rfl rfl rfl (by omega) ?_
                            refine R.asE rfl (by conv => lhs; whnf) ?_
                            refine TL.nil (Post.blkN ?_)
                            refine id (Post.thnN ?_)
                            refine T.region ?_
                            refine R.mvE rfl (by conv => lhs; whnf) ?_
                            refine R.addI rfl rfl rfl (by omega) ?_
                            refine R.asE rfl (by conv => lhs; whnf) ?_
                            refine TL.nil (Post.thnN ?_)
                            -- round's end, way ny010yy100y
                            exact ⟨(i + 1, j + 1, cur.set i y2, c51), s_2, ⟨⟨by omega, by show k + (j + 1) ≤ _; omega, by show i + 1 + 1 ≤ k + (j + 1); omega, by rw [List.length_set]; exact hcl⟩, rfl, rfl, by rw [List.length_set]; exact w51, by rw [set_take (by omega), htk, hkj, compactI_take hz2 hy2', if_neg c44, hkj1], fun q hq => by rw [List.getElem?_set_ne (by omega)]; exact hrest q (by omega)⟩, by show xs.length - (k + (j + 1)) < xs.length - (k + j); omega, ⟨rfl, rfl, rfl, rfl, trivial⟩⟩
                          · refine T.skip (Post.blkN ?_)
                            refine id (Post.thnN ?_)
                            refine T.region ?_
                            refine R.mvE rfl (by conv => lhs; whnf) ?_
                            refine R.addI rfl rfl rfl (by omega) ?_
                            refine R.asE rfl (by conv => lhs; whnf) ?_
                            refine TL.nil (Post.thnN ?_)
                            -- round's end, way ny010yy100n
                            exact ⟨(i, j + 1, cur, [(b3, .cells cs3 3)]), s_2, ⟨⟨by omega, by show k + (j + 1) ≤ _; omega, by show i + 1 ≤ k + (j + 1); omega, hcl⟩, rfl, rfl, hw, by rw [htk, hkj, compactI_take hz2 hy2', if_pos (Decidable.of_not_not c44), hkj1], hrest⟩, by show xs.length - (k + (j + 1)) < xs.length - (k + j); omega, ⟨rfl, rfl, rfl, rfl, trivial⟩⟩
                        · refine R.ld Tryz.isAgg3 rfl rfl .hd (hcs4 0 _ rfl) ?_
                          refine TL.nil (Plan.e1 (HLe.refl _) ?_)
                          refine Plan.s1 3 [9] (by kernel_rfl) (by kernel_rfl) rfl ?_
                          refine R.ld Tryz.isAgg3 rfl rfl .hd (hcs3 0 _ rfl) ?_
                          refine TL.nil (Plan.e1 (HLe.refl _) ?_)
                          refine Plan.v 9 [] (by kernel_rfl) (by kernel_rfl) (by kernel_rfl) (by kernel_rfl) rfl (fun _ _ h_ => R.neq rfl rfl rfl (TL.nil h_)) ?_
                          refine Plan.done (Post.thnN ?_)
                          refine T.condD rfl (fun c44 => ?_) (fun c44 => ?_)
                          · refine T.seq ?_
                            refine T.region ?_
                            refine R.mvE rfl (by conv => lhs; whnf) ?_
                            refine R.mvE rfl (by conv => lhs; whnf) ?_
                            refine R.mvE rfl (by conv => lhs; whnf) ?_
                            refine R.mvE rfl (by conv => lhs; whnf) ?_
                            refine R.ixp Tryz.underlying24 Tryz.sizeOf3 rfl rfl rfl (by omega) ix3' ?_
                            refine R.ld Tryz.isAgg3 rfl rfl .hd (hcs3 0 _ rfl) ?_
                            refine R.ixp Tryz.underlying24 Tryz.sizeOf3 rfl rfl rfl (by omega) (by rw [← hcl]; exact ix5) ?_
                            refine R.stE (y := y2) Tryz.sizeOf3 rfl rfl hw .hd ix5 rfl rfl rfl ?_
                            intro c51 w51
                            refine TL.nil (Post.thnN ?_)
                            refine T.region ?_
                            refine R.mvE rfl (by conv => lhs; whnf) ?_
                            refine R.addI rfl rfl rfl (by omega) ?_
                            refine R.asE rfl (by conv => lhs; whnf) ?_
                            refine TL.nil (Post.blkN ?_)
                            refine id (Post.thnN ?_)
                            refine T.region ?_
                            refine R.mvE rfl (by conv => lhs; whnf) ?_
                            refine R.addI rfl rfl rfl (by omega) ?_
                            refine R.asE rfl (by conv => lhs; whnf) ?_
                            refine TL.nil (Post.thnN ?_)
                            -- round's end, way ny010yy101y
                            exact ⟨(i + 1, j + 1, cur.set i y2, c51), s_2, ⟨⟨by omega, by show k + (j + 1) ≤ _; omega, by show i + 1 + 1 ≤ k + (j + 1); omega, by rw [List.length_set]; exact hcl⟩, rfl, rfl, by rw [List.length_set]; exact w51, by rw [set_take (by omega), htk, hkj, compactI_take hz2 hy2', if_neg c44, hkj1], fun q hq => by rw [List.getElem?_set_ne (by omega)]; exact hrest q (by omega)⟩, by show xs.length - (k + (j + 1)) < xs.length - (k + j); omega, ⟨rfl, rfl, rfl, rfl, trivial⟩⟩
                          · refine T.skip (Post.blkN ?_)
                            refine id (Post.thnN ?_)
                            refine T.region ?_
                            refine R.mvE rfl (by conv => lhs; whnf) ?_
                            refine R.addI rfl rfl rfl (by omega) ?_
                            refine R.asE rfl (by conv => lhs; whnf) ?_
                            refine TL.nil (Post.thnN ?_)
                            -- round's end, way ny010yy101n
                            exact ⟨(i, j + 1, cur, [(b3, .cells cs3 3)]), s_2, ⟨⟨by omega, by show k + (j + 1) ≤ _; omega, by show i + 1 ≤ k + (j + 1); omega, hcl⟩, rfl, rfl, hw, by rw [htk, hkj, compactI_take hz2 hy2', if_pos (Decidable.of_not_not c44), hkj1], hrest⟩, by show xs.length - (k + (j + 1)) < xs.length - (k + j); omega, ⟨rfl, rfl, rfl, rfl, trivial⟩⟩
                      · refine R.ld Tryz.isAgg3 rfl rfl .hd (hcs4 0 _ rfl) ?_
                        refine TL.nil (Plan.e1 (HLe.refl _) ?_)
                        refine Plan.s1 2 [3, 9] (by kernel_rfl) (by kernel_rfl) rfl ?_
                        refine R.ixp Tryz.underlying24 Tryz.sizeOf3 rfl rfl rfl (by omega) ix3' ?_
                        refine TL.nil (Plan.e1 (HLe.refl _) ?_)
                        refine Plan.s1 3 [9] (by kernel_rfl) (by kernel_rfl) rfl ?_
                        refine R.ld Tryz.isAgg3 rfl rfl .hd (hcs3 0 _ rfl) ?_
                        refine TL.nil (Plan.e1 (HLe.refl _) ?_)
                        refine Plan.v 9 [] (by kernel_rfl) (by kernel_rfl) (by kernel_rfl) (by kernel_rfl) rfl (fun _ _ h_ => R.neq rfl rfl rfl (TL.nil h_)) ?_
                        refine Plan.done (Post.thnN ?_)
                        refine T.condD rfl (fun c44 => ?_) (fun c44 => ?_)
                        · refine T.seq ?_
                          refine T.region ?_
                          refine R.mvE rfl (by conv => lhs; whnf) ?_
                          refine R.mvE rfl (by conv => lhs; whnf) ?_
                          refine R.mvE rfl (by conv => lhs; whnf) ?_
                          refine R.mvE rfl (by conv => lhs; whnf) ?_
                          refine R.ixp Tryz.underlying24 Tryz.sizeOf3 rfl rfl rfl (by omega) ix3' ?_
                          refine R.ld Tryz.isAgg3 rfl rfl .hd (hcs3 0 _ rfl) ?_
                          refine R.ixp Tryz.underlying24 Tryz.sizeOf3 rfl rfl rfl (by omega) (by rw [← hcl]; exact ix5) ?_
                          refine R.stE (y := y2) Tryz.sizeOf3 rfl rfl hw .hd ix5 rfl rfl rfl ?_
                          intro c51 w51
                          refine TL.nil (Post.thnN ?_)
                          refine T.region ?_
                          refine R.mvE rfl (by conv => lhs; whnf) ?_
                          refine R.addI rfl rfl rfl (by omega) ?_
                          refine R.asE rfl (by conv => lhs; whnf) ?_
                          refine TL.nil (Post.blkN ?_)
                          refine id (Post.thnN ?_)
                          refine T.region ?_
                          refine R.mvE rfl (by conv => lhs; whnf) ?_
                          refine R.addI rfl rfl rfl (by omega) ?_
                          refine R.asE rfl (by conv => lhs; whnf) ?_
                          refine TL.nil (Post.thnN ?_)
                          -- round's end, way ny010yy11y
                          exact ⟨(i + 1, j + 1, cur.set i y2, c51), s_2, ⟨⟨by omega, by show k + (j + 1) ≤ _; omega, by show i + 1 + 1 ≤ k + (j + 1); omega, by rw [List.length_set]; exact hcl⟩, rfl, rfl, by rw [List.length_set]; exact w51, by rw [set_take (by omega), htk, hkj, compactI_take hz2 hy2', if_neg c44, hkj1], fun q hq => by rw [List.getElem?_set_ne (by omega)]; exact hrest q (by omega)⟩, by show xs.length - (k + (j + 1)) < xs.length - (k + j); omega, ⟨rfl, rfl, rfl, rfl, trivial⟩⟩
                        · refine T.skip (Post.blkN ?_)
                          refine id (Post.thnN ?_)
                          refine T.region ?_
                          refine R.mvE rfl (by conv => lhs; whnf) ?_
                          refine R.addI rfl rfl rfl (by omega) ?_
                          refine R.asE rfl (by conv => lhs; whnf) ?_
                          refine TL.nil (Post.thnN ?_)
                          -- round's end, way ny010yy11n
                          exact ⟨(i, j + 1, cur, [(b3, .cells cs3 3)]), s_2, ⟨⟨by omega, by show k + (j + 1) ≤ _; omega, by show i + 1 ≤ k + (j + 1); omega, hcl⟩, rfl, rfl, hw, by rw [htk, hkj, compactI_take hz2 hy2', if_pos (Decidable.of_not_not c44), hkj1], hrest⟩, by show xs.length - (k + (j + 1)) < xs.length - (k + j); omega, ⟨rfl, rfl, rfl, rfl, trivial⟩⟩
                  · have hje : k + j = xs.length := by omega
                    rw [hje, List.take_length] at htk
                    have hil : (cur.take i).length = i := by simp; omega
                    refine T.exit (Post.thnE (Post.thnE (Post.blkX ?_)))
                    refine id (Post.thnN ?_)
                    refine T.seq ?_
                    refine T.region ?_
                    refine R.mvE rfl (by conv => lhs; whnf) ?_
                    refine R.mvE rfl (by conv => lhs; whnf) ?_
                    refine R.sL Tryz.underlying24 Tryz.sizeOf3 rfl rfl rfl (by omega) (by omega) ?_
                    refine R.clr (dd := none) (xs := cur.take i) Tryz_ty24 (zone_of (z := .int .i64 0) (by kernel_rfl) (by intro v hv; have e0 : v = .int .i64 0 := (by simpa [Value.cells] using hv); subst e0; rfl)) rfl (fun q h => by cases h) (m := xs.length) (by rw [hil]; rfl) (by rw [hil]; exact own_take0 hw (by omega)) .hd (by omega) (by omega) ?_
                    intro c57 w57
                    refine TL.nil (Post.thnN ?_)
                    refine T.seq ?_
                    refine T.region ?_
                    refine R.mvE rfl (by conv => lhs; whnf) ?_
                    refine R.mvE rfl (by conv => lhs; whnf) ?_
                    refine R.sH Tryz.underlying24 Tryz.sizeOf3 rfl rfl rfl (by omega) (by omega) ?_
                    refine R.asE rfl (by conv => lhs; whnf) ?_
                    refine TL.nil (Post.thnN ?_)
                    refine T.ret (Post.blkR (Post.thnR (Post.thnR (Post.blkR (Post.thnR ?_)))))
                    -- way ny010yn
                    refine fin1L [c57] rfl rfl (List.Sublist.refl _) ⟨_, rfl, ?_⟩
                    show OwnS (intE .i64) 3 _ (slcV (.slice A xs.length cap) 0 i cap 1) (compactI xs) c57
                    rw [slc_take0, ← htk]
                    rw [hil] at w57
                    exact w57
              · refine T.skip (Post.blkN ?_)
                refine id (Post.thnN ?_)
                refine T.region ?_
                refine R.mvE rfl (by conv => lhs; whnf) ?_
                refine R.addI rfl rfl rfl (by omega) ?_
                refine R.asE rfl (by conv => lhs; whnf) ?_
                refine TL.nil (Post.thnN ?_)
                -- round's end, way ny010n
                exact ⟨k + 1, s_0, ⟨⟨by omega, by omega⟩, rfl, rfl, by rw [show k + 1 = (k - 1) + 2 by omega, compactI_take hz hy1, if_neg c25, show k - 1 + 1 = k by omega, hco, show k - 1 + 2 = k + 1 by omega, take_snoc _ _ _ hy]⟩, by omega, ⟨rfl, rfl, trivial⟩⟩
            · refine R.ld Tryz.isAgg3 rfl rfl .hd (hcs2 0 _ rfl) ?_
              refine TL.nil (Plan.e1 (HLe.refl _) ?_)
              refine Plan.s1 3 [9] (by kernel_rfl) (by kernel_rfl) rfl ?_
              refine R.ld Tryz.isAgg3 rfl rfl .hd (hcs1 0 _ rfl) ?_
              refine TL.nil (Plan.e1 (HLe.refl _) ?_)
              refine Plan.v 9 [] (by kernel_rfl) (by kernel_rfl) (by kernel_rfl) (by kernel_rfl) rfl (fun _ _ h_ => R.eql rfl rfl rfl (TL.nil h_)) ?_
              refine Plan.done (Post.thnN ?_)
              refine T.condD rfl (fun c25 => ?_) (fun c25 => ?_)
              · refine T.seq ?_
                refine T.region ?_
                refine R.mvE rfl (by conv => lhs; whnf) ?_
                refine R.mvE rfl (by conv => lhs; whnf) ?_
                refine R.sL Tryz.underlying24 Tryz.sizeOf3 rfl rfl rfl (by omega) (by omega) ?_
                refine R.asE rfl (by conv => lhs; whnf) ?_
                refine TL.nil (Post.thnN ?_)
                refine T.seq ?_
                refine T.seq ?_
                refine T.region ?_
                refine R.asE rfl (by conv => lhs; whnf) ?_
                refine TL.nil (Post.thnN ?_)
                refine T.block ?_
                refine T.loop (ι := Nat × Nat × List Int × Chunk) (fun ⟨i, j, cur, ch2⟩ H' L' ds' => (1 ≤ j ∧ k + j ≤ xs.length ∧ i + 1 ≤ k + j ∧ cur.length = xs.length) ∧ L' = [ch2] ∧ ds' = [] ∧ OwnS (intE .i64) 3 H' (.slice A cur.length cap) cur ch2 ∧ cur.take i = compactI (xs.take (k + j)) ∧ (∀ q, i ≤ q → cur[q]? = xs[q]?)) (fun ⟨i, j, cur, ch2⟩ => [(0, .slice A xs.length cap), (3, .int .i64 i), (4, slcV (.slice A xs.length cap) k xs.length cap 1), (5, .int .i64 j)]) (fun ⟨i, j, cur, ch2⟩ => xs.length - (k + j)) ((k, 1, xs, [(b1, .cells cs1 3)])) ?_ ?_ ?_
                · exact ⟨⟨by omega, by omega, by omega, rfl⟩, rfl, rfl, ho, by rw [hk2, compactI_take hz hy1, if_pos c25, show k - 1 + 1 = k by omega, hco], fun q hq => rfl⟩
                · exact ⟨rfl, rfl, rfl, rfl, trivial⟩
                · intro ⟨i, j, cur, ch2⟩ σ3 H_3 L_3 ds_3 s_3 hI_3
                  obtain ⟨⟨hj1, hj2, hij, hcl⟩, rfl, rfl, hw, htk, hrest⟩ := hI_3
                  refine T.seq ?_
                  refine T.seq ?_
                  refine T.region ?_
                  refine R.mvE rfl (by conv => lhs; whnf) ?_
                  refine R.mvE rfl (by conv => lhs; whnf) ?_
                  refine R.len Tryz.underlying24 rfl rfl ?_
                  refine R.lss rfl rfl rfl ?_
                  refine TL.nil (Post.thnN ?_)
                  refine T.condD rfl (fun c32 => ?_) (fun c32 => ?_)
                  · have hlt2 : k + j < xs.length := by omega
                    obtain ⟨y2, hy2⟩ := getk hlt2
                    obtain ⟨z2, hz2⟩ := getk (xs := xs) (k := k + j - 1) (by omega)
                    have hkj : k + (j + 1) = (k + j - 1) + 2 := by omega
                    have hkj1 : k + j - 1 + 1 = k + j := by omega
                    have hy2' : xs[k + j - 1 + 1]? = some y2 := by rw [hkj1]; exact hy2
                    have hcy : cur[k + j]? = some y2 := by rw [hrest _ (by omega)]; exact hy2
                    have hcz : cur[k + ((j : Int) - 1).toNat]? = some z2 := by rw [show k + ((j : Int) - 1).toNat = k + j - 1 by omega, hrest _ (by omega)]; exact hz2
                    obtain ⟨yi, hci⟩ := getk (xs := cur) (k := i) (by omega)
                    obtain ⟨b3, k3, cs3, l3, hce3, hve3, ix3, hR3, hcs3⟩ := hw.elem hcy
                    obtain rfl : l3 = [.int .i64 y2] := hR3
                    obtain ⟨b4, k4, cs4, l4, hce4, hve4, ix4, hR4, hcs4⟩ := hw.elem hcz
                    obtain rfl : l4 = [.int .i64 z2] := hR4
                    obtain ⟨b5, k5, cs5, l5, hce5, hve5, ix5, hR5, hcs5⟩ := hw.elem hci
                    subst hce3
                    obtain ⟨rfl, rfl⟩ : b3 = b4 ∧ cs3 = cs4 := by simpa using hce4
                    obtain ⟨rfl, rfl⟩ : b3 = b5 ∧ cs3 = cs5 := by simpa using hce5
                    obtain rfl : cap = k3 := by injection hve3
                    rw [hcl] at hve3
                    have ix3' := ix_off (sz := 1) (k := k) (i := j) hve3 (by omega) (by omega) (by omega)
                    have ix4' := ix_off (sz := 1) (k := k) (i := ((j : Int) - 1).toNat) hve3 (by omega) (by omega) (by omega)
                    refine T.skip (Post.thnN ?_)
                    refine T.seq ?_
                    refine T.block ?_
                    refine T.seq ?_
                    refine T.draw Tryz_mixed (by kernel_rfl) ?_
                    refine Plan.v 0 [1, 2, 3, 4, 5, 6, 7, 8, 9] (by kernel_rfl) (by kernel_rfl) (by kernel_rfl) (by kernel_rfl) rfl (fun _ _ h_ => R.mvE rfl (by conv => lhs; whnf) (TL.nil h_)) ?_
                    refine Plan.v 1 [2, 3, 4, 5, 6, 7, 8, 9] (by kernel_rfl) (by kernel_rfl) (by kernel_rfl) (by kernel_rfl) rfl (fun _ _ h_ => R.mvE rfl (by conv => lhs; whnf) (TL.nil h_)) ?_
                    refine Plan.v 4 [2, 3, 5, 6, 7, 8, 9] (by kernel_rfl) (by kernel_rfl) (by kernel_rfl) (by kernel_rfl) rfl (fun _ _ h_ => R.mvE rfl (by conv => lhs; whnf) (TL.nil h_)) ?_
                    refine Plan.v 5 [2, 3, 6, 7, 8, 9] (by kernel_rfl) (by kernel_rfl) (by kernel_rfl) (by kernel_rfl) rfl (fun _ _ h_ => R.mvE rfl (by conv => lhs; whnf) (TL.nil h_)) ?_
                    refine Plan.v 6 [2, 3, 7, 8, 9] (by kernel_rfl) (by kernel_rfl) (by kernel_rfl) (by kernel_rfl) rfl (fun _ _ h_ => R.subI rfl rfl rfl (by omega) (TL.nil h_)) ?_
                    refine Plan.s2 2 7 [3, 7, 8, 9] [2, 3, 8, 9] (by kernel_rfl) (by kernel_rfl) (by kernel_rfl) rfl rfl ?_ ?_
                    · refine R.ixp Tryz.underlying24 Tryz.sizeOf3 rfl rfl rfl (by omega) ix3' ?_
                      refine TL.nil (Plan.e1 (HLe.refl _) ?_)
                      refine Plan.s2 3 7 [7, 8, 9] [3, 8, 9] (by kernel_rfl) (by kernel_rfl) (by kernel_rfl) rfl rfl ?_ ?_
                      · refine R.ld Tryz.isAgg3 rfl rfl .hd (hcs3 0 _ rfl) ?_
                        refine TL.nil (Plan.e1 (HLe.refl _) ?_)
                        refine Plan.s1 7 [8, 9] (by kernel_rfl) (by kernel_rfl) rfl ?_
                        refine R.ixp Tryz.underlying24 Tryz.sizeOf3 rfl rfl rfl (by omega) ix4' ?_
                        refine TL.nil (Plan.e1 (HLe.refl _) ?_)
                        refine Plan.s1 8 [9] (by kernel_rfl) (by kernel_rfl) rfl ?_
                        refine R.ld Tryz.isAgg3 rfl rfl .hd (hcs4 0 _ rfl) ?_
                        refine TL.nil (Plan.e1 (HLe.refl _) ?_)
                        refine Plan.v 9 [] (by kernel_rfl) (by kernel_rfl) (by kernel_rfl) (by kernel_rfl) rfl (fun _ _ h_ => R.neq rfl rfl rfl (TL.nil h_)) ?_
                        refine Plan.done (Post.thnN ?_)
                        refine T.condD rfl (fun c44 => ?_) (fun c44 => ?_)
                        · refine T.seq ?_
                          refine T.region ?_
                          refine R.mvE rfl (by conv => lhs; whnf) ?_
                          refine R.mvE rfl (by conv => lhs; whnf) ?_
                          refine R.mvE rfl (by conv => lhs; whnf) ?_
                          refine R.mvE rfl (by conv => lhs; whnf) ?_
                          refine R.ixp Tryz.underlying24 Tryz.sizeOf3 rfl rfl rfl (by omega) ix3' ?_
                          refine R.ld Tryz.isAgg3 rfl rfl .hd (hcs3 0 _ rfl) ?_
                          refine R.ixp Tryz.underlying24 Tryz.sizeOf3 rfl rfl rfl (by omega) (by rw [← hcl]; exact ix5) ?_
                          refine R.stE (y := y2) Tryz.sizeOf3 rfl rfl hw .hd ix5 rfl rfl rfl ?_
                          intro c51 w51
                          refine TL.nil (Post.thnN ?_)
                          refine T.region ?_
                          refine R.mvE rfl (by conv => lhs; whnf) ?_
                          refine R.addI rfl rfl rfl (by omega) ?_
                          refine R.asE rfl (by conv => lhs; whnf) ?_
                          refine TL.nil (Post.blkN ?_)
                          refine id (Post.thnN ?_)
                          refine T.region ?_
                          refine R.mvE rfl (by conv => lhs; whnf) ?_
                          refine R.addI rfl rfl rfl (by omega) ?_
                          refine R.asE rfl (by conv => lhs; whnf) ?_
                          refine TL.nil (Post.thnN ?_)
                          -- round's end, way ny011yy00y
                          exact ⟨(i + 1, j + 1, cur.set i y2, c51), s_3, ⟨⟨by omega, by show k + (j + 1) ≤ _; omega, by show i + 1 + 1 ≤ k + (j + 1); omega, by rw [List.length_set]; exact hcl⟩, rfl, rfl, by rw [List.length_set]; exact w51, by rw [set_take (by omega), htk, hkj, compactI_take hz2 hy2', if_neg c44, hkj1], fun q hq => by rw [List.getElem?_set_ne (by omega)]; exact hrest q (by omega)⟩, by show xs.length - (k + (j + 1)) < xs.length - (k + j); omega, ⟨rfl, rfl, rfl, rfl, trivial⟩⟩
                        · refine T.skip (Post.blkN ?_)
                          refine id (Post.thnN ?_)
                          refine T.region ?_
                          refine R.mvE rfl (by conv => lhs; whnf) ?_
                          refine R.addI rfl rfl rfl (by omega) ?_
                          refine R.asE rfl (by conv => lhs; whnf) ?_
                          refine TL.nil (Post.thnN ?_)
                          -- round's end, way ny011yy00n
                          exact ⟨(i, j + 1, cur, [(b3, .cells cs3 3)]), s_3, ⟨⟨by omega, by show k + (j + 1) ≤ _; omega, by show i + 1 ≤ k + (j + 1); omega, hcl⟩, rfl, rfl, hw, by rw [htk, hkj, compactI_take hz2 hy2', if_pos (Decidable.of_not_not c44), hkj1], hrest⟩, by show xs.length - (k + (j + 1)) < xs.length - (k + j); omega, ⟨rfl, rfl, rfl, rfl, trivial⟩⟩
                      · refine R.ixp Tryz.underlying24 Tryz.sizeOf3 rfl rfl rfl (by omega) ix4' ?_
                        refine TL.nil (Plan.e1 (HLe.refl _) ?_)
                        refine Plan.s2 3 8 [8, 9] [3, 9] (by kernel_rfl) (by kernel_rfl) (by kernel_rfl) rfl rfl ?_ ?_
                        · refine R.ld Tryz.isAgg3 rfl rfl .hd (hcs3 0 _ rfl) ?_
                          refine TL.nil (Plan.e1 (HLe.refl _) ?_)
                          refine Plan.s1 8 [9] (by kernel_rfl) (by kernel_rfl) rfl ?_
                          refine R.ld Tryz.isAgg3 rfl rfl .hd (hcs4 0 _ rfl) ?_
                          refine TL.nil (Plan.e1 (HLe.refl _) ?_)
                          refine Plan.v 9 [] (by kernel_rfl) (by kernel_rfl) (by kernel_rfl) (by kernel_rfl) rfl (fun _ _ h_ => R.neq rfl rfl rfl (TL.nil h_)) ?_
                          refine Plan.done (Post.thnN ?_)
                          refine T.condD rfl (fun c44 => ?_) (fun c44 => ?_)
                          · refine T.seq ?_
                            refine T.region ?_
                            refine R.mvE rfl (by conv => lhs; whnf) ?_
                            refine R.mvE rfl (by conv => lhs; whnf) ?_
                            refine R.mvE rfl (by conv => lhs; whnf) ?_
                            refine R.mvE rfl (by conv => lhs; whnf) ?_
                            refine R.ixp Tryz.underlying24 Tryz.sizeOf3 rfl rfl rfl (by omega) ix3' ?_
                            refine R.ld Tryz.isAgg3 rfl rfl .hd (hcs3 0 _ rfl) ?_
                            refine R.ixp Tryz.underlying24 Tryz.sizeOf3 rfl rfl rfl (by omega) (by rw [← hcl]; exact ix5) ?_
                            refine R.stE (y := y2) Tryz.sizeOf3 rfl rfl hw .hd ix5 rfl rfl rfl ?_
                            intro c51 w51
                            refine TL.nil (Post.thnN ?_)
                            refine T.region ?_
                            refine R.mvE rfl (by conv => lhs; whnf) ?_
                            refine R.addI rfl rfl rfl (by omega) ?_
                            refine R.asE rfl (by conv => lhs; whnf) ?_
                            refine TL.nil (Post.blkN ?_)
                            refine id (Post.thnN ?_)
                            refine T.region ?_
                            refine R.mvE rfl (by conv => lhs; whnf) ?_
                            refine R.addI rfl rfl rfl (by omega) ?_
                            refine R.asE rfl (by conv => lhs; whnf) ?_
                            refine TL.nil (Post.thnN ?_)
                            -- round's end, way ny011yy010y
                            exact ⟨(i + 1, j + 1, cur.set i y2, c51), s_3, ⟨⟨by omega, by show k + (j + 1) ≤ _; omega, by show i + 1 + 1 ≤ k + (j + 1); omega, by rw [List.length_set]; exact hcl⟩, rfl, rfl, by rw [List.length_set]; exact w51, by rw [set_take (by omega), htk, hkj, compactI_take hz2 hy2', if_neg c44, hkj1], fun q hq => by rw [List.getElem?_set_ne (by omega)]; exact hrest q (by omega)⟩, by show xs.length - (k + (j + 1)) < xs.length - (k + j); omega, ⟨rfl, rfl, rfl, rfl, trivial⟩⟩
                          · refine T.skip (Post.blkN ?_)
                            refine id (Post.thnN ?_)
                            refine T.region ?_
                            refine R.mvE rfl (by conv => lhs; whnf) ?_
                            refine R.addI rfl rfl rfl (by omega) ?_
                            refine R.asE rfl (by conv => lhs; whnf) ?_
                            refine TL.nil (Post.thnN ?_)
                            -- round's end, way ny011yy010n
                            exact ⟨(i, j + 1, cur, [(b3, .cells cs3 3)]), s_3, ⟨⟨by omega, by show k + (j + 1) ≤ _; omega, by show i + 1 ≤ k + (j + 1); omega, hcl⟩, rfl, rfl, hw, by rw [htk, hkj, compactI_take hz2 hy2', if_pos (Decidable.of_not_not c44), hkj1], hrest⟩, by show xs.length - (k + (j + 1)) < xs.length - (k + j); omega, ⟨rfl, rfl, rfl, rfl, trivial⟩⟩
                        · refine R.ld Tryz.isAgg3 rfl rfl .hd (hcs4 0 _ rfl) ?_
                          refine TL.nil (Plan.e1 (HLe.refl _) ?_)
                          refine Plan.s1 3 [9] (by kernel_rfl) (by kernel_rfl) rfl ?_
                          refine R.ld Tryz.isAgg3 rfl rfl .hd (hcs3 0 _ rfl) ?_
                          refine TL.nil (Plan.e1 (HLe.refl _) ?_)
                          refine Plan.v 9 [] (by kernel_rfl) (by kernel_rfl) (by kernel_rfl) (by kernel_rfl) rfl (fun _ _ h_ => R.neq rfl rfl rfl (TL.nil h_)) ?_
                          refine Plan.done (Post.thnN ?_)
                          refine T.condD rfl (fun c44 => ?_) (fun c44 => ?_)
                          · refine T.seq ?_
                            refine T.region ?_
                            refine R.mvE rfl (by conv => lhs; whnf) ?_
                            refine R.mvE rfl (by conv => lhs; whnf) ?_
                            refine R.mvE rfl (by conv => lhs; whnf) ?_
                            refine R.mvE rfl (by conv => lhs; whnf) ?_
                            refine R.ixp Tryz.underlying24 Tryz.sizeOf3 rfl rfl rfl (by omega) ix3' ?_
                            refine R.ld Tryz.isAgg3 rfl rfl .hd (hcs3 0 _ rfl) ?_
                            refine R.ixp Tryz.underlying24 Tryz.sizeOf3 rfl rfl rfl (by omega) (by rw [← hcl]; exact ix5) ?_
                            refine R.stE (y := y2) Tryz.sizeOf3 rfl rfl hw .hd ix5 rfl rfl rfl ?_
                            intro c51 w51
                            refine TL.nil (Post.thnN ?_)
                            refine T.region ?_
                            refine R.mvE rfl (by conv => lhs; whnf) ?_
                            refine R.addI rfl rfl rfl (by omega) ?_
                            refine R.asE rfl (by conv => lhs; whnf) ?_
                            refine TL.nil (Post.blkN ?_)
                            refine id (Post.thnN ?_)
                            refine T.region ?_
                            refine R.mvE rfl (by conv => lhs; whnf) ?_
                            refine R.addI rfl rfl rfl (by omega) ?_
                            refine R.asE rfl (by conv => lhs; whnf) ?_
                            refine TL.nil (Post.thnN ?_)
                            -- round's end, way ny011yy011y
                            exact ⟨(i + 1, j + 1, cur.set i y2, c51), s_3, ⟨⟨by omega, by show k + (j + 1) ≤ _; omega, by show i + 1 + 1 ≤ k + (j + 1); omega, by rw [List.length_set]; exact hcl⟩, rfl, rfl, by rw [List.length_set]; exact w51, by rw [set_take (by omega), htk, hkj, compactI_take hz2 hy2', if_neg c44, hkj1], fun q hq => by rw [List.getElem?_set_ne (by omega)]; exact hrest q (by omega)⟩, by show xs.length - (k + (j + 1)) < xs.length - (k + j); omega, ⟨rfl, rfl, rfl, rfl, trivial⟩⟩
                          · refine T.skip (Post.blkN ?_)
                            refine id (Post.thnN ?_)
                            refine T.region ?_
                            refine R.mvE rfl (by conv => lhs; whnf) ?_
                            refine R.addI rfl rfl rfl (by omega) ?_
                            refine R.asE rfl (by conv => lhs; whnf) ?_
                            refine TL.nil (Post.thnN ?_)
                            -- round's end, way ny011yy011n
                            exact ⟨(i, j + 1, cur, [(b3, .cells cs3 3)]), s_3, ⟨⟨by omega, by show k + (j + 1) ≤ _; omega, by show i + 1 ≤ k + (j + 1); omega, hcl⟩, rfl, rfl, hw, by rw [htk, hkj, compactI_take hz2 hy2', if_pos (Decidable.of_not_not c44), hkj1], hrest⟩, by show xs.length - (k + (j + 1)) < xs.length - (k + j); omega, ⟨rfl, rfl, rfl, rfl, trivial⟩⟩
                    · refine R.ixp Tryz.underlying24 Tryz.sizeOf3 rfl rfl rfl (by omega) ix4' ?_
                      refine TL.nil (Plan.e1 (HLe.refl _) ?_)
                      refine Plan.s2 2 8 [3, 8, 9] [2, 3, 9] (by kernel_rfl) (by kernel_rfl) (by kernel_rfl) rfl rfl ?_ ?_
                      · refine R.ixp Tryz.underlying24 Tryz.sizeOf3 rfl rfl rfl (by omega) ix3' ?_
                        refine TL.nil (Plan.e1 (HLe.refl _) ?_)
                        refine Plan.s2 3 8 [8, 9] [3, 9] (by kernel_rfl) (by kernel_rfl) (by kernel_rfl) rfl rfl ?_ ?_
                        · refine R.ld Tryz.isAgg3 rfl rfl .hd (hcs3 0 _ rfl) ?_
                          refine TL.nil (Plan.e1 (HLe.refl _) ?_)
                          refine Plan.s1 8 [9] (by kernel_rfl) (by kernel_rfl) rfl ?_
                          refine R.ld Tryz.isAgg3 rfl rfl .hd (hcs4 0 _ rfl) ?_
                          refine TL.nil (Plan.e1 (HLe.refl _) ?_)
                          refine Plan.v 9 [] (by kernel_rfl) (by kernel_rfl) (by kernel_rfl) (by kernel_rfl) rfl (fun _ _ h_ => R.neq rfl rfl rfl (TL.nil h_)) ?_
                          refine Plan.done (Post.thnN ?_)
                          refine T.condD rfl (fun c44 => ?_) (fun c44 => ?_)
                          · refine T.seq ?_
                            refine T.region ?_
                            refine R.mvE rfl (by conv => lhs; whnf) ?_
                            refine R.mvE rfl (by conv => lhs; whnf) ?_
                            refine R.mvE rfl (by conv => lhs; whnf) ?_
                            refine R.mvE rfl (by conv => lhs; whnf) ?_
                            refine R.ixp Tryz.underlying24 Tryz.sizeOf3 rfl rfl rfl (by omega) ix3' ?_
                            refine R.ld Tryz.isAgg3 rfl rfl .hd (hcs3 0 _ rfl) ?_
                            refine R.ixp Tryz.underlying24 Tryz.sizeOf3 rfl rfl rfl (by omega) (by rw [← hcl]; exact ix5) ?_
                            refine R.stE (y := y2) Tryz.sizeOf3 rfl rfl hw .hd ix5 rfl rfl rfl ?_
                            intro c51 w51
                            refine TL.nil (Post.thnN ?_)
                            refine T.region ?_
                            refine R.mvE rfl (by conv => lhs; whnf) ?_
                            refine R.addI rfl rfl rfl (by omega) ?_
                            refine R.asE rfl (by conv => lhs; whnf) ?_
                            refine TL.nil (Post.blkN ?_)
                            refine id (Post.thnN ?_)
                            refine T.region ?_
                            refine R.mvE rfl (by conv => lhs; whnf) ?_
                            refine R.addI rfl rfl rfl (by omega) ?_
                            refine R.asE rfl (by conv => lhs; whnf) ?_
                            refine TL.nil (Post.thnN ?_)
                            -- round's end, way ny011yy100y
                            exact ⟨(i + 1, j + 1, cur.set i y2, c51), s_3, ⟨⟨by omega, by show k + (j + 1) ≤ _; omega, by show i + 1 + 1 ≤ k + (j + 1); omega, by rw [List.length_set]; exact hcl⟩, rfl, rfl, by rw [List.length_set]; exact w51, by rw [set_take (by omega), htk, hkj, compactI_take hz2 hy2', if_neg c44, hkj1], fun q hq => by rw [List.getElem?_set_ne (by omega)]; exact hrest q (by omega)⟩, by show xs.length - (k + (j + 1)) < xs.length - (k + j); omega, ⟨rfl, rfl, rfl, rfl, trivial⟩⟩
                          · refine T.skip (Post.blkN ?_)
                            refine id (Post.thnN ?_)
                            refine T.region ?_
                            refine R.mvE rfl (by conv => lhs; whnf) ?_
                            refine R.addI rfl rfl rfl (by omega) ?_
                            refine R.asE rfl (by conv => lhs; whnf) ?_
                            refine TL.nil (Post.thnN ?_)
                            -- round's end, way ny011yy100n
                            exact ⟨(i, j + 1, cur, [(b3, .cells cs3 3)]), s_3, ⟨⟨by omega, by show k + (j + 1) ≤ _; omega, by show i + 1 ≤ k + (j + 1); omega, hcl⟩, rfl, rfl, hw, by rw [htk, hkj, compactI_take hz2 hy2', if_pos (Decidable.of_not_not c44), hkj1], hrest⟩, by show xs.length - (k + (j + 1)) < xs.length - (k + j); omega, ⟨rfl, rfl, rfl, rfl, trivial⟩⟩
                        · refine R.ld Tryz.isAgg3 rfl rfl .hd (hcs4 0 _ rfl) ?_
                          refine TL.nil (Plan.e1 (HLe.refl _) ?_)
                          refine Plan.s1 3 [9] (by kernel_rfl) (by kernel_rfl) rfl ?_
                          refine R.ld Tryz.isAgg3 rfl rfl .hd (hcs3 0 _ rfl) ?_
                          refine TL.nil (Plan.e1 (HLe.refl _) ?_)
                          refine Plan.v 9 [] (by kernel_rfl) (by kernel_rfl) (by kernel_rfl) (by kernel_rfl) rfl (fun _ _ h_ => R.neq rfl rfl rfl (TL.nil h_)) ?_
                          refine Plan.done (Post.thnN ?_)
                          refine T.condD rfl (fun c44 => ?_) (fun c44 => ?_)
                          · refine T.seq ?_
                            refine T.region ?_
                            refine R.mvE rfl (by conv => lhs; whnf) ?_
                            refine R.mvE rfl (by conv => lhs; whnf) ?_
                            refine R.mvE rfl (by conv => lhs; whnf) ?_
                            refine R.mvE rfl (by conv => lhs; whnf) ?_
                            refine R.ixp Tryz.underlying24 Tryz.sizeOf3 rfl rfl rfl (by omega) ix3' ?_
                            refine R.ld Tryz.isAgg3 rfl rfl .hd (hcs3 0 _ rfl) ?_
                            refine R.ixp Tryz.underlying24 Tryz.sizeOf3 rfl rfl rfl (by omega) (by rw [← hcl]; exact ix5) ?_
                            refine R.stE (y := y2) Tryz.sizeOf3 rfl rfl hw .hd ix5 rfl rfl rfl ?_
                            intro c51 w51
                            refine TL.nil (Post.thnN ?_)
                            refine T.region ?_
                            refine R.mvE rfl (by conv => lhs; whnf) ?_
                            refine R.addI rfl rfl rfl (by omega) ?_
                            refine R.asE rfl (by conv => lhs; whnf) ?_
                            refine TL.nil (Post.blkN ?_)
                            refine id (Post.thnN ?_)
                            refine T.region ?_
                            refine R.mvE rfl (by conv => lhs; whnf) ?_
                            refine R.addI rfl rfl rfl (by omega) ?_
                            refine R.asE rfl (by conv => lhs; whnf) ?_
                            refine TL.nil (Post.thnN ?_)
                            -- round's end, way ny011yy101y
                            exact ⟨(i + 1, j + 1, cur.set i y2, c51), s_3, ⟨⟨by omega, by show k + (j + 1) ≤ _; omega, by show i + 1 + 1 ≤ k + (j + 1); omega, by rw [List.length_set]; exact hcl⟩, rfl, rfl, by rw [List.length_set]; exact w51, by rw [set_take (by omega), htk, hkj, compactI_take hz2 hy2', if_neg c44, hkj1], fun q hq => by rw [List.getElem?_set_ne (by omega)]; exact hrest q (by omega)⟩, by show xs.length - (k + (j + 1)) < xs.length - (k + j); omega, ⟨rfl, rfl, rfl, rfl, trivial⟩⟩
                          · refine T.skip (Post.blkN ?_)
                            refine id (Post.thnN ?_)
                            refine T.region ?_
                            refine R.mvE rfl (by conv => lhs; whnf) ?_
                            refine R.addI rfl rfl rfl (by omega) ?_
                            refine R.asE rfl (by conv => lhs; whnf) ?_
                            refine TL.nil (Post.thnN ?_)
                            -- round's end, way ny011yy101n
                            exact ⟨(i, j + 1, cur, [(b3, .cells cs3 3)]), s_3, ⟨⟨by omega, by show k + (j + 1) ≤ _; omega, by show i + 1 ≤ k + (j + 1); omega, hcl⟩, rfl, rfl, hw, by rw [htk, hkj, compactI_take hz2 hy2', if_pos (Decidable.of_not_not c44), hkj1], hrest⟩, by show xs.length - (k + (j + 1)) < xs.length - (k + j); omega, ⟨rfl, rfl, rfl, rfl, trivial⟩⟩
                      · refine R.ld Tryz.isAgg3 rfl rfl .hd (hcs4 0 _ rfl) ?_
                        refine TL.nil (Plan.e1 (HLe.refl _) ?_)
                        refine Plan.s1 2 [3, 9] (by kernel_rfl) (by kernel_rfl) rfl ?_
                        refine R.ixp Tryz.underlying24 Tryz.sizeOf3 rfl rfl rfl (by omega) ix3' ?_
                        refine TL.nil (Plan.e1 (HLe.refl _) ?_)
                        refine Plan.s1 3 [9] (by kernel_rfl) (by kernel_rfl) rfl ?_
                        refine R.ld Tryz.isAgg3 rfl rfl .hd (hcs3 0 _ rfl) ?_
                        refine TL.nil (Plan.e1 (HLe.refl _) ?_)
                        refine Plan.v 9 [] (by kernel_rfl) (by kernel_rfl) (by kernel_rfl) (by kernel_rfl) rfl (fun _ _ h_ => R.neq rfl rfl rfl (TL.nil h_)) ?_
                        refine Plan.done (Post.thnN ?_)
                        refine T.condD rfl (fun c44 => ?_) (fun c44 => ?_)
                        · refine T.seq ?_
                          refine T.region ?_
                          refine R.mvE rfl (by conv => lhs; whnf) ?_
                          refine R.mvE rfl (by conv => lhs; whnf) ?_
                          refine R.mvE rfl (by conv => lhs; whnf) ?_
                          refine R.mvE rfl (by conv => lhs; whnf) ?_
                          refine R.ixp Tryz.underlying24 Tryz.sizeOf3 rfl rfl rfl (by omega) ix3' ?_
                          refine R.ld Tryz.isAgg3 rfl rfl .hd (hcs3 0 _ rfl) ?_
                          refine R.ixp Tryz.underlying24 Tryz.sizeOf3 rfl rfl rfl (by omega) (by rw [← hcl]; exact ix5) ?_
                          refine R.stE (y := y2) Tryz.sizeOf3 rfl rfl hw .hd ix5 rfl rfl rfl ?_
                          intro c51 w51
                          refine TL.nil (Post.thnN ?_)
                          refine T.region ?_
                          refine R.mvE rfl (by conv => lhs; whnf) ?_
                          refine R.addI rfl rfl rfl (by omega) ?_
                          refine R.asE rfl (by conv => lhs; whnf) ?_
                          refine TL.nil (Post.blkN ?_)
                          refine id (Post.thnN ?_)
                          refine T.region ?_
                          refine R.mvE rfl (by conv => lhs; whnf) ?_
                          refine R.addI rfl rfl rfl (by omega) ?_
                          refine R.asE rfl (by conv => lhs; whnf) ?_
                          refine TL.nil (Post.thnN ?_)
                          -- round's end, way ny011yy11y
                          exact ⟨(i + 1, j + 1, cur.set i y2, c51), s_3, ⟨⟨by omega, by show k + (j + 1) ≤ _; omega, by show i + 1 + 1 ≤ k + (j + 1); omega, by rw [List.length_set]; exact hcl⟩, rfl, rfl, by rw [List.length_set]; exact w51, by rw [set_take (by omega), htk, hkj, compactI_take hz2 hy2', if_neg c44, hkj1], fun q hq => by rw [List.getElem?_set_ne (by omega)]; exact hrest q (by omega)⟩, by show xs.length - (k + (j + 1)) < xs.length - (k + j); omega, ⟨rfl, rfl, rfl, rfl, trivial⟩⟩
                        · refine T.skip (Post.blkN ?_)
                          refine id (Post.thnN ?_)
                          refine T.region ?_
                          refine R.mvE rfl (by conv => lhs; whnf) ?_
                          refine R.addI rfl rfl rfl (by omega) ?_
                          refine R.asE rfl (by conv => lhs; whnf) ?_
                          refine TL.nil (Post.thnN ?_)
                          -- round's end, way ny011yy11n
                          exact ⟨(i, j + 1, cur, [(b3, .cells cs3 3)]), s_3, ⟨⟨by omega, by show k + (j + 1) ≤ _; omega, by show i + 1 ≤ k + (j + 1); omega, hcl⟩, rfl, rfl, hw, by rw [htk, hkj, compactI_take hz2 hy2', if_pos (Decidable.of_not_not c44), hkj1], hrest⟩, by show xs.length - (k + (j + 1)) < xs.length - (k + j); omega, ⟨rfl, rfl, rfl, rfl, trivial⟩⟩
                  · have hje : k + j = xs.length := by omega
                    rw [hje, List.take_length] at htk
                    have hil : (cur.take i).length = i := by simp; omega
                    refine T.exit (Post.thnE (Post.thnE (Post.blkX ?_)))
                    refine id (Post.thnN ?_)
                    refine T.seq ?_
                    refine T.region ?_
                    refine R.mvE rfl (by conv => lhs; whnf) ?_
                    refine R.mvE rfl (by conv => lhs; whnf) ?_
                    refine R.sL Tryz.underlying24 Tryz.sizeOf3 rfl rfl rfl (by omega) (by omega) ?_
                    refine R.clr (dd := none) (xs := cur.take i) Tryz_ty24 (zone_of (z := .int .i64 0) (by kernel_rfl) (by intro v hv; have e0 : v = .int .i64 0 := (by simpa [Value.cells] using hv); subst e0; rfl)) rfl (fun q h => by cases h) (m := xs.length) (by rw [hil]; rfl) (by rw [hil]; exact own_take0 hw (by omega)) .hd (by omega) (by omega) ?_
                    intro c57 w57
                    refine TL.nil (Post.thnN ?_)
                    refine T.seq ?_
                    refine T.region ?_
                    refine R.mvE rfl (by conv => lhs; whnf) ?_
                    refine R.mvE rfl (by conv => lhs; whnf) ?_
                    refine R.sH Tryz.underlying24 Tryz.sizeOf3 rfl rfl rfl (by omega) (by omega) ?_
                    refine R.asE rfl (by conv => lhs; whnf) ?_
                    refine TL.nil (Post.thnN ?_)
                    refine T.ret (Post.blkR (Post.thnR (Post.thnR (Post.blkR (Post.thnR ?_)))))
                    -- way ny011yn
                    refine fin1L [c57] rfl rfl (List.Sublist.refl _) ⟨_, rfl, ?_⟩
                    show OwnS (intE .i64) 3 _ (slcV (.slice A xs.length cap) 0 i cap 1) (compactI xs) c57
                    rw [slc_take0, ← htk]
                    rw [hil] at w57
                    exact w57
              · refine T.skip (Post.blkN ?_)
                refine id (Post.thnN ?_)
                refine T.region ?_
                refine R.mvE rfl (by conv => lhs; whnf) ?_
                refine R.addI rfl rfl rfl (by omega) ?_
                refine R.asE rfl (by conv => lhs; whnf) ?_
                refine TL.nil (Post.thnN ?_)
                -- round's end, way ny011n
                exact ⟨k + 1, s_0, ⟨⟨by omega, by omega⟩, rfl, rfl, by rw [show k + 1 = (k - 1) + 2 by omega, compactI_take hz hy1, if_neg c25, show k - 1 + 1 = k by omega, hco, show k - 1 + 2 = k + 1 by omega, take_snoc _ _ _ hy]⟩, by omega, ⟨rfl, rfl, trivial⟩⟩
        · refine R.ixp Tryz.underlying24 Tryz.sizeOf3 rfl rfl rfl (by omega) ix2 ?_
          refine TL.nil (Plan.e1 (HLe.refl _) ?_)
          refine Plan.s2 2 8 [3, 8, 9] [2, 3, 9] (by kernel_rfl) (by kernel_rfl) (by kernel_rfl) rfl rfl ?_ ?_
          · refine R.ixp Tryz.underlying24 Tryz.sizeOf3 rfl rfl rfl (by omega) ix1 ?_
            refine TL.nil (Plan.e1 (HLe.refl _) ?_)
            refine Plan.s2 3 8 [8, 9] [3, 9] (by kernel_rfl) (by kernel_rfl) (by kernel_rfl) rfl rfl ?_ ?_
            · refine R.ld Tryz.isAgg3 rfl rfl .hd (hcs1 0 _ rfl) ?_
              refine TL.nil (Plan.e1 (HLe.refl _) ?_)
              refine Plan.s1 8 [9] (by kernel_rfl) (by kernel_rfl) rfl ?_
              refine R.ld Tryz.isAgg3 rfl rfl .hd (hcs2 0 _ rfl) ?_
              refine TL.nil (Plan.e1 (HLe.refl _) ?_)
              refine Plan.v 9 [] (by kernel_rfl) (by kernel_rfl) (by kernel_rfl) (by kernel_rfl) rfl (fun _ _ h_ => R.eql rfl rfl rfl (TL.nil h_)) ?_
              refine Plan.done (Post.thnN ?_)
              refine T.condD rfl (fun c25 => ?_) (fun c25 => ?_)
              · refine T.seq ?_
                refine T.region ?_
                refine R.mvE rfl (by conv => lhs; whnf) ?_
                refine R.mvE rfl (by conv => lhs; whnf) ?_
                refine R.sL Tryz.underlying24 Tryz.sizeOf3 rfl rfl rfl (by omega) (by omega) ?_
                refine R.asE rfl (by conv => lhs; whnf) ?_
                refine TL.nil (Post.thnN ?_)
                refine T.seq ?_
                refine T.seq ?_
                refine T.region ?_
                refine R.asE rfl (by conv => lhs; whnf) ?_
                refine TL.nil (Post.thnN ?_)
                refine T.block ?_
                refine T.loop (ι := Nat × Nat × List Int × Chunk) (fun ⟨i, j, cur, ch2⟩ H' L' ds' => (1 ≤ j ∧ k + j ≤ xs.length ∧ i + 1 ≤ k + j ∧ cur.length = xs.length) ∧ L' = [ch2] ∧ ds' = [] ∧ OwnS (intE .i64) 3 H' (.slice A cur.length cap) cur ch2 ∧ cur.take i = compactI (xs.take (k + j)) ∧ (∀ q, i ≤ q → cur[q]? = xs[q]?)) (fun ⟨i, j, cur, ch2⟩ => [(0, .slice A xs.length cap), (3, .int .i64 i), (4, slcV (.slice A xs.length cap) k xs.length cap 1), (5, .int .i64 j)]) (fun ⟨i, j, cur, ch2⟩ => xs.length - (k + j)) ((k, 1, xs, [(b1, .cells cs1 3)])) ?_ ?_ ?_
                · exact ⟨⟨by omega, by omega, by omega, rfl⟩, rfl, rfl, ho, by rw [hk2, compactI_take hz hy1, if_pos c25, show k - 1 + 1 = k by omega, hco], fun q hq => rfl⟩
                · exact ⟨rfl, rfl, rfl, rfl, trivial⟩
                · intro ⟨i, j, cur, ch2⟩ σ4 H_4 L_4 ds_4 s_4 hI_4
                  obtain ⟨⟨hj1, hj2, hij, hcl⟩, rfl, rfl, hw, htk, hrest⟩ := hI_4
                  refine T.seq ?_
                  refine T.seq ?_
                  refine T.region ?_
                  refine R.mvE rfl (by conv => lhs; whnf) ?_
                  refine R.mvE rfl (by conv => lhs; whnf) ?_
                  refine R.len Tryz.underlying24 rfl rfl ?_
                  refine R.lss rfl rfl rfl ?_
                  refine TL.nil (Post.thnN ?_)
                  refine T.condD rfl (fun c32 => ?_) (fun c32 => ?_)
                  · have hlt2 : k + j < xs.length := by omega
                    obtain ⟨y2, hy2⟩ := getk hlt2
                    obtain ⟨z2, hz2⟩ := getk (xs := xs) (k := k + j - 1) (by omega)
                    have hkj : k + (j + 1) = (k + j - 1) + 2 := by omega
                    have hkj1 : k + j - 1 + 1 = k + j := by omega
                    have hy2' : xs[k + j - 1 + 1]? = some y2 := by rw [hkj1]; exact hy2
                    have hcy : cur[k + j]? = some y2 := by rw [hrest _ (by omega)]; exact hy2
                    have hcz : cur[k + ((j : Int) - 1).toNat]? = some z2 := by rw [show k + ((j : Int) - 1).toNat = k + j - 1 by omega, hrest _ (by omega)]; exact hz2
                    obtain ⟨yi, hci⟩ := getk (xs := cur) (k := i) (by omega)
                    obtain ⟨b3, k3, cs3, l3, hce3, hve3, ix3, hR3, hcs3⟩ := hw.elem hcy
                    obtain rfl : l3 = [.int .i64 y2] := hR3
                    obtain ⟨b4, k4, cs4, l4, hce4, hve4, ix4, hR4, hcs4⟩ := hw.elem hcz
                    obtain rfl : l4 = [.int .i64 z2] := hR4
                    obtain ⟨b5, k5, cs5, l5, hce5, hve5, ix5, hR5, hcs5⟩ := hw.elem hci
                    subst hce3
                    obtain ⟨rfl, rfl⟩ : b3 = b4 ∧ cs3 = cs4 := by simpa using hce4
                    obtain ⟨rfl, rfl⟩ : b3 = b5 ∧ cs3 = cs5 := by simpa using hce5
                    obtain rfl : cap = k3 := by injection hve3
                    rw [hcl] at hve3
                    have ix3' := ix_off (sz := 1) (k := k) (i := j) hve3 (by omega) (by omega) (by omega)
                    have ix4' := ix_off (sz := 1) (k := k) (i := ((j : Int) - 1).toNat) hve3 (by omega) (by omega) (by omega)
                    refine T.skip (Post.thnN ?_)
                    refine T.seq ?_
                    refine T.block ?_
                    refine T.seq ?_
                    refine T.draw Tryz_mixed (by kernel_rfl) ?_
                    refine Plan.v 0 [1, 2, 3, 4, 5, 6, 7, 8, 9] (by kernel_rfl) (by kernel_rfl) (by kernel_rfl) (by kernel_rfl) rfl (fun _ _ h_ => R.mvE rfl (by conv => lhs; whnf) (TL.nil h_)) ?_
                    refine Plan.v 1 [2, 3, 4, 5, 6, 7, 8, 9] (by kernel_rfl) (by kernel_rfl) (by kernel_rfl) (by kernel_rfl) rfl (fun _ _ h_ => R.mvE rfl (by conv => lhs; whnf) (TL.nil h_)) ?_
                    refine Plan.v 4 [2, 3, 5, 6, 7, 8, 9] (by kernel_rfl) (by kernel_rfl) (by kernel_rfl) (by kernel_rfl) rfl (fun _ _ h_ => R.mvE rfl (by conv => lhs; whnf) (TL.nil h_)) ?_
                    refine Plan.v 5 [2, 3, 6, 7, 8, 9] (by kernel_rfl) (by kernel_rfl) (by kernel_rfl) (by kernel_rfl) rfl (fun _ _ h_ => R.mvE rfl (by conv => lhs; whnf) (TL.nil h_)) ?_
                    refine Plan.v 6 [2, 3, 7, 8, 9] (by kernel_rfl) (by kernel_rfl) (by kernel_rfl) (by kernel_rfl) rfl (fun _ _ h_ => R.subI rfl rfl rfl (by omega) (TL.nil h_)) ?_
                    refine Plan.s2 2 7 [3, 7, 8, 9] [2, 3, 8, 9] (by kernel_rfl) (by kernel_rfl) (by kernel_rfl) rfl rfl ?_ ?_
                    · refine R.ixp Tryz.underlying24 Tryz.sizeOf3 rfl rfl rfl (by omega) ix3' ?_
                      refine TL.nil (Plan.e1 (HLe.refl _) ?_)
                      refine Plan.s2 3 7 [7, 8, 9] [3, 8, 9] (by kernel_rfl) (by kernel_rfl) (by kernel_rfl) rfl rfl ?_ ?_
                      · refine R.ld Tryz.isAgg3 rfl rfl .hd (hcs3 0 _ rfl) ?_
                        refine TL.nil (Plan.e1 (HLe.refl _) ?_)
                        refine Plan.s1 7 [8, 9] (by kernel_rfl) (by kernel_rfl) rfl ?_
                        refine R.ixp Tryz.underlying24 Tryz.sizeOf3 rfl rfl rfl (by omega) ix4' ?_
                        refine TL.nil (Plan.e1 (HLe.refl _) ?_)
                        refine Plan.s1 8 [9] (by kernel_rfl) (by kernel_rfl) rfl ?_
                        refine R.ld Tryz.isAgg3 rfl rfl .hd (hcs4 0 _ rfl) ?_
                        refine TL.nil (Plan.e1 (HLe.refl _) ?_)
                        refine Plan.v 9 [] (by kernel_rfl) (by kernel_rfl) (by kernel_rfl) (by kernel_rfl) rfl (fun _ _ h_ => R.neq rfl rfl rfl (TL.nil h_)) ?_
                        refine Plan.done (Post.thnN ?_)
                        refine T.condD rfl (fun c44 => ?_) (fun c44 => ?_)
                        · refine T.seq ?_
                          refine T.region ?_
                          refine R.mvE rfl (by conv => lhs; whnf) ?_
                          refine R.mvE rfl (by conv => lhs; whnf) ?_
                          refine R.mvE rfl (by conv => lhs; whnf) ?_
                          refine R.mvE rfl (by conv => lhs; whnf) ?_
                          refine R.ixp Tryz.underlying24 Tryz.sizeOf3 rfl rfl rfl (by omega) ix3' ?_
                          refine R.ld Tryz.isAgg3 rfl rfl .hd (hcs3 0 _ rfl) ?_
                          refine R.ixp Tryz.underlying24 Tryz.sizeOf3 rfl rfl rfl (by omega) (by rw [← hcl]; exact ix5) ?_
                          refine R.stE (y := y2) Tryz.sizeOf3 rfl rfl hw .hd ix5 rfl rfl rfl ?_
                          intro c51 w51
                          refine TL.nil (Post.thnN ?_)
                          refine T.region ?_
                          refine R.mvE rfl (by conv => lhs; whnf) ?_
                          refine R.addI rfl rfl rfl (by omega) ?_
                          refine R.asE rfl (by conv => lhs; whnf) ?_
                          refine TL.nil (Post.blkN ?_)
                          refine id (Post.thnN ?_)
                          refine T.region ?_
                          refine R.mvE rfl (by conv => lhs; whnf) ?_
                          refine R.addI rfl rfl rfl (by omega) ?_
                          refine R.asE rfl (by conv => lhs; whnf) ?_
                          refine TL.nil (Post.thnN ?_)
                          -- round's end, way ny100yy00y
                          exact ⟨(i + 1, j + 1, cur.set i y2, c51), s_4, ⟨⟨by omega, by show k + (j + 1) ≤ _; omega, by show i + 1 + 1 ≤ k + (j + 1); omega, by rw [List.length_set]; exact hcl⟩, rfl, rfl, by rw [List.length_set]; exact w51, by rw [set_take (by omega), htk, hkj, compactI_take hz2 hy2', if_neg c44, hkj1], fun q hq => by rw [List.getElem?_set_ne (by omega)]; exact hrest q (by omega)⟩, by show xs.length - (k + (j + 1)) < xs.length - (k + j); omega, ⟨rfl, rfl, rfl, rfl, trivial⟩⟩
                        · refine T.skip (Post.blkN ?_)
                          refine id (Post.thnN ?_)
                          refine T.region ?_
                          refine R.mvE rfl (by conv => lhs; whnf) ?_
                          refine R.addI rfl rfl rfl (by omega) ?_
                          refine R.asE rfl (by conv => lhs; whnf) ?_
                          refine TL.nil (Post.thnN ?_)
                          -- round's end, way ny100yy00n
                          exact ⟨(i, j + 1, cur, [(b3, .cells cs3 3)]), s_4, ⟨⟨by omega, by show k + (j + 1) ≤ _; omega, by show i + 1 ≤ k + (j + 1); omega, hcl⟩, rfl, rfl, hw, by rw [htk, hkj, compactI_take hz2 hy2', if_pos (Decidable.of_not_not c44), hkj1], hrest⟩, by show xs.length - (k + (j + 1)) < xs.length - (k + j); omega, ⟨rfl, rfl, rfl, rfl, trivial⟩⟩
                      · refine R.ixp Tryz.underlying24 Tryz.sizeOf3 rfl rfl rfl (by omega) ix4' ?_
                        refine TL.nil (Plan.e1 (HLe.refl _) ?_)
                        refine Plan.s2 3 8 [8, 9] [3, 9] (by kernel_rfl) (by kernel_rfl) (by kernel_rfl) rfl rfl ?_ ?_
                        · refine R.ld Tryz.isAgg3 rfl rfl .hd (hcs3 0 _ rfl) ?_
                          refine TL.nil (Plan.e1 (HLe.refl _) ?_)
                          refine Plan.s1 8 [9] (by kernel_rfl) (by kernel_rfl) rfl ?_
                          refine R.ld Tryz.isAgg3 rfl rfl .hd (hcs4 0 _ rfl) ?_
                          refine TL.nil (Plan.e1 (HLe.refl _) ?_)
                          refine Plan.v 9 [] (by kernel_rfl) (by kernel_rfl) (by kernel_rfl) (by kernel_rfl) rfl (fun _ _ h_ => R.neq rfl rfl rfl (TL.nil h_)) ?_
                          refine Plan.done (Post.thnN ?_)
                          refine T.condD rfl (fun c44 => ?_) (fun c44 => ?_)
                          · refine T.seq ?_
                            refine T.region ?_
                            refine R.mvE rfl (by conv => lhs; whnf) ?_
                            refine R.mvE rfl (by conv => lhs; whnf) ?_
                            refine R.mvE rfl (by conv => lhs; whnf) ?_
                            refine R.mvE rfl (by conv => lhs; whnf) ?_
                            refine R.ixp Tryz.underlying24 Tryz.sizeOf3 rfl rfl rfl (by omega) ix3' ?_
                            refine R.ld Tryz.isAgg3 rfl rfl .hd (hcs3 0 _ rfl) ?_
                            refine R.ixp Tryz.underlying24 Tryz.sizeOf3 rfl rfl rfl (by omega) (by rw [← hcl]; exact ix5) ?_
                            refine R.stE (y := y2) Tryz.sizeOf3 rfl rfl hw .hd ix5 rfl rfl rfl ?_
                            intro c51 w51
                            refine TL.nil (Post.thnN ?_)
                            refine T.region ?_
                            refine R.mvE rfl (by conv => lhs; whnf) ?_
                            refine R.addI rfl rfl rfl (by omega) ?_
                            refine R.asE rfl (by conv => lhs; whnf) ?_
                            refine TL.nil (Post.blkN ?_)
                            refine id (Post.thnN ?_)
                            refine T.region ?_
                            refine R.mvE rfl (by conv => lhs; whnf) ?_
                            refine R.addI rfl rfl rfl (by omega) ?_
                            refine R.asE rfl (by conv => lhs; whnf) ?_
                            refine TL.nil (Post.thnN ?_)
                            -- round's end, way ny100yy010y
                            exact ⟨(i + 1, j + 1, cur.set i y2, c51), s_4, ⟨⟨by omega, by show k + (j + 1) ≤ _; omega, by show i + 1 + 1 ≤ k + (j + 1); omega, by rw [List.length_set]; exact hcl⟩, rfl, rfl, by rw [List.length_set]; exact w51, by rw [set_take (by omega), htk, hkj, compactI_take hz2 hy2', if_neg c44, hkj1], fun q hq => by rw [List.getElem?_set_ne (by omega)]; exact hrest q (by omega)⟩, by show xs.length - (k + (j + 1)) < xs.length - (k + j); omega, ⟨rfl, rfl, rfl, rfl, trivial⟩⟩
                          · refine T.skip (Post.blkN ?_)
                            refine id (Post.thnN ?_)
                            refine T.region ?_
                            refine R.mvE rfl (by conv => lhs; whnf) ?_
                            refine R.addI rfl rfl rfl (by omega) ?_
                            refine R.asE rfl (by conv => lhs; whnf) ?_
                            refine TL.nil (Post.thnN ?_)
                            -- round's end, way ny100yy010n
                            exact ⟨(i, j + 1, cur, [(b3, .cells cs3 3)]), s_4, ⟨⟨by omega, by show k + (j + 1) ≤ _; omega, by show i + 1 ≤ k + (j + 1); omega, hcl⟩, rfl, rfl, hw, by rw [htk, hkj, compactI_take hz2 hy2', if_pos (Decidable.of_not_not c44), hkj1], hrest⟩, by show xs.length - (k + (j + 1)) < xs.length - (k + j); omega, ⟨rfl, rfl, rfl, rfl, trivial⟩⟩
                        · refine R.ld Tryz.isAgg3 rfl rfl .hd (hcs4 0 _ rfl) ?_
                          refine TL.nil (Plan.e1 (HLe.refl _) ?_)
                          refine Plan.s1 3 [9] (by kernel_rfl) (by kernel_rfl) rfl ?_
                          refine R.ld Tryz.isAgg3 rfl rfl .hd (hcs3 0 _ rfl) ?_
                          refine TL.nil (Plan.e1 (HLe.refl _) ?_)
                          refine Plan.v 9 [] (by kernel_rfl) (by kernel_rfl) (by kernel_rfl) (by kernel_rfl) rfl (fun _ _ h_ => R.neq rfl rfl rfl (TL.nil h_)) ?_
                          refine Plan.done (Post.thnN ?_)
                          refine T.condD rfl (fun c44 => ?_) (fun c44 => ?_)
                          · refine T.seq ?_
                            refine T.region ?_
                            refine R.mvE rfl (by conv => lhs; whnf) ?_
                            refine R.mvE rfl (by conv => lhs; whnf) ?_
                            refine R.mvE rfl (by conv => lhs; whnf) ?_
                            refine R.mvE rfl (by conv => lhs; whnf) ?_
                            refine R.ixp Tryz.underlying24 Tryz.sizeOf3 rfl rfl rfl (by omega) ix3' ?_
                            refine R.ld Tryz.isAgg3 rfl rfl .hd (hcs3 0 _ rfl) ?_
                            refine R.ixp Tryz.underlying24 Tryz.sizeOf3 rfl rfl rfl (by omega) (by rw [← hcl]; exact ix5) ?_
                            refine R.stE (y := y2) Tryz.sizeOf3 rfl rfl hw .hd ix5 rfl rfl rfl ?_
                            intro c51 w51
                            refine TL.nil (Post.thnN ?_)
                            refine T.region ?_
                            refine R.mvE rfl (by conv => lhs; whnf) ?_
                            refine R.addI rfl rfl rfl (by omega) ?_
                            refine R.asE rfl (by conv => lhs; whnf) ?_
                            refine TL.nil (Post.blkN ?_)
                            refine id (Post.thnN ?_)
                            refine T.region ?_
                            refine R.mvE rfl (by conv => lhs; whnf) ?_
                            refine R.addI rfl rfl rfl (by omega) ?_
                            refine R.asE rfl (by conv => lhs; whnf) ?_
                            refine TL.nil (Post.thnN ?_)
                            -- round's end, way ny100yy011y
                            exact ⟨(i + 1, j + 1, cur.set i y2, c51), s_4, ⟨⟨by omega, by show k + (j + 1) ≤ _; omega, by show i + 1 + 1 ≤ k + (j + 1); omega, by rw [List.length_set]; exact hcl⟩, rfl, rfl, by rw [List.length_set]; exact w51, by rw [set_take (by omega), htk, hkj, compactI_take hz2 hy2', if_neg c44, hkj1], fun q hq => by rw [List.getElem?_set_ne (by omega)]; exact hrest q (by omega)⟩, by show xs.length - (k + (j + 1)) < xs.length - (k + j); omega, ⟨rfl, rfl, rfl, rfl, trivial⟩⟩
                          · refine T.skip (Post.blkN ?_)
                            refine id (Post.thnN ?_)
                            refine T.region ?_
                            refine R.mvE rfl (by conv => lhs; whnf) ?_
                            refine R.addI rfl rfl rfl (by omega) ?_
                            refine R.asE rfl (by conv => lhs; whnf) ?_
                            refine TL.nil (Post.thnN ?_)
                            -- round's end, way ny100yy011n
                            exact ⟨(i, j + 1, cur, [(b3, .cells cs3 3)]), s_4, ⟨⟨by omega, by show k + (j + 1) ≤ _; omega, by show i + 1 ≤ k + (j + 1); omega, hcl⟩, rfl, rfl, hw, by rw [htk, hkj, compactI_take hz2 hy2', if_pos (Decidable.of_not_not c44), hkj1], hrest⟩, by show xs.length - (k + (j + 1)) < xs.length - (k + j); omega, ⟨rfl, rfl, rfl, rfl, trivial⟩⟩
                    · refine R.ixp Tryz.underlying24 Tryz.sizeOf3 rfl rfl rfl (by omega) ix4' ?_
                      refine TL.nil (Plan.e1 (HLe.refl _) ?_)
                      refine Plan.s2 2 8 [3, 8, 9] [2, 3, 9] (by kernel_rfl) (by kernel_rfl) (by kernel_rfl) rfl rfl ?_ ?_
                      · refine R.ixp Tryz.underlying24 Tryz.sizeOf3 rfl rfl rfl (by omega) ix3' ?_
                        refine TL.nil (Plan.e1 (HLe.refl _) ?_)
                        refine Plan.s2 3 8 [8, 9] [3, 9] (by kernel_rfl) (by kernel_rfl) (by kernel_rfl) rfl rfl ?_ ?_
                        · refine R.ld Tryz.isAgg3 rfl rfl .hd (hcs3 0 _ rfl) ?_
                          refine TL.nil (Plan.e1 (HLe.refl _) ?_)
                          refine Plan.s1 8 [9] (by kernel_rfl) (by kernel_rfl) rfl ?_
                          refine R.ld Tryz.isAgg3 rfl rfl .hd (hcs4 0 _ rfl) ?_
                          refine TL.nil (Plan.e1 (HLe.refl _) ?_)
                          refine Plan.v 9 [] (by kernel_rfl) (by kernel_rfl) (by kernel_rfl) (by kernel_rfl) rfl (fun _ _ h_ => R.neq rfl rfl rfl (TL.nil h_)) ?_
                          refine Plan.done (Post.thnN ?_)
                          refine T.condD rfl (fun c44 => ?_) (fun c44 => ?_)
                          · refine T.seq ?_
                            refine T.region ?_
                            refine R.mvE rfl (by conv => lhs; whnf) ?_
                            refine R.mvE rfl (by conv => lhs; whnf) ?_
                            refine R.mvE rfl (by conv => lhs; whnf) ?_
                            refine R.mvE rfl (by conv => lhs; whnf) ?_
                            refine R.ixp Tryz.underlying24 Tryz.sizeOf3 rfl rfl rfl (by omega) ix3' ?_
                            refine R.ld Tryz.isAgg3 rfl rfl .hd (hcs3 0 _ rfl) ?_
                            refine R.ixp Tryz.underlying24 Tryz.sizeOf3 rfl rfl rfl (by omega) (by rw [← hcl]; exact ix5) ?_
                            refine R.stE (y := y2) Tryz.sizeOf3 rfl rfl hw .hd ix5 rfl rfl rfl ?_
                            intro c51 w51
                            refine TL.nil (Post.thnN ?_)
                            refine T.region ?_
                            refine R.mvE rfl (by conv => lhs; whnf) ?_
                            refine R.addI rfl rfl rfl (by omega) ?_
                            refine R.asE rfl (by conv => lhs; whnf) ?_
                            refine TL.nil (Post.blkN ?_)
                            refine id (Post.thnN ?_)
                            refine T.region ?_
                            refine R.mvE rfl (by conv => lhs; whnf) ?_
                            refine R.addI rfl rfl rfl (by omega) ?_
                            refine R.asE rfl (by conv => lhs; whnf) ?_
                            refine TL.nil (Post.thnN ?_)
                            -- round's end, way ny100yy100y
                            exact ⟨(i + 1, j + 1, cur.set i y2, c51), s_4, ⟨⟨by omega, by show k + (j + 1) ≤ _; omega, by show i + 1 + 1 ≤ k + (j + 1); omega, by rw [List.length_set]; exact hcl⟩, rfl, rfl, by rw [List.length_set]; exact w51, by rw [set_take (by omega), htk, hkj, compactI_take hz2 hy2', if_neg c44, hkj1], fun q hq => by rw [List.getElem?_set_ne (by omega)]; exact hrest q (by omega)⟩, by show xs.length - (k + (j + 1)) < xs.length - (k + j); omega, ⟨rfl, rfl, rfl, rfl, trivial⟩⟩
                          · refine T.skip (Post.blkN ?_)
                            refine id (Post.thnN ?_)
                            refine T.region ?_
                            refine R.mvE rfl (by conv => lhs; whnf) ?_
                            refine R.addI rfl rfl rfl (by omega) ?_
                            refine R.asE rfl (by conv => lhs; whnf) ?_
                            refine TL.nil (Post.thnN ?_)
                            -- round's end, way ny100yy100n
                            exact ⟨(i, j + 1, cur, [(b3, .cells cs3 3)]), s_4, ⟨⟨by omega, by show k + (j + 1) ≤ _; omega, by show i + 1 ≤ k + (j + 1); omega, hcl⟩, rfl, rfl, hw, by rw [htk, hkj, compactI_take hz2 hy2', if_pos (Decidable.of_not_not c44), hkj1], hrest⟩, by show xs.length - (k + (j + 1)) < xs.length - (k + j); omega, ⟨rfl, rfl, rfl, rfl, trivial⟩⟩
                        · refine R.ld Tryz.isAgg3 rfl rfl .hd (hcs4 0 _ rfl) ?_
                          refine TL.nil (Plan.e1 (HLe.refl _) ?_)
                          refine Plan.s1 3 [9] (by kernel_rfl) (by kernel_rfl) rfl ?_
                          refine R.ld Tryz.isAgg3 rfl rfl .hd (hcs3 0 _ rfl) ?_
                          refine TL.nil (Plan.e1 (HLe.refl _) ?_)
                          refine Plan.v 9 [] (by kernel_rfl) (by kernel_rfl) (by kernel_rfl) (by kernel_rfl) rfl (fun _ _ h_ => R.neq rfl rfl rfl (TL.nil h_)) ?_
                          refine Plan.done (Post.thnN ?_)
                          refine T.condD rfl (fun c44 => ?_) (fun c44 => ?_)
                          · refine T.seq ?_
                            refine T.region ?_
                            refine R.mvE rfl (by conv => lhs; whnf) ?_
                            refine R.mvE rfl (by conv => lhs; whnf) ?_
                            refine R.mvE rfl (by conv => lhs; whnf) ?_
                            refine R.mvE rfl (by conv => lhs; whnf) ?_
                            refine R.ixp Tryz.underlying24 Tryz.sizeOf3 rfl rfl rfl (by omega) ix3' ?_
                            refine R.ld Tryz.isAgg3 rfl rfl .hd (hcs3 0 _ rfl) ?_
                            refine R.ixp Tryz.underlying24 Tryz.sizeOf3 rfl rfl rfl (by omega) (by rw [← hcl]; exact ix5) ?_
                            refine R.stE (y := y2) Tryz.sizeOf3 rfl rfl hw .hd ix5 rfl rfl rfl ?_
                            intro c51 w51
                            refine TL.nil (Post.thnN ?_)
                            refine T.region ?_
                            refine R.mvE rfl (by conv => lhs; whnf) ?_
                            refine R.addI rfl rfl rfl (by omega) ?_
                            refine R.asE rfl (by conv => lhs; whnf) ?_
                            refine TL.nil (Post.blkN ?_)
                            refine id (Post.thnN ?_)
                            refine T.region ?_
                            refine R.mvE rfl (by conv => lhs; whnf) ?_
                            refine R.addI rfl rfl rfl (by omega) ?_
                            refine R.asE rfl (by conv => lhs; whnf) ?_
                            refine TL.nil (Post.thnN ?_)
                            -- round's end, way ny100yy101y
                            exact ⟨(i + 1, j + 1, cur.set i y2, c51), s_4, ⟨⟨by omega, by show k + (j + 1) ≤ _; omega, by show i + 1 + 1 ≤ k + (j + 1); omega, by rw [List.length_set]; exact hcl⟩, rfl, rfl, by rw [List.length_set]; exact w51, by rw [set_take (by omega), htk, hkj, compactI_take hz2 hy2', if_neg c44, hkj1], fun q hq => by rw [List.getElem?_set_ne (by omega)]; exact hrest q (by omega)⟩, by show xs.length - (k + (j + 1)) < xs.length - (k + j); omega, ⟨rfl, rfl, rfl, rfl, trivial⟩⟩
                          · refine T.skip (Post.blkN ?_)
                            refine id (Post.thnN ?_)
                            refine T.region ?_
                            refine R.mvE rfl (by conv => lhs; whnf) ?_
                            refine R.addI rfl rfl rfl (by omega) ?_
                            refine R.asE rfl (by conv => lhs; whnf) ?_
                            refine TL.nil (Post.thnN ?_)
                            -- round's end, way ny100yy101n
                            exact ⟨(i, j + 1, cur, [(b3, .cells cs3 3)]), s_4, ⟨⟨by omega, by show k + (j + 1) ≤ _; omega, by show i + 1 ≤ k + (j + 1); omega, hcl⟩, rfl, rfl, hw, by rw [htk, hkj, compactI_take hz2 hy2', if_pos (Decidable.of_not_not c44), hkj1], hrest⟩, by show xs.length - (k + (j + 1)) < xs.length - (k + j); omega, ⟨rfl, rfl, rfl, rfl, trivial⟩⟩
                      · refine R.ld Tryz.isAgg3 rfl rfl .hd (hcs4 0 _ rfl) ?_
                        refine TL.nil (Plan.e1 (HLe.refl _) ?_)
                        refine Plan.s1 2 [3, 9] (by kernel_rfl) (by kernel_rfl) rfl ?_
                        refine R.ixp Tryz.underlying24 Tryz.sizeOf3 rfl rfl rfl (by omega) ix3' ?_
                        refine TL.nil (Plan.e1 (HLe.refl _) ?_)
                        refine Plan.s1 3 [9] (by kernel_rfl) (by kernel_rfl) rfl ?_
                        refine R.ld Tryz.isAgg3 rfl rfl .hd (hcs3 0 _ rfl) ?_
                        refine TL.nil (Plan.e1 (HLe.refl _) ?_)
                        refine Plan.v 9 [] (by kernel_rfl) (by kernel_rfl) (by kernel_rfl) (by kernel_rfl) rfl (fun _ _ h_ => R.neq rfl rfl rfl (TL.nil h_)) ?_
                        refine Plan.done (Post.thnN ?_)
                        refine T.condD rfl (fun c44 => ?_) (fun c44 => ?_)
                        · refine T.seq ?_
                          refine T.region ?_
                          refine R.mvE rfl (by conv => lhs; whnf) ?_
                          refine R.mvE rfl (by conv => lhs; whnf) ?_
                          refine R.mvE rfl (by conv => lhs; whnf) ?_
                          refine R.mvE rfl (by conv => lhs; whnf) ?_
                          refine R.ixp Tryz.underlying24 Tryz.sizeOf3 rfl rfl rfl (by omega) ix3' ?_
                          refine R.ld Tryz.isAgg3 rfl rfl .hd (hcs3 0 _ rfl) ?_
                          refine R.ixp Tryz.underlying24 Tryz.sizeOf3 rfl rfl rfl (by omega) (by rw [← hcl]; exact ix5) ?_
                          refine R.stE (y := y2) Tryz.sizeOf3 rfl rfl hw .hd ix5 rfl rfl rfl ?_
                          intro c51 w51
                          refine TL.nil (Post.thnN ?_)
                          refine T.region ?_
                          refine R.mvE rfl (by conv => lhs; whnf) ?_
                          refine R.addI rfl rfl rfl (by omega) ?_
                          refine R.asE rfl (by conv => lhs; whnf) ?_
                          refine TL.nil (Post.blkN ?_)
                          refine id (Post.thnN ?_)
                          refine T.region ?_
                          refine R.mvE rfl (by conv => lhs; whnf) ?_
                          refine R.addI rfl rfl rfl (by omega) ?_
                          refine R.asE rfl (by conv => lhs; whnf) ?_
                          refine TL.nil (Post.thnN ?_)
                          -- round's end, way ny100yy11y
                          exact ⟨(i + 1, j + 1, cur.set i y2, c51), s_4, ⟨⟨by omega, by show k + (j + 1) ≤ _; omega, by show i + 1 + 1 ≤ k + (j + 1); omega, by rw [List.length_set]; exact hcl⟩, rfl, rfl, by rw [List.length_set]; exact w51, by rw [set_take (by omega), htk, hkj, compactI_take hz2 hy2', if_neg c44, hkj1], fun q hq => by rw [List.getElem?_set_ne (by omega)]; exact hrest q (by omega)⟩, by show xs.length - (k + (j + 1)) < xs.length - (k + j); omega, ⟨rfl, rfl, rfl, rfl, trivial⟩⟩
                        · refine T.skip (Post.blkN ?_)
                          refine id (Post.thnN ?_)
                          refine T.region ?_
                          refine R.mvE rfl (by conv => lhs; whnf) ?_
                          refine R.addI rfl rfl rfl (by omega) ?_
                          refine R.asE rfl (by conv => lhs; whnf) ?_
                          refine TL.nil (Post.thnN ?_)
                          -- round's end, way ny100yy11n
                          exact ⟨(i, j + 1, cur, [(b3, .cells cs3 3)]), s_4, ⟨⟨by omega, by show k + (j + 1) ≤ _; omega, by show i + 1 ≤ k + (j + 1); omega, hcl⟩, rfl, rfl, hw, by rw [htk, hkj, compactI_take hz2 hy2', if_pos (Decidable.of_not_not c44), hkj1], hrest⟩, by show xs.length - (k + (j + 1)) < xs.length - (k + j); omega, ⟨rfl, rfl, rfl, rfl, trivial⟩⟩
                  · have hje : k + j = xs.length := by omega
                    rw [hje, List.take_length] at htk
                    have hil : (cur.take i).length = i := by simp; omega
                    refine T.exit (Post.thnE (Post.thnE (Post.blkX ?_)))
                    refine id (Post.thnN ?_)
                    refine T.seq ?_
                    refine T.region ?_
                    refine R.mvE rfl (by conv => lhs; whnf) ?_
                    refine R.mvE rfl (by conv => lhs; whnf) ?_
                    refine R.sL Tryz.underlying24 Tryz.sizeOf3 rfl rfl rfl (by omega) (by omega) ?_
                    refine R.clr (dd := none) (xs := cur.take i) Tryz_ty24 (zone_of (z := .int .i64 0) (by kernel_rfl) (by intro v hv; have e0 : v = .int .i64 0 := (by simpa [Value.cells] using hv); subst e0; rfl)) rfl (fun q h => by cases h) (m := xs.length) (by rw [hil]; rfl) (by rw [hil]; exact own_take0 hw (by omega)) .hd (by omega) (by omega) ?_
                    intro c57 w57
                    refine TL.nil (Post.thnN ?_)
                    refine T.seq ?_
                    refine T.region ?_
                    refine R.mvE rfl (by conv => lhs; whnf) ?_
                    refine R.mvE rfl (by conv => lhs; whnf) ?_
                    refine R.sH Tryz.underlying24 Tryz.sizeOf3 rfl rfl rfl (by omega) (by omega) ?_
                    refine R.asE rfl (by conv => lhs; whnf) ?_
                    refine TL.nil (Post.thnN ?_)
                    refine T.ret (Post.blkR (Post.thnR (Post.thnR (Post.blkR (Post.thnR ?_)))))
                    -- way ny100yn
                    refine fin1L [c57] rfl rfl (List.Sublist.refl _) ⟨_, rfl, ?_⟩
                    show OwnS (intE .i64) 3 _ (slcV (.slice A xs.length cap) 0 i cap 1) (compactI xs) c57
                    rw [slc_take0, ← htk]
                    rw [hil] at w57
                    exact w57
              · refine T.skip (Post.blkN ?_)
                refine id (Post.thnN ?_)
                refine T.region ?_
                refine R.mvE rfl (by conv => lhs; whnf) ?_
                refine R.addI rfl rfl rfl (by omega) ?_
                refine R.asE rfl (by conv => lhs; whnf) ?_
                refine TL.nil (Post.thnN ?_)
                -- round's end, way ny100n
                exact ⟨k + 1, s_0, ⟨⟨by omega, by omega⟩, rfl, rfl, by rw [show k + 1 = (k - 1) + 2 by omega, compactI_take hz hy1, if_neg c25, show k - 1 + 1 = k by omega, hco, show k - 1 + 2 = k + 1 by omega, take_snoc _ _ _ hy]⟩, by omega, ⟨rfl, rfl, trivial⟩⟩
            · refine R.ld Tryz.isAgg3 rfl rfl .hd (hcs2 0 _ rfl) ?_
              refine TL.nil (Plan.e1 (HLe.refl _) ?_)
              refine Plan.s1 3 [9] (by kernel_rfl) (by kernel_rfl) rfl ?_
              refine R.ld Tryz.isAgg3 rfl rfl .hd (hcs1 0 _ rfl) ?_
              refine TL.nil (Plan.e1 (HLe.refl _) ?_)
              refine Plan.v 9 [] (by kernel_rfl) (by kernel_rfl) (by kernel_rfl) (by kernel_rfl) rfl (fun _ _ h_ => R.eql rfl rfl rfl (TL.nil h_)) ?_
              refine Plan.done (Post.thnN ?_)
              refine T.condD rfl (fun c25 => ?_) (fun c25 => ?_)
              · refine T.seq ?_
                refine T.region ?_
                refine R.mvE rfl (by conv => lhs; whnf) ?_
                refine R.mvE rfl (by conv => lhs; whnf) ?_
                refine R.sL Tryz.underlying24 Tryz.sizeOf3 rfl rfl rfl (by omega) (by omega) ?_
                refine R.asE rfl (by conv => lhs; whnf) ?_
                refine TL.nil (Post.thnN ?_)
                refine T.seq ?_
                refine T.seq ?_
                refine T.region ?_
                refine R.asE rfl (by conv => lhs; whnf) ?_
                refine TL.nil (Post.thnN ?_)
                refine T.block ?_
                refine T.loop (ι := Nat × Nat × List Int × Chunk) (fun ⟨i, j, cur, ch2⟩ H' L' ds' => (1 ≤ j ∧ k + j ≤ xs.length ∧ i + 1 ≤ k + j ∧ cur.length = xs.length) ∧ L' = [ch2] ∧ ds' = [] ∧ OwnS (intE .i64) 3 H' (.slice A cur.length cap) cur ch2 ∧ cur.take i = compactI (xs.take (k + j)) ∧ (∀ q, i ≤ q → cur[q]? = xs[q]?)) (fun ⟨i, j, cur, ch2⟩ => [(0, .slice A xs.length cap), (3, .int .i64 i), (4, slcV (.slice A xs.length cap) k xs.length cap 1), (5, .int .i64 j)]) (fun ⟨i, j, cur, ch2⟩ => xs.length - (k + j)) ((k, 1, xs, [(b1, .cells cs1 3)])) ?_ ?_ ?_
                · exact ⟨⟨by omega, by omega, by omega, rfl⟩, rfl, rfl, ho, by rw [hk2, compactI_take hz hy1, if_pos c25, show k - 1 + 1 = k by omega, hco], fun q hq => rfl⟩
                · exact ⟨rfl, rfl, rfl, rfl, trivial⟩
                · intro ⟨i, j, cur, ch2⟩ σ5 H_5 L_5 ds_5 s_5 hI_5
                  obtain ⟨⟨hj1, hj2, hij, hcl⟩, rfl, rfl, hw, htk, hrest⟩ := hI_5
                  refine T.seq ?_
                  refine T.seq ?_
                  refine T.region ?_
                  refine R.mvE rfl (by conv => lhs; whnf) ?_
                  refine R.mvE rfl (by conv => lhs; whnf) ?_
                  refine R.len Tryz.underlying24 rfl rfl ?_
                  refine R.lss rfl rfl rfl ?_
                  refine TL.nil (Post.thnN ?_)
                  refine T.condD rfl (fun c32 => ?_) (fun c32 => ?_)
                  · have hlt2 : k + j < xs.length := by omega
                    obtain ⟨y2, hy2⟩ := getk hlt2
                    obtain ⟨z2, hz2⟩ := getk (xs := xs) (k := k + j - 1) (by omega)
                    have hkj : k + (j + 1) = (k + j - 1) + 2 := by omega
                    have hkj1 : k + j - 1 + 1 = k + j := by omega
                    have hy2' : xs[k + j - 1 + 1]? = some y2 := by rw [hkj1]; exact hy2
                    have hcy : cur[k + j]? = some y2 := by rw [hrest _ (by omega)]; exact hy2
                    have hcz : cur[k + ((j : Int) - 1).toNat]? = some z2 := by rw [show k + ((j : Int) - 1).toNat = k + j - 1 by omega, hrest _ (by omega)]; exact hz2
                    obtain ⟨yi, hci⟩ := getk (xs := cur) (k := i) (by omega)
                    obtain ⟨b3, k3, cs3, l3, hce3, hve3, ix3, hR3, hcs3⟩ := hw.elem hcy
                    obtain rfl : l3 = [.int .i64 y2] := hR3
                    obtain ⟨b4, k4, cs4, l4, hce4, hve4, ix4, hR4, hcs4⟩ := hw.elem hcz
                    obtain rfl : l4 = [.int .i64 z2] := hR4
                    obtain ⟨b5, k5, cs5, l5, hce5, hve5, ix5, hR5, hcs5⟩ := hw.elem hci
                    subst hce3
                    obtain ⟨rfl, rfl⟩ : b3 = b4 ∧ cs3 = cs4 := by simpa using hce4
                    obtain ⟨rfl, rfl⟩ : b3 = b5 ∧ cs3 = cs5 := by simpa using hce5
                    obtain rfl : cap = k3 := by injection hve3
                    rw [hcl] at hve3
                    have ix3' := ix_off (sz := 1) (k := k) (i := j) hve3 (by omega) (by omega) (by omega)
                    have ix4' := ix_off (sz := 1) (k := k) (i := ((j : Int) - 1).toNat) hve3 (by omega) (by omega) (by omega)
                    refine T.skip (Post.thnN ?_)
                    refine T.seq ?_
                    refine T.block ?_
                    refine T.seq ?_
                    refine T.draw Tryz_mixed (by kernel_rfl) ?_
                    refine Plan.v 0 [1, 2, 3, 4, 5, 6, 7, 8, 9] (by kernel_rfl) (by kernel_rfl) (by kernel_rfl) (by kernel_rfl) rfl (fun _ _ h_ => R.mvE rfl (by conv => lhs; whnf) (TL.nil h_)) ?_
                    refine Plan.v 1 [2, 3, 4, 5, 6, 7, 8, 9] (by kernel_rfl) (by kernel_rfl) (by kernel_rfl) (by kernel_rfl) rfl (fun _ _ h_ => R.mvE rfl (by conv => lhs; whnf) (TL.nil h_)) ?_
                    refine Plan.v 4 [2, 3, 5, 6, 7, 8, 9] (by kernel_rfl) (by kernel_rfl) (by kernel_rfl) (by kernel_rfl) rfl (fun _ _ h_ => R.mvE rfl (by conv => lhs; whnf) (TL.nil h_)) ?_
                    refine Plan.v 5 [2, 3, 6, 7, 8, 9] (by kernel_rfl) (by kernel_rfl) (by kernel_rfl) (by kernel_rfl) rfl (fun _ _ h_ => R.mvE rfl (by conv => lhs; whnf) (TL.nil h_)) ?_
                    refine Plan.v 6 [2, 3, 7, 8, 9] (by kernel_rfl) (by kernel_rfl) (by kernel_rfl) (by kernel_rfl) rfl (fun _ _ h_ => R.subI rfl rfl rfl (by omega) (TL.nil h_)) ?_
                    refine Plan.s2 2 7 [3, 7, 8, 9] [2, 3, 8, 9] (by kernel_rfl) (by kernel_rfl) (by kernel_rfl) rfl rfl ?_ ?_
                    · refine R.ixp Tryz.underlying24 Tryz.sizeOf3 rfl rfl rfl (by omega) ix3' ?_
                      refine TL.nil (Plan.e1 (HLe.refl _) ?_)
                      refine Plan.s2 3 7 [7, 8, 9] [3, 8, 9] (by kernel_rfl) (by kernel_rfl) (by kernel_rfl) rfl rfl ?_ ?_
                      · refine R.ld Tryz.isAgg3 rfl rfl .hd (hcs3 0 _ rfl) ?_
                        refine TL.nil (Plan.e1 (HLe.refl _) ?_)
                        refine Plan.s1 7 [8, 9] (by kernel_rfl) (by kernel_rfl) rfl ?_
                        refine R.ixp Tryz.underlying24 Tryz.sizeOf3 rfl rfl rfl (by omega) ix4' ?_
                        refine TL.nil (Plan.e1 (HLe.refl _) ?_)
                        refine Plan.s1 8 [9] (by kernel_rfl) (by kernel_rfl) rfl ?_
                        refine R.ld Tryz.isAgg3 rfl rfl .hd (hcs4 0 _ rfl) ?_
                        refine TL.nil (Plan.e1 (HLe.refl _) ?_)
                        refine Plan.v 9 [] (by kernel_rfl) (by kernel_rfl) (by kernel_rfl) (by kernel_rfl) rfl (fun _ _ h_ => R.neq rfl rfl rfl (TL.nil h_)) ?_
                        refine Plan.done (Post.thnN ?_)
                        refine T.condD rfl (fun c44 => ?_) (fun c44 => ?_)
                        · refine T.seq ?_
                          refine T.region ?_
                          refine R.mvE rfl (by conv => lhs; whnf) ?_
                          refine R.mvE rfl (by conv => lhs; whnf) ?_
                          refine R.mvE rfl (by conv => lhs; whnf) ?_
                          refine R.mvE rfl (by conv => lhs; whnf) ?_
                          refine R.ixp Tryz.underlying24 Tryz.sizeOf3 rfl rfl rfl (by omega) ix3' ?_
                          refine R.ld Tryz.isAgg3 rfl rfl .hd (hcs3 0 _ rfl) ?_
                          refine R.ixp Tryz.underlying24 Tryz.sizeOf3 rfl rfl rfl (by omega) (by rw [← hcl]; exact ix5) ?_
                          refine R.stE (y := y2) Tryz.sizeOf3 rfl rfl hw .hd ix5 rfl rfl rfl ?_
                          intro c51 w51
                          refine TL.nil (Post.thnN ?_)
                          refine T.region ?_
                          refine R.mvE rfl (by conv => lhs; whnf) ?_
                          refine R.addI rfl rfl rfl (by omega) ?_
                          refine R.asE rfl (by conv => lhs; whnf) ?_
                          refine TL.nil (Post.blkN ?_)
                          refine id (Post.thnN ?_)
                          refine T.region ?_
                          refine R.mvE rfl (by conv => lhs; whnf) ?_
                          refine R.addI rfl rfl rfl (by omega) ?_
                          refine R.asE rfl (by conv => lhs; whnf) ?_
                          refine TL.nil (Post.thnN ?_)
                          -- round's end, way ny101yy00y
                          exact ⟨(i + 1, j + 1, cur.set i y2, c51), s_5, ⟨⟨by omega, by show k + (j + 1) ≤ _; omega, by show i + 1 + 1 ≤ k + (j + 1); omega, by rw [List.length_set]; exact hcl⟩, rfl, rfl, by rw [List.length_set]; exact w51, by rw [set_take (by omega), htk, hkj, compactI_take hz2 hy2', if_neg c44, hkj1], fun q hq => by rw [List.getElem?_set_ne (by omega)]; exact hrest q (by omega)⟩, by show xs.length - (k + (j + 1)) < xs.length - (k + j); omega, ⟨rfl, rfl, rfl, rfl, trivial⟩⟩
                        · refine T.skip (Post.blkN ?_)
                          refine id (Post.thnN ?_)
                          refine T.region ?_
                          refine R.mvE rfl (by conv => lhs; whnf) ?_
                          refine R.addI rfl rfl rfl (by omega) ?_
                          refine R.asE rfl (by conv => lhs; whnf) ?_
                          refine TL.nil (Post.thnN ?_)
                          -- round's end, way ny101yy00n
                          exact ⟨(i, j + 1, cur, [(b3, .cells cs3 3)]), s_5, ⟨⟨by omega, by show k + (j + 1) ≤ _; omega, by show i + 1 ≤ k + (j + 1); omega, hcl⟩, rfl, rfl, hw, by rw [htk, hkj, compactI_take hz2 hy2', if_pos (Decidable.of_not_not c44), hkj1], hrest⟩, by show xs.length - (k + (j + 1)) < xs.length - (k + j); omega, ⟨rfl, rfl, rfl, rfl, trivial⟩⟩
                      · refine R.ixp Tryz.underlying24 Tryz.sizeOf3 rfl rfl rfl (by omega) ix4' ?_
                        refine TL.nil (Plan.e1 (HLe.refl _) ?_)
                        refine Plan.s2 3 8 [8, 9] [3, 9] (by kernel_rfl) (by kernel_rfl) (by kernel_rfl) rfl rfl ?_ ?_
                        · refine R.ld Tryz.isAgg3 rfl rfl .hd (hcs3 0 _ rfl) ?_
                          refine TL.nil (Plan.e1 (HLe.refl _) ?_)
                          refine Plan.s1 8 [9] (by kernel_rfl) (by kernel_rfl) rfl ?_
                          refine R.ld Tryz.isAgg3 rfl rfl .hd (hcs4 0 _ rfl) ?_
                          refine TL.nil (Plan.e1 (HLe.refl _) ?_)
                          refine Plan.v 9 [] (by kernel_rfl) (by kernel_rfl) (by kernel_rfl) (by kernel_rfl) rfl (fun _ _ h_ => R.neq rfl rfl rfl (TL.nil h_)) ?_
                          refine Plan.done (Post.thnN ?_)
                          refine T.condD rfl (fun c44 => ?_) (fun c44 => ?_)
                          · refine T.seq ?_
                            refine T.region ?_
                            refine R.mvE rfl (by conv => lhs; whnf) ?_
                            refine R.mvE rfl (by conv => lhs; whnf) ?_
                            refine R.mvE rfl (by conv => lhs; whnf) ?_
                            refine R.mvE rfl (by conv => lhs; whnf) ?_
                            refine R.ixp Tryz.underlying24 Tryz.sizeOf3 rfl rfl rfl (by omega) ix3' ?_
                            refine R.ld Tryz.isAgg3 rfl rfl .hd (hcs3 0 _ rfl) ?_
                            refine R.ixp Tryz.underlying24 Tryz.sizeOf3 rfl rfl rfl (by omega) (by rw [← hcl]; exact ix5) ?_
                            refine R.stE (y := y2) Tryz.sizeOf3 rfl rfl hw .hd ix5 rfl rfl rfl ?_
                            intro c51 w51
                            refine TL.nil (Post.thnN ?_)
                            refine T.region ?_
                            refine R.mvE rfl (by conv => lhs; whnf) ?_
                            refine R.addI rfl rfl rfl (by omega) ?_
                            refine R.asE rfl (by conv => lhs; whnf) ?_
                            refine TL.nil (Post.blkN ?_)
                            refine id (Post.thnN ?_)
                            refine T.region ?_
                            refine R.mvE rfl (by conv => lhs; whnf) ?_
                            refine R.addI rfl rfl rfl (by omega) ?_
                            refine R.asE rfl (by conv => lhs; whnf) ?_
                            refine TL.nil (Post.thnN ?_)
                            -- round's end, way ny101yy010y
                            exact ⟨(i + 1, j + 1, cur.set i y2, c51), s_5, ⟨⟨by omega, by show k + (j + 1) ≤ _; omega, by show i + 1 + 1 ≤ k + (j + 1); omega, by rw [List.length_set]; exact hcl⟩, rfl, rfl, by rw [List.length_set]; exact w51, by rw [set_take (by omega), htk, hkj, compactI_take hz2 hy2', if_neg c44, hkj1], fun q hq => by rw [List.getElem?_set_ne (by omega)]; exact hrest q (by omega)⟩, by show xs.length - (k + (j + 1)) < xs.length - (k + j); omega, ⟨rfl, rfl, rfl, rfl, trivial⟩⟩
                          · refine T.skip (Post.blkN ?_)
                            refine id (Post.thnN ?_)
                            refine T.region ?_
                            refine R.mvE rfl (by conv => lhs; whnf) ?_
                            refine R.addI rfl rfl rfl (by omega) ?_
                            refine R.asE rfl (by conv => lhs; whnf) ?_
                            refine TL.nil (Post.thnN ?_)
                            -- round's end, way ny101yy010n
                            exact ⟨(i, j + 1, cur, [(b3, .cells cs3 3)]), s_5, ⟨⟨by omega, by show k + (j + 1) ≤ _; omega, by show i + 1 ≤ k + (j + 1); omega, hcl⟩, rfl, rfl, hw, by rw [htk, hkj, compactI_take hz2 hy2', if_pos (Decidable.of_not_not c44), hkj1], hrest⟩, by show xs.length - (k + (j + 1)) < xs.length - (k + j); omega, ⟨rfl, rfl, rfl, rfl, trivial⟩⟩
                        · refine R.ld Tryz.isAgg3 rfl rfl .hd (hcs4 0 _ rfl) ?_
                          refine TL.nil (Plan.e1 (HLe.refl _) ?_)
                          refine Plan.s1 3 [9] (by kernel_rfl) (by kernel_rfl) rfl ?_
                          refine R.ld Tryz.isAgg3 rfl rfl .hd (hcs3 0 _ rfl) ?_
                          refine TL.nil (Plan.e1 (HLe.refl _) ?_)
                          refine Plan.v 9 [] (by kernel_rfl) (by kernel_rfl) (by kernel_rfl) (by kernel_rfl) rfl (fun _ _ h_ => R.neq rfl rfl rfl (TL.nil h_)) ?_
                          refine Plan.done (Post.thnN ?_)
                          refine T.condD rfl (fun c44 => ?_) (fun c44 => ?_)
                          · refine T.seq ?_
                            refine T.region ?_
                            refine R.mvE rfl (by conv => lhs; whnf) ?_
                            refine R.mvE rfl (by conv => lhs; whnf) ?_
                            refine R.mvE rfl (by conv => lhs; whnf) ?_
                            refine R.mvE rfl (by conv => lhs; whnf) ?_
                            refine R.ixp Tryz.underlying24 Tryz.sizeOf3 rfl rfl rfl (by omega) ix3' ?_
                            refine R.ld Tryz.isAgg3 rfl rfl .hd (hcs3 0 _ rfl) ?_
                            refine R.ixp Tryz.underlying24 Tryz.sizeOf3 rfl rfl rfl (by omega) (by rw [← hcl]; exact ix5) ?_
                            refine R.stE (y := y2) Tryz.sizeOf3 rfl rfl hw .hd ix5 rfl rfl rfl ?_
                            intro c51 w51
                            refine TL.nil (Post.thnN ?_)
                            refine T.region ?_
                            refine R.mvE rfl (by conv => lhs; whnf) ?_
                            refine R.addI rfl rfl rfl (by omega) ?_
                            refine R.asE rfl (by conv => lhs; whnf) ?_
                            refine TL.nil (Post.blkN ?_)
                            refine id (Post.thnN ?_)
                            refine T.region ?_
                            refine R.mvE rfl (by conv => lhs; whnf) ?_
                            refine R.addI rfl rfl rfl (by omega) ?_
                            refine R.asE rfl (by conv => lhs; whnf) ?_
                            refine TL.nil (Post.thnN ?_)
                            -- round's end, way ny101yy011y
                            exact ⟨(i + 1, j + 1, cur.set i y2, c51), s_5, ⟨⟨by omega, by show k + (j + 1) ≤ _; omega, by show i + 1 + 1 ≤ k + (j + 1); omega, by rw [List.length_set]; exact hcl⟩, rfl, rfl, by rw [List.length_set]; exact w51, by rw [set_take (by omega), htk, hkj, compactI_take hz2 hy2', if_neg c44, hkj1], fun q hq => by rw [List.getElem?_set_ne (by omega)]; exact hrest q (by omega)⟩, by show xs.length - (k + (j + 1)) < xs.length - (k + j); omega, ⟨rfl, rfl, rfl, rfl, trivial⟩⟩
                          · refine T.skip (Post.blkN ?_)
                            refine id (Post.thnN ?_)
                            refine T.region ?_
                            refine R.mvE rfl (by conv => lhs; whnf) ?_
                            refine R.addI rfl rfl rfl (by omega) ?_
                            refine R.asE rfl (by conv => lhs; whnf) ?_
                            refine TL.nil (Post.thnN ?_)
                            -- round's end, way ny101yy011n
                            exact ⟨(i, j + 1, cur, [(b3, .cells cs3 3)]), s_5, ⟨⟨by omega, by show k + (j + 1) ≤ _; omega, by show i + 1 ≤ k + (j + 1); omega, hcl⟩, rfl, rfl, hw, by rw [htk, hkj, compactI_take hz2 hy2', if_pos (Decidable.of_not_not c44), hkj1], hrest⟩, by show xs.length - (k + (j + 1)) < xs.length - (k + j); omega, ⟨rfl, rfl, rfl, rfl, trivial⟩⟩
                    · refine R.ixp Tryz.underlying24 Tryz.sizeOf3 rfl rfl rfl (by omega) ix4' ?_
                      refine TL.nil (Plan.e1 (HLe.refl _) ?_)
                      refine Plan.s2 2 8 [3, 8, 9] [2, 3, 9] (by kernel_rfl) (by kernel_rfl) (by kernel_rfl) rfl rfl ?_ ?_
                      · refine R.ixp Tryz.underlying24 Tryz.sizeOf3 rfl rfl rfl (by omega) ix3' ?_
                        refine TL.nil (Plan.e1 (HLe.refl _) ?_)
                        refine Plan.s2 3 8 [8, 9] [3, 9] (by kernel_rfl) (by kernel_rfl) (by kernel_rfl) rfl rfl ?_ ?_
                        · refine R.ld Tryz.isAgg3 rfl rfl .hd (hcs3 0 _ rfl) ?_
                          refine TL.nil (Plan.e1 (HLe.refl _) ?_)
                          refine Plan.s1 8 [9] (by kernel_rfl) (by kernel_rfl) rfl ?_
                          refine R.ld Tryz.isAgg3 rfl rfl .hd (hcs4 0 _ rfl) ?_
                          refine TL.nil (Plan.e1 (HLe.refl _) ?_)
                          refine Plan.v 9 [] (by kernel_rfl) (by kernel_rfl) (by kernel_rfl) (by kernel_rfl) rfl (fun _ _ h_ => R.neq rfl rfl rfl (TL.nil h_)) ?_
                          refine Plan.done (Post.thnN ?_)
                          refine T.condD rfl (fun c44 => ?_) (fun c44 => ?_)
                          · refine T.seq ?_
                            refine T.region ?_
                            refine R.mvE rfl (by conv => lhs; whnf) ?_
                            refine R.mvE rfl (by conv => lhs; whnf) ?_
                            refine R.mvE rfl (by conv => lhs; whnf) ?_
                            refine R.mvE rfl (by conv => lhs; whnf) ?_
                            refine R.ixp Tryz.underlying24 Tryz.sizeOf3 rfl rfl rfl (by omega) ix3' ?_
                            refine R.ld Tryz.isAgg3 rfl rfl .hd (hcs3 0 _ rfl) ?_
                            refine R.ixp Tryz.underlying24 Tryz.sizeOf3 rfl rfl rfl (by omega) (by rw [← hcl]; exact ix5) ?_
                            refine R.stE (y := y2) Tryz.sizeOf3 rfl rfl hw .hd ix5 rfl rfl rfl ?_
                            intro c51 w51
                            refine TL.nil (Post.thnN ?_)
                            refine T.region ?_
                            refine R.mvE rfl (by conv => lhs; whnf) ?_
                            refine R.addI rfl rfl rfl (by omega) ?_
                            refine R.asE rfl (by conv => lhs; whnf) ?_
                            refine TL.nil (Post.blkN ?_)
                            refine id (Post.thnN ?_)
                            refine T.region ?_
                            refine R.mvE rfl (by conv => lhs; whnf) ?_
                            refine R.addI rfl rfl rfl (by omega) ?_
                            refine R.asE rfl (by conv => lhs; whnf) ?_
                            refine TL.nil (Post.thnN ?_)
                            -- round's end, way ny101yy100y
                            exact ⟨(i + 1, j + 1, cur.set i y2, c51), s_5, ⟨⟨by omega, by show k + (j + 1) ≤ _; omega, by show i + 1 + 1 ≤ k + (j + 1); omega, by rw [List.length_set]; exact hcl⟩, rfl, rfl, by rw [List.length_set]; exact w51, by rw [set_take (by omega), htk, hkj, compactI_take hz2 hy2', if_neg c44, hkj1], fun q hq => by rw [List.getElem?_set_ne (by omega)]; exact hrest q (by omega)⟩, by show xs.length - (k + (j + 1)) < xs.length - (k + j); omega, ⟨rfl, rfl, rfl, rfl, trivial⟩⟩
                          · refine T.skip (Post.blkN ?_)
                            refine id (Post.thnN ?_)
                            refine T.region ?_
                            refine R.mvE rfl (by conv => lhs; whnf) ?_
                            refine R.addI rfl rfl rfl (by omega) ?_
                            refine R.asE rfl (by conv => lhs; whnf) ?_
                            refine TL.nil (Post.thnN ?_)
                            -- round's end, way ny101yy100n
                            exact ⟨(i, j + 1, cur, [(b3, .cells cs3 3)]), s_5, ⟨⟨by omega, by show k + (j + 1) ≤ _; omega, by show i + 1 ≤ k + (j + 1); omega, hcl⟩, rfl, rfl, hw, by rw [htk, hkj, compactI_take hz2 hy2', if_pos (Decidable.of_not_not c44), hkj1], hrest⟩, by show xs.length - (k + (j + 1)) < xs.length - (k + j); omega, ⟨rfl, rfl, rfl, rfl, trivial⟩⟩
                        · refine R.ld Tryz.isAgg3 rfl rfl .hd (hcs4 0 _ rfl) ?_
                          refine TL.nil (Plan.e1 (HLe.refl _) ?_)
                          refine Plan.s1 3 [9] (by kernel_rfl) (by kernel_rfl) rfl ?_
                          refine R.ld Tryz.isAgg3 rfl rfl .hd (hcs3 0 _ rfl) ?_
                          refine TL.nil (Plan.e1 (HLe.refl _) ?_)
                          refine Plan.v 9 [] (by kernel_rfl) (by kernel_rfl) (by kernel_rfl) (by kernel_rfl) rfl (fun _ _ h_ => R.neq rfl rfl rfl (TL.nil h_)) ?_
                          refine Plan.done (Post.thnN ?_)
                          refine T.condD rfl (fun c44 => ?_) (fun c44 => ?_)
                          · refine T.seq ?_
                            refine T.region ?_
                            refine R.mvE rfl (by conv => lhs; whnf) ?_
                            refine R.mvE rfl (by conv => lhs; whnf) ?_
                            refine R.mvE rfl (by conv => lhs; whnf) ?_
                            refine R.mvE rfl (by conv => lhs; whnf) ?_
                            refine R.ixp Tryz.underlying24 Tryz.sizeOf3 rfl rfl rfl (by omega) ix3' ?_
                            refine R.ld Tryz.isAgg3 rfl rfl .hd (hcs3 0 _ rfl) ?_
                            refine R.ixp Tryz.underlying24 Tryz.sizeOf3 rfl rfl rfl (by omega) (by rw [← hcl]; exact ix5) ?_
                            refine R.stE (y := y2) Tryz.sizeOf3 rfl rfl hw .hd ix5 rfl rfl rfl ?_
                            intro c51 w51
                            refine TL.nil (Post.thnN ?_)
                            refine T.region ?_
                            refine R.mvE rfl (by conv => lhs; whnf) ?_
                            refine R.addI rfl rfl rfl (by omega) ?_
                            refine R.asE rfl (by conv => lhs; whnf) ?_
                            refine TL.nil (Post.blkN ?_)
                            refine id (Post.thnN ?_)
                            refine T.region ?_
                            refine R.mvE rfl (by conv => lhs; whnf) ?_
                            refine R.addI rfl rfl rfl (by omega) ?_
                            refine R.asE rfl (by conv => lhs; whnf) ?_
                            refine TL.nil (Post.thnN ?_)
                            -- round's end, way ny101yy101y
                            exact ⟨(i + 1, j + 1, cur.set i y2, c51), s_5, ⟨⟨by omega, by show k + (j + 1) ≤ _; omega, by show i + 1 + 1 ≤ k + (j + 1); omega, by rw [List.length_set]; exact hcl⟩, rfl, rfl, by rw [List.length_set]; exact w51, by rw [set_take (by omega), htk, hkj, compactI_take hz2 hy2', if_neg c44, hkj1], fun q hq => by rw [List.getElem?_set_ne (by omega)]; exact hrest q (by omega)⟩, by show xs.length - (k + (j + 1)) < xs.length - (k + j); omega, ⟨rfl, rfl, rfl, rfl, trivial⟩⟩
                          · refine T.skip (Post.blkN ?_)
                            refine id (Post.thnN ?_)
                            refine T.region ?_
                            refine R.mvE rfl (by conv => lhs; whnf) ?_
                            refine R.addI rfl rfl rfl (by omega) ?_
                            refine R.asE rfl (by conv => lhs; whnf) ?_
                            refine TL.nil (Post.thnN ?_)
                            -- round's end, way ny101yy101n
                            exact ⟨(i, j + 1, cur, [(b3, .cells cs3 3)]), s_5, ⟨⟨by omega, by show k + (j + 1) ≤ _; omega, by show i + 1 ≤ k + (j + 1); omega, hcl⟩, rfl, rfl, hw, by rw [htk, hkj, compactI_take hz2 hy2', if_pos (Decidable.of_not_not c44), hkj1], hrest⟩, by show xs.length - (k + (j + 1)) < xs.length - (k + j); omega, ⟨rfl, rfl, rfl, rfl, trivial⟩⟩
                      · refine R.ld Tryz.isAgg3 rfl rfl .hd (hcs4 0 _ rfl) ?_
                        refine TL.nil (Plan.e1 (HLe.refl _) ?_)
                        refine Plan.s1 2 [3, 9] (by kernel_rfl) (by kernel_rfl) rfl ?_
                        refine R.ixp Tryz.underlying24 Tryz.sizeOf3 rfl rfl rfl (by omega) ix3' ?_
                        refine TL.nil (Plan.e1 (HLe.refl _) ?_)
                        refine Plan.s1 3 [9] (by kernel_rfl) (by kernel_rfl) rfl ?_
                        refine R.ld Tryz.isAgg3 rfl rfl .hd (hcs3 0 _ rfl) ?_
                        refine TL.nil (Plan.e1 (HLe.refl _) ?_)
                        refine Plan.v 9 [] (by kernel_rfl) (by kernel_rfl) (by kernel_rfl) (by kernel_rfl) rfl (fun _ _ h_ => R.neq rfl rfl rfl (TL.nil h_)) ?_
                        refine Plan.done (Post.thnN ?_)
                        refine T.condD rfl (fun c44 => ?_) (fun c44 => ?_)
                        · refine T.seq ?_
                          refine T.region ?_
                          refine R.mvE rfl (by conv => lhs; whnf) ?_
                          refine R.mvE rfl (by conv => lhs; whnf) ?_
                          refine R.mvE rfl (by conv => lhs; whnf) ?_
                          refine R.mvE rfl (by conv => lhs; whnf) ?_
                          refine R.ixp Tryz.underlying24 Tryz.sizeOf3 rfl rfl rfl (by omega) ix3' ?_
                          refine R.ld Tryz.isAgg3 rfl rfl .hd (hcs3 0 _ rfl) ?_
                          refine R.ixp Tryz.underlying24 Tryz.sizeOf3 rfl rfl rfl (by omega) (by rw [← hcl]; exact ix5) ?_
                          refine R.stE (y := y2) Tryz.sizeOf3 rfl rfl hw .hd ix5 rfl rfl rfl ?_
                          intro c51 w51
                          refine TL.nil (Post.thnN ?_)
                          refine T.region ?_
                          refine R.mvE rfl (by conv => lhs; whnf) ?_
                          refine R.addI rfl rfl rfl (by omega) ?_
                          refine R.asE rfl (by conv => lhs; whnf) ?_
                          refine TL.nil (Post.blkN ?_)
                          refine id (Post.thnN ?_)
                          refine T.region ?_
                          refine R.mvE rfl (by conv => lhs; whnf) ?_
                          refine R.addI rfl rfl rfl (by omega) ?_
                          refine R.asE rfl (by conv => lhs; whnf) ?_
                          refine TL.nil (Post.thnN ?_)
                          -- round's end, way ny101yy11y
                          exact ⟨(i + 1, j + 1, cur.set i y2, c51), s_5, ⟨⟨by omega, by show k + (j + 1) ≤ _; omega, by show i + 1 + 1 ≤ k + (j + 1); omega, by rw [List.length_set]; exact hcl⟩, rfl, rfl, by rw [List.length_set]; exact w51, by rw [set_take (by omega), htk, hkj, compactI_take hz2 hy2', if_neg c44, hkj1], fun q hq => by rw [List.getElem?_set_ne (by omega)]; exact hrest q (by omega)⟩, by show xs.length - (k + (j + 1)) < xs.length - (k + j); omega, ⟨rfl, rfl, rfl, rfl, trivial⟩⟩
                        · refine T.skip (Post.blkN ?_)
                          refine id (Post.thnN ?_)
                          refine T.region ?_
                          refine R.mvE rfl (by conv => lhs; whnf) ?_
                          refine R.addI rfl rfl rfl (by omega) ?_
                          refine R.asE rfl (by conv => lhs; whnf) ?_
                          refine TL.nil (Post.thnN ?_)
                          -- round's end, way ny101yy11n
                          exact ⟨(i, j + 1, cur, [(b3, .cells cs3 3)]), s_5, ⟨⟨by omega, by show k + (j + 1) ≤ _; omega, by show i + 1 ≤ k + (j + 1); omega, hcl⟩, rfl, rfl, hw, by rw [htk, hkj, compactI_take hz2 hy2', if_pos (Decidable.of_not_not c44), hkj1], hrest⟩, by show xs.length - (k + (j + 1)) < xs.length - (k + j); omega, ⟨rfl, rfl, rfl, rfl, trivial⟩⟩
                  · have hje : k + j = xs.length := by omega
                    rw [hje, List.take_length] at htk
                    have hil : (cur.take i).length = i := by simp; omega
                    refine T.exit (Post.thnE (Post.thnE (Post.blkX ?_)))
                    refine id (Post.thnN ?_)
                    refine T.seq ?_
                    refine T.region ?_
                    refine R.mvE rfl (by conv => lhs; whnf) ?_
                    refine R.mvE rfl (by conv => lhs; whnf) ?_
                    refine R.sL Tryz.underlying24 Tryz.sizeOf3 rfl rfl rfl (by omega) (by omega) ?_
                    refine R.clr (dd := none) (xs := cur.take i) Tryz_ty24 (zone_of (z := .int .i64 0) (by kernel_rfl) (by intro v hv; have e0 : v = .int .i64 0 := (by simpa [Value.cells] using hv); subst e0; rfl)) rfl (fun q h => by cases h) (m := xs.length) (by rw [hil]; rfl) (by rw [hil]; exact own_take0 hw (by omega)) .hd (by omega) (by omega) ?_
                    intro c57 w57
                    refine TL.nil (Post.thnN ?_)
                    refine T.seq ?_
                    refine T.region ?_
                    refine R.mvE rfl (by conv => lhs; whnf) ?_
                    refine R.mvE rfl (by conv => lhs; whnf) ?_
                    refine R.sH Tryz.underlying24 Tryz.sizeOf3 rfl rfl rfl (by omega) (by omega) ?_
                    refine R.asE rfl (by conv => lhs; whnf) ?_
                    refine TL.nil (Post.thnN ?_)
                    refine T.ret (Post.blkR (Post.thnR (Post.thnR (Post.blkR (Post.thnR ?_)))))
                    -- way ny101yn
                    refine fin1L [c57] rfl rfl (List.Sublist.refl _) ⟨_, rfl, ?_⟩
                    show OwnS (intE .i64) 3 _ (slcV (.slice A xs.length cap) 0 i cap 1) (compactI xs) c57
                    rw [slc_take0, ← htk]
                    rw [hil] at w57
                    exact w57
              · refine T.skip (Post.blkN ?_)
                refine id (Post.thnN ?_)
                refine T.region ?_
                refine R.mvE rfl (by conv => lhs; whnf) ?_
                refine R.addI rfl rfl rfl (by omega) ?_
                refine R.asE rfl (by conv => lhs; whnf) ?_
                refine TL.nil (Post.thnN ?_)
                -- round's end, way ny101n
                exact ⟨k + 1, s_0, ⟨⟨by omega, by omega⟩, rfl, rfl, by rw [show k + 1 = (k - 1) + 2 by omega, compactI_take hz hy1, if_neg c25, show k - 1 + 1 = k by omega, hco, show k - 1 + 2 = k + 1 by omega, take_snoc _ _ _ hy]⟩, by omega, ⟨rfl, rfl, trivial⟩⟩
          · refine R.ld Tryz.isAgg3 rfl rfl .hd (hcs2 0 _ rfl) ?_
            refine TL.nil (Plan.e1 (HLe.refl _) ?_)
            refine Plan.s1 2 [3, 9] (by kernel_rfl) (by kernel_rfl) rfl ?_
            refine R.ixp Tryz.underlying24 Tryz.sizeOf3 rfl rfl rfl (by omega) ix1 ?_
            refine TL.nil (Plan.e1 (HLe.refl _) ?_)
            refine Plan.s1 3 [9] (by kernel_rfl) (by kernel_rfl) rfl ?_
            refine R.ld Tryz.isAgg3 rfl rfl .hd (hcs1 0 _ rfl) ?_
            refine TL.nil (Plan.e1 (HLe.refl _) ?_)
            refine Plan.v 9 [] (by kernel_rfl) (by kernel_rfl) (by kernel_rfl) (by kernel_rfl) rfl (fun _ _ h_ => R.eql rfl rfl rfl (TL.nil h_)) ?_
            refine Plan.done (Post.thnN ?_)
            refine T.condD rfl (fun c25 => ?_) (fun c25 => ?_)
            · refine T.seq ?_
              refine T.region ?_
              refine R.mvE rfl (by conv => lhs; whnf) ?_
              refine R.mvE rfl (by conv => lhs; whnf) ?_
              refine R.sL Tryz.underlying24 Tryz.sizeOf3 rfl rfl rfl (by omega) (by omega) ?_
              refine R.asE rfl (by conv => lhs; whnf) ?_
              refine TL.nil (Post.thnN ?_)
              refine T.seq ?_
              refine T.seq ?_
              refine T.region ?_
              refine R.asE rfl (by conv => lhs; whnf) ?_
              refine TL.nil (Post.thnN ?_)
              refine T.block ?_
              refine T.loop (ι := Nat × Nat × List Int × Chunk) (fun ⟨i, j, cur, ch2⟩ H' L' ds' => (1 ≤ j ∧ k + j ≤ xs.length ∧ i + 1 ≤ k + j ∧ cur.length = xs.length) ∧ L' = [ch2] ∧ ds' = [] ∧ OwnS (intE .i64) 3 H' (.slice A cur.length cap) cur ch2 ∧ cur.take i = compactI (xs.take (k + j)) ∧ (∀ q, i ≤ q → cur[q]? = xs[q]?)) (fun ⟨i, j, cur, ch2⟩ => [(0, .slice A xs.length cap), (3, .int .i64 i), (4, slcV (.slice A xs.length cap) k xs.length cap 1), (5, .int .i64 j)]) (fun ⟨i, j, cur, ch2⟩ => xs.length - (k + j)) ((k, 1, xs, [(b1, .cells cs1 3)])) ?_ ?_ ?_
              · exact ⟨⟨by omega, by omega, by omega, rfl⟩, rfl, rfl, ho, by rw [hk2, compactI_take hz hy1, if_pos c25, show k - 1 + 1 = k by omega, hco], fun q hq => rfl⟩
              · exact ⟨rfl, rfl, rfl, rfl, trivial⟩
              · intro ⟨i, j, cur, ch2⟩ σ6 H_6 L_6 ds_6 s_6 hI_6
                obtain ⟨⟨hj1, hj2, hij, hcl⟩, rfl, rfl, hw, htk, hrest⟩ := hI_6
                refine T.seq ?_
                refine T.seq ?_
                refine T.region ?_
                refine R.mvE rfl (by conv => lhs; whnf) ?_
                refine R.mvE rfl (by conv => lhs; whnf) ?_
                refine R.len Tryz.underlying24 rfl rfl ?_
                refine R.lss rfl rfl rfl ?_
                refine TL.nil (Post.thnN ?_)
                refine T.condD rfl (fun c32 => ?_) (fun c32 => ?_)
                · have hlt2 : k + j < xs.length := by omega
                  obtain ⟨y2, hy2⟩ := getk hlt2
                  obtain ⟨z2, hz2⟩ := getk (xs := xs) (k := k + j - 1) (by omega)
                  have hkj : k + (j + 1) = (k + j - 1) + 2 := by omega
                  have hkj1 : k + j - 1 + 1 = k + j := by omega
                  have hy2' : xs[k + j - 1 + 1]? = some y2 := by rw [hkj1]; exact hy2
                  have hcy : cur[k + j]? = some y2 := by rw [hrest _ (by omega)]; exact hy2
                  have hcz : cur[k + ((j : Int) - 1).toNat]? = some z2 := by rw [show k + ((j : Int) - 1).toNat = k + j - 1 by omega, hrest _ (by omega)]; exact hz2
                  obtain ⟨yi, hci⟩ := getk (xs := cur) (k := i) (by omega)
                  obtain ⟨b3, k3, cs3, l3, hce3, hve3, ix3, hR3, hcs3⟩ := hw.elem hcy
                  obtain rfl : l3 = [.int .i64 y2] := hR3
                  obtain ⟨b4, k4, cs4, l4, hce4, hve4, ix4, hR4, hcs4⟩ := hw.elem hcz
                  obtain rfl : l4 = [.int .i64 z2] := hR4
                  obtain ⟨b5, k5, cs5, l5, hce5, hve5, ix5, hR5, hcs5⟩ := hw.elem hci
                  subst hce3
                  obtain ⟨rfl, rfl⟩ : b3 = b4 ∧ cs3 = cs4 := by simpa using hce4
                  obtain ⟨rfl, rfl⟩ : b3 = b5 ∧ cs3 = cs5 := by simpa using hce5
                  obtain rfl : cap = k3 := by injection hve3
                  rw [hcl] at hve3
                  have ix3' := ix_off (sz := 1) (k := k) (i := j) hve3 (by omega) (by omega) (by omega)
                  have ix4' := ix_off (sz := 1) (k := k) (i := ((j : Int) - 1).toNat) hve3 (by omega) (by omega) (by omega)
                  refine T.skip (Post.thnN ?_)
                  refine T.seq ?_
                  refine T.block ?_
                  refine T.seq ?_
                  refine T.draw Tryz_mixed (by kernel_rfl) ?_
                  refine Plan.v 0 [1, 2, 3, 4, 5, 6, 7, 8, 9] (by kernel_rfl) (by kernel_rfl) (by kernel_rfl) (by kernel_rfl) rfl (fun _ _ h_ => R.mvE rfl (by conv => lhs; whnf) (TL.nil h_)) ?_
                  refine Plan.v 1 [2, 3, 4, 5, 6, 7, 8, 9] (by kernel_rfl) (by kernel_rfl) (by kernel_rfl) (by kernel_rfl) rfl (fun _ _ h_ => R.mvE rfl (by conv => lhs; whnf) (TL.nil h_)) ?_
                  refine Plan.v 4 [2, 3, 5, 6, 7, 8, 9] (by kernel_rfl) (by kernel_rfl) (by kernel_rfl) (by kernel_rfl) rfl (fun _ _ h_ => R.mvE rfl (by conv => lhs; whnf) (TL.nil h_)) ?_
                  refine Plan.v 5 [2, 3, 6, 7, 8, 9] (by kernel_rfl) (by kernel_rfl) (by kernel_rfl) (by kernel_rfl) rfl (fun _ _ h_ => R.mvE rfl (by conv => lhs; whnf) (TL.nil h_)) ?_
                  refine Plan.v 6 [2, 3, 7, 8, 9] (by kernel_rfl) (by kernel_rfl) (by kernel_rfl) (by kernel_rfl) rfl (fun _ _ h_ => R.subI rfl rfl rfl (by omega) (TL.nil h_)) ?_
                  refine Plan.s2 2 7 [3, 7, 8, 9] [2, 3, 8, 9] (by kernel_rfl) (by kernel_rfl) (by kernel_rfl) rfl rfl ?_ ?_
                  · refine R.ixp Tryz.underlying24 Tryz.sizeOf3 rfl rfl rfl (by omega) ix3' ?_
                    refine TL.nil (Plan.e1 (HLe.refl _) ?_)
                    refine Plan.s2 3 7 [7, 8, 9] [3, 8, 9] (by kernel_rfl) (by kernel_rfl) (by kernel_rfl) rfl rfl ?_ ?_
                    · refine R.ld Tryz.isAgg3 rfl rfl .hd (hcs3 0 _ rfl) ?_
                      refine TL.nil (Plan.e1 (HLe.refl _) ?_)
                      refine Plan.s1 7 [8, 9] (by kernel_rfl) (by kernel_rfl) rfl ?_
                      refine R.ixp Tryz.underlying24 Tryz.sizeOf3 rfl rfl rfl (by omega) ix4' ?_
                      refine TL.nil (Plan.e1 (HLe.refl _) ?_)
                      refine Plan.s1 8 [9] (by kernel_rfl) (by kernel_rfl) rfl ?_
                      refine R.ld Tryz.isAgg3 rfl rfl .hd (hcs4 0 _ rfl) ?_
                      refine TL.nil (Plan.e1 (HLe.refl _) ?_)
                      refine Plan.v 9 [] (by kernel_rfl) (by kernel_rfl) (by kernel_rfl) (by kernel_rfl) rfl (fun _ _ h_ => R.neq rfl rfl rfl (TL.nil h_)) ?_
                      refine Plan.done (Post.thnN ?_)
                      refine T.condD rfl (fun c44 => ?_) (fun c44 => ?_)
                      · refine T.seq ?_
                        refine T.region ?_
                        refine R.mvE rfl (by conv => lhs; whnf) ?_
                        refine R.mvE rfl (by conv => lhs; whnf) ?_
                        refine R.mvE rfl (by conv => lhs; whnf) ?_
                        refine R.mvE rfl (by conv => lhs; whnf) ?_
                        refine R.ixp Tryz.underlying24 Tryz.sizeOf3 rfl rfl rfl (by omega) ix3' ?_
                        refine R.ld Tryz.isAgg3 rfl rfl .hd (hcs3 0 _ rfl) ?_
                        refine R.ixp Tryz.underlying24 Tryz.sizeOf3 rfl rfl rfl (by omega) (by rw [← hcl]; exact ix5) ?_
                        refine R.stE (y := y2) Tryz.sizeOf3 rfl rfl hw .hd ix5 rfl rfl rfl ?_
                        intro c51 w51
                        refine TL.nil (Post.thnN ?_)
                        refine T.region ?_
                        refine R.mvE rfl (by conv => lhs; whnf) ?_
                        refine R.addI rfl rfl rfl (by omega) ?_
                        refine R.asE rfl (by conv => lhs; whnf) ?_
                        refine TL.nil (Post.blkN ?_)
                        refine id (Post.thnN ?_)
                        refine T.region ?_
                        refine R.mvE rfl (by conv => lhs; whnf) ?_
                        refine R.addI rfl rfl rfl (by omega) ?_
                        refine R.asE rfl (by conv => lhs; whnf) ?_
                        refine TL.nil (Post.thnN ?_)
                        -- round's end, way ny11yy00y
                        exact ⟨(i + 1, j + 1, cur.set i y2, c51), s_6, ⟨⟨by omega, by show k + (j + 1) ≤ _; omega, by show i + 1 + 1 ≤ k + (j + 1); omega, by rw [List.length_set]; exact hcl⟩, rfl, rfl, by rw [List.length_set]; exact w51, by rw [set_take (by omega), htk, hkj, compactI_take hz2 hy2', if_neg c44, hkj1], fun q hq => by rw [List.getElem?_set_ne (by omega)]; exact hrest q (by omega)⟩, by show xs.length - (k + (j + 1)) < xs.length - (k + j); omega, ⟨rfl, rfl, rfl, rfl, trivial⟩⟩
                      · refine T.skip (Post.blkN ?_)
                        refine id (Post.thnN ?_)
                        refine T.region ?_
                        refine R.mvE rfl (by conv => lhs; whnf) ?_
                        refine R.addI rfl rfl rfl (by omega) ?_
                        refine R.asE rfl (by conv => lhs; whnf) ?_
                        refine TL.nil (Post.thnN ?_)
                        -- round's end, way ny11yy00n
                        exact ⟨(i, j + 1, cur, [(b3, .cells cs3 3)]), s_6, ⟨⟨by omega, by show k + (j + 1) ≤ _; omega, by show i + 1 ≤ k + (j + 1); omega, hcl⟩, rfl, rfl, hw, by rw [htk, hkj, compactI_take hz2 hy2', if_pos (Decidable.of_not_not c44), hkj1], hrest⟩, by show xs.length - (k + (j + 1)) < xs.length - (k + j); omega, ⟨rfl, rfl, rfl, rfl, trivial⟩⟩
                    · refine R.ixp Tryz.underlying24 Tryz.sizeOf3 rfl rfl rfl (by omega) ix4' ?_
                      refine TL.nil (Plan.e1 (HLe.refl _) ?_)
                      refine Plan.s2 3 8 [8, 9] [3, 9] (by kernel_rfl) (by kernel_rfl) (by kernel_rfl) rfl rfl ?_ ?_
                      · refine R.ld Tryz.isAgg3 rfl rfl .hd (hcs3 0 _ rfl) ?_
                        refine TL.nil (Plan.e1 (HLe.refl _) ?_)
                        refine Plan.s1 8 [9] (by kernel_rfl) (by kernel_rfl) rfl ?_
                        refine R.ld Tryz.isAgg3 rfl rfl .hd (hcs4 0 _ rfl) ?_
                        refine TL.nil (Plan.e1 (HLe.refl _) ?_)
                        refine Plan.v 9 [] (by kernel_rfl) (by kernel_rfl) (by kernel_rfl) (by kernel_rfl) rfl (fun _ _ h_ => R.neq rfl rfl rfl (TL.nil h_)) ?_
                        refine Plan.done (Post.thnN ?_)
                        refine T.condD rfl (fun c44 => ?_) (fun c44 => ?_)
                        · refine T.seq ?_
                          refine T.region ?_
                          refine R.mvE rfl (by conv => lhs; whnf) ?_
                          refine R.mvE rfl (by conv => lhs; whnf) ?_
                          refine R.mvE rfl (by conv => lhs; whnf) ?_
                          refine R.mvE rfl (by conv => lhs; whnf) ?_
                          refine R.ixp Tryz.underlying24 Tryz.sizeOf3 rfl rfl rfl (by omega) ix3' ?_
                          refine R.ld Tryz.isAgg3 rfl rfl .hd (hcs3 0 _ rfl) ?_
                          refine R.ixp Tryz.underlying24 Tryz.sizeOf3 rfl rfl rfl (by omega) (by rw [← hcl]; exact ix5) ?_
                          refine R.stE (y := y2) Tryz.sizeOf3 rfl rfl hw .hd ix5 rfl rfl rfl ?_
                          intro c51 w51
                          refine TL.nil (Post.thnN ?_)
                          refine T.region ?_
                          refine R.mvE rfl (by conv => lhs; whnf) ?_
                          refine R.addI rfl rfl rfl (by omega) ?_
                          refine R.asE rfl (by conv => lhs; whnf) ?_
                          refine TL.nil (Post.blkN ?_)
                          refine id (Post.thnN ?_)
                          refine T.region ?_
                          refine R.mvE rfl (by conv => lhs; whnf) ?_
                          refine R.addI rfl rfl rfl (by omega) ?_
                          refine R.asE rfl (by conv => lhs; whnf) ?_
                          refine TL.nil (Post.thnN ?_)
                          -- round's end, way ny11yy010y
                          exact ⟨(i + 1, j + 1, cur.set i y2, c51), s_6, ⟨⟨by omega, by show k + (j + 1) ≤ _; omega, by show i + 1 + 1 ≤ k + (j + 1); omega, by rw [List.length_set]; exact hcl⟩, rfl, rfl, by rw [List.length_set]; exact w51, by rw [set_take (by omega), htk, hkj, compactI_take hz2 hy2', if_neg c44, hkj1], fun q hq => by rw [List.getElem?_set_ne (by omega)]; exact hrest q (by omega)⟩, by show xs.length - (k + (j + 1)) < xs.length - (k + j); omega, ⟨rfl, rfl, rfl, rfl, trivial⟩⟩
                        · refine T.skip (Post.blkN ?_)
                          refine id (Post.thnN ?_)
                          refine T.region ?_
                          refine R.mvE rfl (by conv => lhs; whnf) ?_
                          refine R.addI rfl rfl rfl (by omega) ?_
                          refine R.asE rfl (by conv => lhs; whnf) ?_
                          refine TL.nil (Post.thnN ?_)
                          -- round's end, way ny11yy010n
                          exact ⟨(i, j + 1, cur, [(b3, .cells cs3 3)]), s_6, ⟨⟨by omega, by show k + (j + 1) ≤ _; omega, by show i + 1 ≤ k + (j + 1); omega, hcl⟩, rfl, rfl, hw, by rw [htk, hkj, compactI_take hz2 hy2', if_pos (Decidable.of_not_not c44), hkj1], hrest⟩, by show xs.length - (k + (j + 1)) < xs.length - (k + j); omega, ⟨rfl, rfl, rfl, rfl, trivial⟩⟩
                      · refine R.ld Tryz.isAgg3 rfl rfl .hd (hcs4 0 _ rfl) ?_
                        refine TL.nil (Plan.e1 (HLe.refl _) ?_)
                        refine Plan.s1 3 [9] (by kernel_rfl) (by kernel_rfl) rfl ?_
                        refine R.ld Tryz.isAgg3 rfl rfl .hd (hcs3 0 _ rfl) ?_
                        refine TL.nil (Plan.e1 (HLe.refl _) ?_)
                        refine Plan.v 9 [] (by kernel_rfl) (by kernel_rfl) (by kernel_rfl) (by kernel_rfl) rfl (fun _ _ h_ => R.neq rfl rfl rfl (TL.nil h_)) ?_
                        refine Plan.done (Post.thnN ?_)
                        refine T.condD rfl (fun c44 => ?_) (fun c44 => ?_)
                        · refine T.seq ?_
                          refine T.region ?_
                          refine R.mvE rfl (by conv => lhs; whnf) ?_
                          refine R.mvE rfl (by conv => lhs; whnf) ?_
                          refine R.mvE rfl (by conv => lhs; whnf) ?_
                          refine R.mvE rfl (by conv => lhs; whnf) ?_
                          refine R.ixp Tryz.underlying24 Tryz.sizeOf3 rfl rfl rfl (by omega) ix3' ?_
                          refine R.ld Tryz.isAgg3 rfl rfl .hd (hcs3 0 _ rfl) ?_
                          refine R.ixp Tryz.underlying24 Tryz.sizeOf3 rfl rfl rfl (by omega) (by rw [← hcl]; exact ix5) ?_
                          refine R.stE (y := y2) Tryz.sizeOf3 rfl rfl hw .hd ix5 rfl rfl rfl ?_
                          intro c51 w51
                          refine TL.nil (Post.thnN ?_)
                          refine T.region ?_
                          refine R.mvE rfl (by conv => lhs; whnf) ?_
                          refine R.addI rfl rfl rfl (by omega) ?_
                          refine R.asE rfl (by conv => lhs; whnf) ?_
                          refine TL.nil (Post.blkN ?_)
                          refine id (Post.thnN ?_)
                          refine T.region ?_
                          refine R.mvE rfl (by conv => lhs; whnf) ?_
                          refine R.addI rfl rfl rfl (by omega) ?_
                          refine R.asE rfl (by conv => lhs; whnf) ?_
                          refine TL.nil (Post.thnN ?_)
                          -- round's end, way ny11yy011y
                          exact ⟨(i + 1, j + 1, cur.set i y2, c51), s_6, ⟨⟨by omega, by show k + (j + 1) ≤ _; omega, by show i + 1 + 1 ≤ k + (j + 1); omega, by rw [List.length_set]; exact hcl⟩, rfl, rfl, by rw [List.length_set]; exact w51, by rw [set_take (by omega), htk, hkj, compactI_take hz2 hy2', if_neg c44, hkj1], fun q hq => by rw [List.getElem?_set_ne (by omega)]; exact hrest q (by omega)⟩, by show xs.length - (k + (j + 1)) < xs.length - (k + j); omega, ⟨rfl, rfl, rfl, rfl, trivial⟩⟩
                        · refine T.skip (Post.blkN ?_)
                          refine id (Post.thnN ?_)
                          refine T.region ?_
                          refine R.mvE rfl (by conv => lhs; whnf) ?_
                          refine R.addI rfl rfl rfl (by omega) ?_
                          refine R.asE rfl (by conv => lhs; whnf) ?_
                          refine TL.nil (Post.thnN ?_)
                          -- round's end, way ny11yy011n
                          exact ⟨(i, j + 1, cur, [(b3, .cells cs3 3)]), s_6, ⟨⟨by omega, by show k + (j + 1) ≤ _; omega, by show i + 1 ≤ k + (j + 1); omega, hcl⟩, rfl, rfl, hw, by rw [htk, hkj, compactI_take hz2 hy2', if_pos (Decidable.of_not_not c44), hkj1], hrest⟩, by show xs.length - (k + (j + 1)) < xs.length - (k + j); omega, ⟨rfl, rfl, rfl, rfl, trivial⟩⟩
                  · refine R.ixp Tryz.underlying24 Tryz.sizeOf3 rfl rfl rfl (by omega) ix4' ?_
                    refine TL.nil (Plan.e1 (HLe.refl _) ?_)
                    refine Plan.s2 2 8 [3, 8, 9] [2, 3, 9] (by kernel_rfl) (by kernel_rfl) (by kernel_rfl) rfl rfl ?_ ?_
                    · refine R.ixp Tryz.underlying24 Tryz.sizeOf3 rfl rfl rfl (by omega) ix3' ?_
                      refine TL.nil (Plan.e1 (HLe.refl _) ?_)
                      refine Plan.s2 3 8 [8, 9] [3, 9] (by kernel_rfl) (by kernel_rfl) (by kernel_rfl) rfl rfl ?_ ?_
                      · refine R.ld Tryz.isAgg3 rfl rfl .hd (hcs3 0 _ rfl) ?_
                        refine TL.nil (Plan.e1 (HLe.refl _) ?_)
                        refine Plan.s1 8 [9] (by kernel_rfl) (by kernel_rfl) rfl ?_
                        refine R.ld Tryz.isAgg3 rfl rfl .hd (hcs4 0 _ rfl) ?_
                        refine TL.nil (Plan.e1 (HLe.refl _) ?_)
                        refine Plan.v 9 [] (by kernel_rfl) (by kernel_rfl) (by kernel_rfl) (by kernel_rfl) rfl (fun _ _ h_ => R.neq rfl rfl rfl (TL.nil h_)) ?_
                        refine Plan.done (Post.thnN ?_)
                        refine T.condD rfl (fun c44 => ?_) (fun c44 => ?_)
                        · refine T.seq ?_
                          refine T.region ?_
                          refine R.mvE rfl (by conv => lhs; whnf) ?_
                          refine R.mvE rfl (by conv => lhs; whnf) ?_
                          refine R.mvE rfl (by conv => lhs; whnf) ?_
                          refine R.mvE rfl (by conv => lhs; whnf) ?_
                          refine R.ixp Tryz.underlying24 Tryz.sizeOf3 rfl rfl rfl (by omega) ix3' ?_
                          refine R.ld Tryz.isAgg3 rfl rfl .hd (hcs3 0 _ rfl) ?_
                          refine R.ixp Tryz.underlying24 Tryz.sizeOf3 rfl rfl rfl (by omega) (by rw [← hcl]; exact ix5) ?_
                          refine R.stE (y := y2) Tryz.sizeOf3 rfl rfl hw .hd ix5 rfl rfl rfl ?_
                          intro c51 w51
                          refine TL.nil (Post.thnN ?_)
                          refine T.region ?_
                          refine R.mvE rfl (by conv => lhs; whnf) ?_
                          refine R.addI rfl rfl rfl (by omega) ?_
                          refine R.asE rfl (by conv => lhs; whnf) ?_
                          refine TL.nil (Post.blkN ?_)
                          refine id (Post.thnN ?_)
                          refine T.region ?_
                          refine R.mvE rfl (by conv => lhs; whnf) ?_
                          refine R.addI rfl rfl rfl (by omega) ?_
                          refine R.asE rfl (by conv => lhs; whnf) ?_
                          refine TL.nil (Post.thnN ?_)
                          -- round's end, way ny11yy100y
                          exact ⟨(i + 1, j + 1, cur.set i y2, c51), s_6, ⟨⟨by omega, by show k + (j + 1) ≤ _; omega, by show i + 1 + 1 ≤ k + (j + 1); omega, by rw [List.length_set]; exact hcl⟩, rfl, rfl, by rw [List.length_set]; exact w51, by rw [set_take (by omega), htk, hkj, compactI_take hz2 hy2', if_neg c44, hkj1], fun q hq => by rw [List.getElem?_set_ne (by omega)]; exact hrest q (by omega)⟩, by show xs.length - (k + (j + 1)) < xs.length - (k + j); omega, ⟨rfl, rfl, rfl, rfl, trivial⟩⟩
                        · refine T.skip (Post.blkN ?_)
                          refine id (Post.thnN ?_)
                          refine T.region ?_
                          refine R.mvE rfl (by conv => lhs; whnf) ?_
                          refine R.addI rfl rfl rfl (by omega) ?_
                          refine R.asE rfl (by conv => lhs; whnf) ?_
                          refine TL.nil (Post.thnN ?_)
                          -- round's end, way ny11yy100n
                          exact ⟨(i, j + 1, cur, [(b3, .cells cs3 3)]), s_6, ⟨⟨by omega, by show k + (j + 1) ≤ _; omega, by show i + 1 ≤ k + (j + 1); omega, hcl⟩, rfl, rfl, hw, by rw [htk, hkj, compactI_take hz2 hy2', if_pos (Decidable.of_not_not c44), hkj1], hrest⟩, by show xs.length - (k + (j + 1)) < xs.length - (k + j); omega, ⟨rfl, rfl, rfl, rfl, trivial⟩⟩
                      · refine R.ld Tryz.isAgg3 rfl rfl .hd (hcs4 0 _ rfl) ?_
                        refine TL.nil (Plan.e1 (HLe.refl _) ?_)
                        refine Plan.s1 3 [9] (by kernel_rfl) (by kernel_rfl) rfl ?_
                        refine R.ld Tryz.isAgg3 rfl rfl .hd (hcs3 0 _ rfl) ?_
                        refine TL.nil (Plan.e1 (HLe.refl _) ?_)
                        refine Plan.v 9 [] (by kernel_rfl) (by kernel_rfl) (by kernel_rfl) (by kernel_rfl) rfl (fun _ _ h_ => R.neq rfl rfl rfl (TL.nil h_)) ?_
                        refine Plan.done (Post.thnN ?_)
                        refine T.condD rfl (fun c44 => ?_) (fun c44 => ?_)
                        · refine T.seq ?_
                          refine T.region ?_
                          refine R.mvE rfl (by conv => lhs; whnf) ?_
                          refine R.mvE rfl (by conv => lhs; whnf) ?_
                          refine R.mvE rfl (by conv => lhs; whnf) ?_
                          refine R.mvE rfl (by conv => lhs; whnf) ?_
                          refine R.ixp Tryz.underlying24 Tryz.sizeOf3 rfl rfl rfl (by omega) ix3' ?_
                          refine R.ld Tryz.isAgg3 rfl rfl .hd (hcs3 0 _ rfl) ?_
                          refine R.ixp Tryz.underlying24 Tryz.sizeOf3 rfl rfl rfl (by omega) (by rw [← hcl]; exact ix5) ?_
                          refine R.stE (y := y2) Tryz.sizeOf3 rfl rfl hw .hd ix5 rfl rfl rfl ?_
                          intro c51 w51
                          refine TL.nil (Post.thnN ?_)
                          refine T.region ?_
                          refine R.mvE rfl (by conv => lhs; whnf) ?_
                          refine R.addI rfl rfl rfl (by omega) ?_
                          refine R.asE rfl (by conv => lhs; whnf) ?_
                          refine TL.nil (Post.blkN ?_)
                          refine id (Post.thnN ?_)
                          refine T.region ?_
                          refine R.mvE rfl (by conv => lhs; whnf) ?_
                          refine R.addI rfl rfl rfl (by omega) ?_
                          refine R.asE rfl (by conv => lhs; whnf) ?_
                          refine TL.nil (Post.thnN ?_)
                          -- round's end, way ny11yy101y
                          exact ⟨(i + 1, j + 1, cur.set i y2, c51), s_6, ⟨⟨by omega, by show k + (j + 1) ≤ _; omega, by show i + 1 + 1 ≤ k + (j + 1); omega, by rw [List.length_set]; exact hcl⟩, rfl, rfl, by rw [List.length_set]; exact w51, by rw [set_take (by omega), htk, hkj, compactI_take hz2 hy2', if_neg c44, hkj1], fun q hq => by rw [List.getElem?_set_ne (by omega)]; exact hrest q (by omega)⟩, by show xs.length - (k + (j + 1)) < xs.length - (k + j); omega, ⟨rfl, rfl, rfl, rfl, trivial⟩⟩
                        · refine T.skip (Post.blkN ?_)
                          refine id (Post.thnN ?_)
                          refine T.region ?_
                          refine R.mvE rfl (by conv => lhs; whnf) ?_
                          refine R.addI rfl rfl rfl (by omega) ?_
                          refine R.asE rfl (by conv => lhs; whnf) ?_
                          refine TL.nil (Post.thnN ?_)
                          -- round's end, way ny11yy101n
                          exact ⟨(i, j + 1, cur, [(b3, .cells cs3 3)]), s_6, ⟨⟨by omega, by show k + (j + 1) ≤ _; omega, by show i + 1 ≤ k + (j + 1); omega, hcl⟩, rfl, rfl, hw, by rw [htk, hkj, compactI_take hz2 hy2', if_pos (Decidable.of_not_not c44), hkj1], hrest⟩, by show xs.length - (k + (j + 1)) < xs.length - (k + j); omega, ⟨rfl, rfl, rfl, rfl, trivial⟩⟩
                    · refine R.ld Tryz.isAgg3 rfl rfl .hd (hcs4 0 _ rfl) ?_
                      refine TL.nil (Plan.e1 (HLe.refl _) ?_)
                      refine Plan.s1 2 [3, 9] (by kernel_rfl) (by kernel_rfl) rfl ?_
                      refine R.ixp Tryz.underlying24 Tryz.sizeOf3 rfl rfl rfl (by omega) ix3' ?_
                      refine TL.nil (Plan.e1 (HLe.refl _) ?_)
                      refine Plan.s1 3 [9] (by kernel_rfl) (by kernel_rfl) rfl ?_
                      refine R.ld Tryz.isAgg3 rfl rfl .hd (hcs3 0 _ rfl) ?_
                      refine TL.nil (Plan.e1 (HLe.refl _) ?_)
                      refine Plan.v 9 [] (by kernel_rfl) (by kernel_rfl) (by kernel_rfl) (by kernel_rfl) rfl (fun _ _ h_ => R.neq rfl rfl rfl (TL.nil h_)) ?_
                      refine Plan.done (Post.thnN ?_)
                      refine T.condD rfl (fun c44 => ?_) (fun c44 => ?_)
                      · refine T.seq ?_
                        refine T.region ?_
                        refine R.mvE rfl (by conv => lhs; whnf) ?_
                        refine R.mvE rfl (by conv => lhs; whnf) ?_
                        refine R.mvE rfl (by conv => lhs; whnf) ?_
                        refine R.mvE rfl (by conv => lhs; whnf) ?_
                        refine R.ixp Tryz.underlying24 Tryz.sizeOf3 rfl rfl rfl (by omega) ix3' ?_
                        refine R.ld Tryz.isAgg3 rfl rfl .hd (hcs3 0 _ rfl) ?_
                        refine R.ixp Tryz.underlying24 Tryz.sizeOf3 rfl rfl rfl (by omega) (by rw [← hcl]; exact ix5) ?_
                        refine R.stE (y := y2) Tryz.sizeOf3 rfl rfl hw .hd ix5 rfl rfl rfl ?_
                        intro c51 w51
                        refine TL.nil (Post.thnN ?_)
                        refine T.region ?_
                        refine R.mvE rfl (by conv => lhs; whnf) ?_
                        refine R.addI rfl rfl rfl (by omega) ?_
                        refine R.asE rfl (by conv => lhs; whnf) ?_
                        refine TL.nil (Post.blkN ?_)
                        refine id (Post.thnN ?_)
                        refine T.region ?_
                        refine R.mvE rfl (by conv => lhs; whnf) ?_
                        refine R.addI rfl rfl rfl (by omega) ?_
                        refine R.asE rfl (by conv => lhs; whnf) ?_
                        refine TL.nil (Post.thnN ?_)
                        -- round's end, way ny11yy11y
                        exact ⟨(i + 1, j + 1, cur.set i y2, c51), s_6, ⟨⟨by omega, by show k + (j + 1) ≤ _; omega, by show i + 1 + 1 ≤ k + (j + 1); omega, by rw [List.length_set]; exact hcl⟩, rfl, rfl, by rw [List.length_set]; exact w51, by rw [set_take (by omega), htk, hkj, compactI_take hz2 hy2', if_neg c44, hkj1], fun q hq => by rw [List.getElem?_set_ne (by omega)]; exact hrest q (by omega)⟩, by show xs.length - (k + (j + 1)) < xs.length - (k + j); omega, ⟨rfl, rfl, rfl, rfl, trivial⟩⟩
                      · refine T.skip (Post.blkN ?_)
                        refine id (Post.thnN ?_)
                        refine T.region ?_
                        refine R.mvE rfl (by conv => lhs; whnf) ?_
                        refine R.addI rfl rfl rfl (by omega) ?_
                        refine R.asE rfl (by conv => lhs; whnf) ?_
                        refine TL.nil (Post.thnN ?_)
                        -- round's end, way ny11yy11n
                        exact ⟨(i, j + 1, cur, [(b3, .cells cs3 3)]), s_6, ⟨⟨by omega, by show k + (j + 1) ≤ _; omega, by show i + 1 ≤ k + (j + 1); omega, hcl⟩, rfl, rfl, hw, by rw [htk, hkj, compactI_take hz2 hy2', if_pos (Decidable.of_not_not c44), hkj1], hrest⟩, by show xs.length - (k + (j + 1)) < xs.length - (k + j); omega, ⟨rfl, rfl, rfl, rfl, trivial⟩⟩
                · have hje : k + j = xs.length := by omega
                  rw [hje, List.take_length] at htk
                  have hil : (cur.take i).length = i := by simp; omega
                  refine T.exit (Post.thnE (Post.thnE (Post.blkX ?_)))
                  refine id (Post.thnN ?_)
                  refine T.seq ?_
                  refine T.region ?_
                  refine R.mvE rfl (by conv => lhs; whnf) ?_
                  refine R.mvE rfl (by conv => lhs; whnf) ?_
                  refine R.sL Tryz.underlying24 Tryz.sizeOf3 rfl rfl rfl (by omega) (by omega) ?_
                  refine R.clr (dd := none) (xs := cur.take i) Tryz_ty24 (zone_of (z := .int .i64 0) (by kernel_rfl) (by intro v hv; have e0 : v = .int .i64 0 := (by simpa [Value.cells] using hv); subst e0; rfl)) rfl (fun q h => by cases h) (m := xs.length) (by rw [hil]; rfl) (by rw [hil]; exact own_take0 hw (by omega)) .hd (by omega) (by omega) ?_
                  intro c57 w57
                  refine TL.nil (Post.thnN ?_)
                  refine T.seq ?_
                  refine T.region ?_
                  refine R.mvE rfl (by conv => lhs; whnf) ?_
                  refine R.mvE rfl (by conv => lhs; whnf) ?_
                  refine R.sH Tryz.underlying24 Tryz.sizeOf3 rfl rfl rfl (by omega) (by omega) ?_
                  refine R.asE rfl (by conv => lhs; whnf) ?_
                  refine TL.nil (Post.thnN ?_)
                  refine T.ret (Post.blkR (Post.thnR (Post.thnR (Post.blkR (Post.thnR ?_)))))
                  -- way ny11yn
                  refine fin1L [c57] rfl rfl (List.Sublist.refl _) ⟨_, rfl, ?_⟩
                  show OwnS (intE .i64) 3 _ (slcV (.slice A xs.length cap) 0 i cap 1) (compactI xs) c57
                  rw [slc_take0, ← htk]
                  rw [hil] at w57
                  exact w57
            · refine T.skip (Post.blkN ?_)
              refine id (Post.thnN ?_)
              refine T.region ?_
              refine R.mvE rfl (by conv => lhs; whnf) ?_
              refine R.addI rfl rfl rfl (by omega) ?_
              refine R.asE rfl (by conv => lhs; whnf) ?_
              refine TL.nil (Post.thnN ?_)
              -- round's end, way ny11n
              exact ⟨k + 1, s_0, ⟨⟨by omega, by omega⟩, rfl, rfl, by rw [show k + 1 = (k - 1) + 2 by omega, compactI_take hz hy1, if_neg c25, show k - 1 + 1 = k by omega, hco, show k - 1 + 2 = k + 1 by omega, take_snoc _ _ _ hy]⟩, by omega, ⟨rfl, rfl, trivial⟩⟩
      · have hkx : k = xs.length := by omega
        rw [hkx, List.take_length] at hco
        refine T.exit (Post.thnE (Post.thnE (Post.blkX ?_)))
        refine id (Post.thnN ?_)
        refine T.seq ?_
        refine T.region ?_
        refine R.mvE rfl (by conv => lhs; whnf) ?_
        refine R.asE rfl (by conv => lhs; whnf) ?_
        refine TL.nil (Post.thnN ?_)
        refine T.ret ?_
        -- way nn
        exact fin1L [ch] rfl rfl (List.Sublist.refl _) ⟨_, rfl, by rw [hco]; exact ho⟩


set_option maxHeartbeats 1600000 in
theorem all_c (H : Heap) (v : Value) (xs : List Lk) (hr : RdS pairE H v xs) (hl : xs.length ≤ 1000) : Fc Tryz.prog (fnv 63) [v] H [] (fun v' H' L' => ∃ c, L' = [c] ∧ OwnS (intE .i64) 3 H' v' (allL xs) c) := by
  refine Fc.of_body (N := 20) Tryz.func63 rfl (by kernel_rfl) rfl rfl ?_
  intro w0
  obtain ⟨A, c, rfl, hc1, hc2, hr⟩ := hr.shape
  refine T.seq ?_
  refine T.region ?_
  refine R.asE rfl (by conv => lhs; whnf) ?_
  refine TL.nil (Post.thnN ?_)
  refine T.seq ?_
  refine T.region ?_
  refine R.asE rfl (by conv => lhs; whnf) ?_
  refine TL.nil (Post.thnN ?_)
  refine T.seq ?_
  refine T.seq ?_
  refine T.nilc ?_
  refine T.region ?_
  refine R.mvE rfl (by conv => lhs; whnf) ?_
  refine R.len Tryz.underlying22 rfl rfl ?_
  refine R.mvE rfl (by conv => lhs; whnf) ?_
  refine TL.nil (Post.thnN ?_)
  refine T.block ?_
  refine T.loop (ι := Nat × Value × Chunk) (fun ⟨k, vw, cw⟩ H' L' ds' => k ≤ xs.length ∧ ds' = [] ∧ L' = [cw] ∧ OwnS (intE .i64) 3 H' vw ((xs.take k).map (·.1)) cw) (fun ⟨k, vw, cw⟩ => [(3, vw), (6, .slice A xs.length c), (7, .int .i64 xs.length), (8, .int .i64 k)]) (fun ⟨k, vw, cw⟩ => xs.length - k) ((0, .slice none 0 0, [])) ?_ ?_ ?_
  · exact ⟨Nat.zero_le _, rfl, rfl, OwnS.nil⟩
  · exact ⟨rfl, rfl, rfl, rfl, trivial⟩
  · intro ⟨k, vw, cw⟩ σ0 H_0 L_0 ds_0 s_0 hI_0
    obtain ⟨hk, rfl, rfl, ho⟩ := hI_0
    refine T.seq ?_
    refine T.region ?_
    refine R.lss rfl rfl rfl ?_
    refine TL.nil (Post.thnN ?_)
    refine T.seq ?_
    refine T.condD rfl (fun c9 => ?_) (fun c9 => ?_)
    · have hlt : k < xs.length := by omega
      obtain ⟨y, hy⟩ := getk hlt
      refine T.skip (Post.thnN ?_)
      refine T.seq ?_
      refine T.block ?_
      refine T.seq ?_
      refine T.region ?_
      obtain ⟨b10, o10, i10, e10⟩ := (hr.mono s_0).elem (hy)
      refine R.ixp Tryz.underlying22 Tryz.sizeOf45 rfl rfl rfl (by omega) i10 ?_
      refine R.ldP Tryz.isAgg45 Tryz.sizeOf45 rfl rfl (e10) ?_
      refine R.alloc Tryz.zeroValue45 rfl ?_
      intro b5
      refine R.stA (old := [.int .i64 0, .int .i64 0]) Tryz.sizeOf45 rfl rfl rfl rfl rfl (by intro v hv; simp at hv; rcases hv with rfl | rfl <;> rfl) .hd ?_
      refine TL.nil (Post.thnN ?_)
      refine T.shut .hd ?_
      intro H5 s5 q5
      have h5 : H5 b5 = some (.cells #[.int .i64 y.1, .int .i64 y.2] 45) := shut1 q5
      refine T.region ?_
      refine R.mvE rfl (by conv => lhs; whnf) ?_
      refine R.fldA Tryz.underlying45 rfl Tryz.sizeOf3 (by decide) rfl rfl ?_
      refine R.ldH Tryz.isAgg3 rfl rfl (h5) rfl ?_
      refine R.bs rfl (run_buildSlice1 Tryz.underlying24 Tryz.sizeOf3 Tryz.zeroValue3 rfl rfl) ?_
      intro b15
      refine R.app (ys := [y.1]) Tryz_ty24 rfl rfl rfl (ho.mono s5) (.tl .hd) (Src.lit (vs := [.int .i64 y.1]) .hd) ⟨[.int .i64 y.1], [], rfl, rfl, rfl⟩ (by simp; omega) (by simp; omega) ?_
      intro v16 c16 w16
      refine TL.del (.tl .hd) ?_
      refine R.asE rfl (by conv => lhs; whnf) ?_
      refine TL.nil (Post.blkN ?_)
      refine id (Post.thnN ?_)
      refine T.region ?_
      refine R.addI rfl rfl rfl (by omega) ?_
      refine R.mvE rfl (by conv => lhs; whnf) ?_
      refine TL.nil (Post.thnN ?_)
      -- round's end, way y
      exact ⟨(k + 1, v16, c16), s_0.trans s5, ⟨by show k + 1 ≤ _; omega, rfl, rfl, by rw [take_snoc _ _ _ hy, List.map_append]; exact w16⟩, by show xs.length - (k + 1) < xs.length - k; omega, ⟨rfl, rfl, rfl, rfl, trivial⟩⟩
    · have hkx : k = xs.length := by omega
      rw [hkx, List.take_length] at ho
      refine T.exit (Post.thnE (Post.thnE (Post.blkX ?_)))
      refine id (Post.thnN ?_)
      refine T.seq ?_
      refine T.region ?_
      refine R.mvE rfl (by conv => lhs; whnf) ?_
      refine TL.call [true] rfl rfl rfl (compactI_c _ _ _ _ ho) ?_
      intro v19 H19 L19 s19 q19
      obtain ⟨c19, rfl, w19⟩ := q19
      refine R.asE rfl (by conv => lhs; whnf) ?_
      refine TL.nil (Post.thnN ?_)
      refine T.ret ?_
      -- way n
      exact fin1L [c19] rfl rfl (List.Sublist.refl _) ⟨_, rfl, w19⟩


/-- what a call of deep leaves -/
def DPost (xs : List Lk) (mk : Nat) (n : Int) (m : MapL) : Value → Heap → Own → Prop := fun v' _ L' => v' = .int .i64 (depL xs n) ∧ ∃ es' ck' m', L' = [[(mk, .map es' ck')]] ∧ MapIs .i64 es' m' ∧ KOK xs m' ∧ KLe m m' ∧ mget m' n ≠ none
/-- what is known, as rises goes on -/
def RSK (xs : List Lk) (mk : Nat) (pre : List Lk) (_ : Heap) (c : Chunk) : Prop := ∃ es ck m, c = [(mk, .map es ck)] ∧ MapIs .i64 es m ∧ KOK xs m ∧ ∀ y ∈ pre, mget m y.1 ≠ none

set_option maxHeartbeats 1600000 in
theorem deepS_c (H : Heap) (bk bt bd : Nat) (mk mt : Nat) (est : Array MapEntry) (ckt : Nat) (mT : MapL) (xs : List Lk) (hmt : H mt = some (.map est ckt)) (hmT : MapIs .i64 est mT) (hAt : ∀ j, RdS (intE .i64) H ((mget mT j).getD (.slice none 0 0)) (toL xs j)) (hA : Acyc xs) (hl : xs.length ≤ 1000) (hk : H bk = some (.cells #[.map (some mk)] 93)) (ht : H bt = some (.cells #[.map (some mt)] 90)) (hd : H bd = some (.cells #[(.func (.func 132) #[] ([.pointer (some ⟨bk, 0, none⟩), .pointer (some ⟨bt, 0, none⟩), .pointer (some ⟨bd, 0, none⟩)] : List Value).toArray)] 152)) (n : Int) (ih : ∀ t, t ∈ toL xs n → ∀ H' es ck m, HLe H H' → MapIs .i64 es m → KOK xs m → Fc Tryz.prog (.func (.func 132) #[] ([.pointer (some ⟨bk, 0, none⟩), .pointer (some ⟨bt, 0, none⟩), .pointer (some ⟨bd, 0, none⟩)] : List Value).toArray) [.int .i64 t] H' [[(mk, .map es ck)]] (DPost xs mk t m)) (es : Array MapEntry) (ck : Nat) (m : MapL) (hm : MapIs .i64 es m) (hK : KOK xs m) : Fc Tryz.prog (.func (.func 132) #[] ([.pointer (some ⟨bk, 0, none⟩), .pointer (some ⟨bt, 0, none⟩), .pointer (some ⟨bd, 0, none⟩)] : List Value).toArray) [.int .i64 n] H [[(mk, .map es ck)]] (DPost xs mk n m) := by
  refine Fc.of_body (N := 38) Tryz.func132 rfl (by kernel_rfl) rfl rfl ?_
  intro w0
  refine T.seq ?_
  refine T.region ?_
  refine R.asE rfl (by conv => lhs; whnf) ?_
  refine TL.nil (Post.thnN ?_)
  refine T.seq ?_
  refine T.seq ?_
  refine T.region ?_
  refine R.ldH Tryz.isAgg93 rfl rfl (hk) rfl ?_
  refine R.mvE rfl (by conv => lhs; whnf) ?_
  refine R.lkok Tryz.underlying93 Tryz.underlying3 Tryz.zeroValue3 rfl rfl rfl .hd hm ?_
  refine R.mvE rfl (by conv => lhs; whnf) ?_
  refine R.ext rfl rfl rfl ?_
  refine R.ext rfl rfl rfl ?_
  refine R.asE rfl (by conv => lhs; whnf) ?_
  refine R.asE rfl (by conv => lhs; whnf) ?_
  refine TL.nil (Post.thnN ?_)
  refine T.seq ?_
  refine T.region ?_
  refine R.mvE rfl (by conv => lhs; whnf) ?_
  refine TL.nil (Post.thnN ?_)
  refine T.cond rfl (fun c17 => ?_) (fun c17 => ?_)
  · have hns : mget m n ≠ none := fun e => by rw [e] at c17; cases c17
    refine T.seq ?_
    refine T.region ?_
    refine R.mvE rfl (by conv => lhs; whnf) ?_
    refine R.asE rfl (by conv => lhs; whnf) ?_
    refine TL.nil (Post.thnN ?_)
    refine T.ret (Post.thnR ?_)
    -- way y
    exact fin1L [_] rfl rfl (List.Sublist.refl _) ⟨hK.is hns, es, ck, m, rfl, hm, hK, KLe.refl _, hns⟩
  · refine T.skip (Post.thnN ?_)
    refine T.seq ?_
    refine T.region ?_
    refine R.asE rfl (by conv => lhs; whnf) ?_
    refine TL.nil (Post.thnN ?_)
    refine T.seq ?_
    refine T.seq ?_
    refine T.region ?_
    refine R.ldH Tryz.isAgg90 rfl rfl (ht) rfl ?_
    refine R.mvE rfl (by conv => lhs; whnf) ?_
    refine R.lkuH Tryz.underlying90 Tryz.underlying3 Tryz.zeroValue24 rfl rfl rfl hmt hmT ?_
    have hat := hAt n
    obtain ⟨At, kt, hva, ht1, ht2, hat⟩ := hat.shape
    refine TL.set 21 (.slice At (toL xs n).length kt) hva ?_
    refine R.len Tryz.underlying24 rfl rfl ?_
    refine R.mvE rfl (by conv => lhs; whnf) ?_
    refine TL.nil (Post.thnN ?_)
    refine T.block ?_
    refine T.loop (ι := Nat × Array MapEntry × Nat × MapL) (fun ⟨k, es2, ck2, m2⟩ H' L' ds' => k ≤ (toL xs n).length ∧ ds' = [] ∧ L' = [[(mk, .map es2 ck2)]] ∧ MapIs .i64 es2 m2 ∧ KOK xs m2 ∧ KLe m m2) (fun ⟨k, es2, ck2, m2⟩ => [(0, .int .i64 n), (1, .pointer (some ⟨bk, 0, none⟩)), (2, .pointer (some ⟨bt, 0, none⟩)), (3, .pointer (some ⟨bd, 0, none⟩)), (8, .int .i64 (maxL (((toL xs n).take k).map (fun t => depL xs t + 1)))), (21, .slice At (toL xs n).length kt), (22, .int .i64 (toL xs n).length), (23, .int .i64 k)]) (fun ⟨k, es2, ck2, m2⟩ => (toL xs n).length - k) ((0, es, ck, m)) ?_ ?_ ?_
    · exact ⟨Nat.zero_le _, rfl, rfl, hm, hK, KLe.refl _⟩
    · exact ⟨rfl, rfl, rfl, rfl, rfl, rfl, rfl, rfl, trivial⟩
    · intro ⟨k, es2, ck2, m2⟩ σ0 H_0 L_0 ds_0 s_0 hI_0
      obtain ⟨hk0, rfl, rfl, hm2, hK2, hL2⟩ := hI_0
      refine T.seq ?_
      refine T.region ?_
      refine R.lss rfl rfl rfl ?_
      refine TL.nil (Post.thnN ?_)
      refine T.seq ?_
      refine T.condD rfl (fun c24 => ?_) (fun c24 => ?_)
      · have hlt : k < (toL xs n).length := by omega
        obtain ⟨y, hy⟩ := getk hlt
        have hbd := dep_bd xs y
        refine T.skip (Post.thnN ?_)
        refine T.seq ?_
        refine T.block ?_
        refine T.seq ?_
        refine T.region ?_
        obtain ⟨b25, o25, i25, e25⟩ := (hat.mono s_0).elem (hy)
        refine R.ixp Tryz.underlying24 Tryz.sizeOf3 rfl rfl rfl (by omega) i25 ?_
        refine R.ldC Tryz.isAgg3 rfl rfl (e25).int ?_
        refine R.asE rfl (by conv => lhs; whnf) ?_
        refine TL.nil (Post.thnN ?_)
        refine T.region ?_
        refine R.mvE rfl (by conv => lhs; whnf) ?_
        refine R.ldH Tryz.isAgg152 rfl rfl ((s_0 _ _ hd)) rfl ?_
        refine R.mvE rfl (by conv => lhs; whnf) ?_
        refine TL.call [true] rfl rfl rfl (ih y (List.mem_of_getElem? hy) _ es2 ck2 m2 s_0 hm2 hK2) ?_
        intro v30 H30 L30 s30 q30
        obtain ⟨rfl, es30, ck30, m30, rfl, hm30, hK30, hL30, _⟩ := q30
        refine R.addI rfl rfl rfl (by omega) ?_
        refine R.max2 rfl rfl rfl ?_
        have hmx : (if (maxL (((toL xs n).take k).map (fun t => depL xs t + 1))) < depL xs y + 1 then depL xs y + 1 else (maxL (((toL xs n).take k).map (fun t => depL xs t + 1)))) = maxL (((toL xs n).take (k + 1)).map (fun t => depL xs t + 1)) := by
          rw [take_snoc _ _ _ hy, List.map_append, List.map_cons, List.map_nil, maxL_snoc]
          split <;> omega
        refine TL.set 32 (.int .i64 (maxL (((toL xs n).take (k + 1)).map (fun t => depL xs t + 1)))) (congrArg _ hmx) ?_
        refine R.asE rfl (by conv => lhs; whnf) ?_
        refine TL.nil (Post.blkN ?_)
        refine id (Post.thnN ?_)
        refine T.region ?_
        refine R.addI rfl rfl rfl (by omega) ?_
        refine R.mvE rfl (by conv => lhs; whnf) ?_
        refine TL.nil (Post.thnN ?_)
        -- round's end, way ny
        exact ⟨(k + 1, es30, ck30, m30), s_0.trans s30, ⟨by show k + 1 ≤ _; omega, rfl, rfl, hm30, hK30, hL2.trans hL30⟩, by show (toL xs n).length - (k + 1) < (toL xs n).length - k; omega, ⟨rfl, rfl, rfl, rfl, rfl, rfl, rfl, rfl, trivial⟩⟩
      · have hkx : k = (toL xs n).length := by omega
        have hmo : (maxL (((toL xs n).take k).map (fun t => depL xs t + 1))) = depL xs n := by rw [hkx, List.take_length, ← dep_eq hA n]
        refine T.exit (Post.thnE (Post.thnE (Post.blkX ?_)))
        refine id (Post.thnN ?_)
        refine T.seq ?_
        refine T.region ?_
        refine R.ldH Tryz.isAgg93 rfl rfl ((s_0 _ _ hk)) rfl ?_
        refine R.mvE rfl (by conv => lhs; whnf) ?_
        refine R.mvE rfl (by conv => lhs; whnf) ?_
        refine R.mup Tryz.underlying93 Tryz.underlying3 rfl rfl rfl rfl .hd hm2 ?_
        intro es36 ck36 i36
        refine TL.nil (Post.thnN ?_)
        refine T.seq ?_
        refine T.region ?_
        refine R.mvE rfl (by conv => lhs; whnf) ?_
        refine R.asE rfl (by conv => lhs; whnf) ?_
        refine TL.nil (Post.thnN ?_)
        refine T.ret ?_
        -- way nn
        exact fin1L [_] rfl rfl (List.Sublist.refl _) ⟨congrArg _ hmo, es36, ck36, _, rfl, i36, hK2.put hmo, hL2.trans (KLe.put _ _ _), mput_at _ _ _⟩


theorem deep_c (H : Heap) (bk bt bd : Nat) (mk mt : Nat) (est : Array MapEntry) (ckt : Nat) (mT : MapL) (xs : List Lk) (hmt : H mt = some (.map est ckt)) (hmT : MapIs .i64 est mT) (hAt : ∀ j, RdS (intE .i64) H ((mget mT j).getD (.slice none 0 0)) (toL xs j)) (hA : Acyc xs) (hl : xs.length ≤ 1000) (hk : H bk = some (.cells #[.map (some mk)] 93)) (ht : H bt = some (.cells #[.map (some mt)] 90)) (hd : H bd = some (.cells #[(.func (.func 132) #[] ([.pointer (some ⟨bk, 0, none⟩), .pointer (some ⟨bt, 0, none⟩), .pointer (some ⟨bd, 0, none⟩)] : List Value).toArray)] 152)) : ∀ (r : Nat) (n : Int), rankL xs n ≤ r → ∀ H' es ck m, HLe H H' → MapIs .i64 es m → KOK xs m → Fc Tryz.prog (.func (.func 132) #[] ([.pointer (some ⟨bk, 0, none⟩), .pointer (some ⟨bt, 0, none⟩), .pointer (some ⟨bd, 0, none⟩)] : List Value).toArray) [.int .i64 n] H' [[(mk, .map es ck)]] (DPost xs mk n m) := fun r => by
  induction r with
  | zero =>
    intro n hn H' es ck m hle hm hK
    exact deepS_c H' bk bt bd mk mt est ckt mT xs (hle _ _ hmt) hmT (fun j => (hAt j).mono hle) hA hl (hle _ _ hk) (hle _ _ ht) (hle _ _ hd) n (fun t ht => absurd (rank_lt hA ht) (by omega)) es ck m hm hK
  | succ r ih =>
    intro n hn H' es ck m hle hm hK
    exact deepS_c H' bk bt bd mk mt est ckt mT xs (hle _ _ hmt) hmT (fun j => (hAt j).mono hle) hA hl (hle _ _ hk) (hle _ _ ht) (hle _ _ hd) n (fun t ht H2 es2 ck2 m2 h2 hm2 hK2 => ih t (by have := rank_lt hA ht; omega) H2 es2 ck2 m2 (hle.trans h2) hm2 hK2) es ck m hm hK

set_option maxHeartbeats 1600000 in
theorem risesIt_c (H : Heap) (bk bt br : Nat) (mk mt : Nat) (est : Array MapEntry) (ckt : Nat) (mT : MapL) (xs : List Lk) (hmt : H mt = some (.map est ckt)) (hmT : MapIs .i64 est mT) (hAt : ∀ j, RdS (intE .i64) H ((mget mT j).getD (.slice none 0 0)) (toL xs j)) (hA : Acyc xs) (hl : xs.length ≤ 1000) (hk : H bk = some (.cells #[.map (some mk)] 93)) (ht : H bt = some (.cells #[.map (some mt)] 90)) (v : Value) (row : List Int) (hb : H br = some (.cells #[v] 24)) (hrr : RdS (intE .i64) H v row) (hpos : ∀ n ∈ row, 0 < depL xs n) : IterR Tryz.prog (.func (.func 131) #[] ([.pointer (some ⟨bk, 0, none⟩), .pointer (some ⟨bt, 0, none⟩), .pointer (some ⟨br, 0, none⟩)] : List Value).toArray) YP (RSK xs mk) H (row.map (fun n => (n, depL xs n))) := by
  obtain ⟨A, c, rfl, hc1, hc2, hrr⟩ := hrr.shape
  intro l J Jx H1 cR Lc hle hJ hJx hY hR h0
  obtain ⟨es, ck, m, rfl, hm, hK, _⟩ := hR
  refine Fc.of_body (N := 30) Tryz.func131 rfl (by kernel_rfl) rfl rfl ?_
  intro w0
  refine T.seq ?_
  refine T.region ?_
  refine R.alloc Tryz.zeroValue152 rfl ?_
  intro b5
  refine TL.nil (Post.thnN ?_)
  refine T.seq ?_
  refine T.region ?_
  refine R.mkf (cs := [_, _, _]) rfl rfl ?_
  refine R.st Tryz.sizeOf152 rfl rfl (by conv => lhs; whnf) rfl (by first | exact .hd | exact .tl .hd | exact .tl (.tl .hd) | exact .tl (.tl (.tl .hd)) | exact .tl (.tl (.tl (.tl .hd))) | exact .tl (.tl (.tl (.tl (.tl .hd)))) | exact .tl (.tl (.tl (.tl (.tl (.tl .hd))))) | exact .tl (.tl (.tl (.tl (.tl (.tl (.tl .hd)))))) | exact .tl (.tl (.tl (.tl (.tl (.tl (.tl (.tl .hd))))))) | exact .tl (.tl (.tl (.tl (.tl (.tl (.tl (.tl (.tl .hd))))))))) ?_
  refine TL.nil (Post.thnN ?_)
  refine T.seq ?_
  refine T.shut .hd ?_
  intro H5 s5 q5
  have h5 : H5 b5 = some (.cells #[(.func (.func 132) #[] ([.pointer (some ⟨bk, 0, none⟩), .pointer (some ⟨bt, 0, none⟩), .pointer (some ⟨b5, 0, none⟩)] : List Value).toArray)] 152) := shut1 q5
  refine T.region ?_
  refine R.ldH Tryz.isAgg24 rfl rfl ((s5 _ _ (hle _ _ hb))) rfl ?_
  refine R.len Tryz.underlying24 rfl rfl ?_
  refine R.mvE rfl (by conv => lhs; whnf) ?_
  refine TL.nil (Post.thnN ?_)
  refine T.block ?_
  refine T.loop (ι := Nat × Array MapEntry × Nat × MapL × Own) (fun ⟨k, es2, ck2, m2, Lj⟩ H' L' ds' => k ≤ row.length ∧ ds' = [] ∧ L' = [(mk, .map es2 ck2)] :: Lj ∧ MapIs .i64 es2 m2 ∧ KOK xs m2 ∧ (∀ n ∈ row.take k, mget m2 n ≠ none) ∧ J ((row.take k).map (fun n => (n, depL xs n))) H' Lj) (fun ⟨k, es2, ck2, m2, Lj⟩ => [(0, yieldv l), (5, .pointer (some ⟨b5, 0, none⟩)), (10, .slice A row.length c), (11, .int .i64 row.length), (12, .int .i64 k)]) (fun ⟨k, es2, ck2, m2, Lj⟩ => row.length - k) ((0, es, ck, m, Lc)) ?_ ?_ ?_
  · exact ⟨Nat.zero_le _, rfl, rfl, hm, hK, fun n h => by simp at h, hJ _ _ _ _ s5 h0⟩
  · exact ⟨rfl, rfl, rfl, rfl, rfl, trivial⟩
  · intro ⟨k, es2, ck2, m2, Lj⟩ σ0 H_0 L_0 ds_0 s_0 hI_0
    obtain ⟨hk0, rfl, rfl, hm2, hK2, hkn, hJk⟩ := hI_0
    refine T.seq ?_
    refine T.region ?_
    refine R.lss rfl rfl rfl ?_
    refine TL.nil (Post.thnN ?_)
    refine T.seq ?_
    refine T.condD rfl (fun c13 => ?_) (fun c13 => ?_)
    · have hlt : k < row.length := by omega
      obtain ⟨y, hy⟩ := getk hlt
      have hpe : (row.take k).map (fun n => (n, depL xs n)) ++ [(y, depL xs y)] = (row.take (k + 1)).map (fun n => (n, depL xs n)) := by rw [take_snoc _ _ _ hy, List.map_append]; rfl
      have hpre : (row.take k).map (fun n => (n, depL xs n)) ++ [(y, depL xs y)] <+: row.map (fun n => (n, depL xs n)) := by rw [hpe, List.map_take]; exact List.take_prefix _ _
      refine T.skip (Post.thnN ?_)
      refine T.seq ?_
      refine T.block ?_
      refine T.seq ?_
      refine T.region ?_
      obtain ⟨b14, o14, i14, e14⟩ := (hrr.mono (hle.trans (s5.trans s_0))).elem (hy)
      refine R.ixp Tryz.underlying24 Tryz.sizeOf3 rfl rfl rfl (by omega) i14 ?_
      refine R.ldC Tryz.isAgg3 rfl rfl (e14).int ?_
      refine R.asE rfl (by conv => lhs; whnf) ?_
      refine TL.nil (Post.thnN ?_)
      refine T.seq ?_
      refine T.region ?_
      refine R.ldH Tryz.isAgg152 rfl rfl ((s_0 _ _ h5)) rfl ?_
      refine R.mvE rfl (by conv => lhs; whnf) ?_
      refine TL.call [true] rfl rfl rfl (deep_c H_0 bk bt b5 mk mt est ckt mT xs ((hle.trans (s5.trans s_0)) _ _ hmt) hmT (fun j => (hAt j).mono (hle.trans (s5.trans s_0))) hA hl ((hle.trans (s5.trans s_0)) _ _ hk) ((hle.trans (s5.trans s_0)) _ _ ht) (s_0 _ _ h5) _ y (Nat.le_refl _) H_0 es2 ck2 m2 (HLe.refl _) hm2 hK2) ?_
      intro v18 H18 L18 s18 q18
      obtain ⟨rfl, es18, ck18, m18, rfl, hm18, hK18, hL18, hn18⟩ := q18
      have hRS : RSK xs mk ((row.take k).map (fun n => (n, depL xs n)) ++ [(y, depL xs y)]) H18 [(mk, .map es18 ck18)] := ⟨es18, ck18, m18, rfl, hm18, hK18, fun z hz => by
        rcases List.mem_append.1 hz with hz | hz
        · obtain ⟨n, hn, rfl⟩ := List.mem_map.1 hz
          exact hL18 n (hkn n hn)
        · rw [List.mem_singleton.1 hz]; exact hn18⟩
      refine R.asE rfl (by conv => lhs; whnf) ?_
      refine TL.nil (Post.thnN ?_)
      refine T.seq ?_
      refine T.region ?_
      refine R.mvE rfl (by conv => lhs; whnf) ?_
      refine R.gtr rfl rfl rfl ?_
      refine R.mvE rfl (by conv => lhs; whnf) ?_
      refine TL.set 21 (.bool true) (congrArg Value.bool (decide_eq_true (hpos y (List.mem_of_getElem? hy)))) ?_
      refine R.mvE rfl (by conv => lhs; whnf) ?_
      refine R.mvE rfl (by conv => lhs; whnf) ?_
      refine R.mvE rfl (by conv => lhs; whnf) ?_
      refine R.bld (cs := [.int .i64 y, .int .i64 (depL xs y)]) rfl (fun _ => by kernel_rfl) ?_
      refine TL.callT 0 rfl rfl rfl (hY ((row.take k).map (fun n => (n, depL xs n))) (y, depL xs y) _ H18 _ Lj (s5.trans (s_0.trans s18)) hpre (hJ _ _ _ _ s18 hJk) hRS rfl) ?_
      intro v26 H26 L26 s26 q26
      rcases q26 with ⟨rfl, c26, M26, rfl, hR26, hJ2⟩ | ⟨rfl, c26, M26, rfl, hR26, hJ2⟩
      · refine R.not rfl rfl ?_
        refine R.pkTE rfl rfl (by conv => lhs; whnf) ?_
        refine TL.nil (Post.thnN ?_)
        refine T.condN rfl ?_
        refine T.skip (Post.blkN ?_)
        refine id (Post.thnN ?_)
        refine T.region ?_
        refine R.addI rfl rfl rfl (by omega) ?_
        refine R.mvE rfl (by conv => lhs; whnf) ?_
        refine TL.nil (Post.thnN ?_)
        -- round's end, way yy
        obtain ⟨es26, ck26, m26, rfl, hm26, hK26, hn26⟩ := hR26
        exact ⟨(k + 1, es26, ck26, m26, M26), s_0.trans (s18.trans s26), ⟨by show k + 1 ≤ _; omega, rfl, rfl, hm26, hK26, fun n hn => hn26 (n, depL xs n) (by rw [hpe, List.map_take]; rw [← List.map_take]; exact List.mem_map.2 ⟨n, hn, rfl⟩), by have h9 := hJ2; rw [hpe, List.map_take] at h9; rw [List.map_take]; exact h9⟩, by show row.length - (k + 1) < row.length - k; omega, ⟨rfl, rfl, rfl, rfl, rfl, trivial⟩⟩
      · refine R.not rfl rfl ?_
        refine R.pkTE rfl rfl (by conv => lhs; whnf) ?_
        refine TL.nil (Post.thnN ?_)
        refine T.condY rfl ?_
        refine T.ret (Post.blkR (Post.thnR (Post.thnR (Post.blkR ?_))))
        -- way yn
        exact fin0L (c26 :: M26) rfl (List.Sublist.refl _) (.inr ⟨_, (y, depL xs y), hpre, c26, M26, rfl, hR26, hJ2⟩)
    · have hkx : k = row.length := by omega
      rw [hkx, List.take_length] at hJk hkn
      refine T.exit (Post.thnE (Post.thnE (Post.blkX ?_)))
      refine id ?_
      -- way n
      exact fin0N ([(mk, .map es2 ck2)] :: Lj) rfl (List.Sublist.refl _) (.inl ⟨_, Lj, rfl, ⟨es2, ck2, m2, rfl, hm2, hK2, fun z hz => by
        obtain ⟨n, hn, rfl⟩ := List.mem_map.1 hz
        exact hkn n hn⟩, hJk⟩)


set_option maxHeartbeats 1600000 in
theorem rises_c (H : Heap) (mk mt : Nat) (est : Array MapEntry) (ckt : Nat) (mT : MapL) (xs : List Lk) (hmt : H mt = some (.map est ckt)) (hmT : MapIs .i64 est mT) (hAt : ∀ j, RdS (intE .i64) H ((mget mT j).getD (.slice none 0 0)) (toL xs j)) (hA : Acyc xs) (hl : xs.length ≤ 1000) (v : Value) (row : List Int) (hrr : RdS (intE .i64) H v row) (hpos : ∀ n ∈ row, 0 < depL xs n) : Fp Tryz.prog (fnv 61) [.map (some mt), v, .map (some mk)] H (fun v' H' => ∃ lb, v' = .func (.func 131) #[] lb ∧ IterR Tryz.prog v' YP (RSK xs mk) H' (row.map (fun n => (n, depL xs n)))) := by
  refine Fc.of_body (N := 8) Tryz.func61 rfl (by kernel_rfl) rfl rfl ?_
  intro w0
  obtain ⟨A, c, rfl, hc1, hc2, hrr⟩ := hrr.shape
  refine T.seq ?_
  refine T.region ?_
  refine R.box rfl (by conv => lhs; whnf) ?_
  intro b3
  refine R.box rfl (by conv => lhs; whnf) ?_
  intro b4
  refine R.box rfl (by conv => lhs; whnf) ?_
  intro b5
  refine R.asE rfl (by conv => lhs; whnf) ?_
  refine TL.nil (Post.thnN ?_)
  refine T.seq ?_
  refine T.shut .hd ?_
  intro H5 s5 q5
  refine T.shut .hd ?_
  intro H4 s4 q4
  refine T.shut .hd ?_
  intro H3 s3 q3
  have hle := s5.trans (s4.trans s3)
  refine T.region ?_
  refine R.mkf (cs := [_, _, _]) rfl rfl ?_
  refine R.asE rfl (by conv => lhs; whnf) ?_
  refine TL.nil (Post.thnN ?_)
  refine T.ret ?_
  exact fin1 rfl rfl ⟨rfl, _, rfl, risesIt_c H3 b5 b3 b4 mk mt est ckt mT xs (hle _ _ hmt) hmT (fun j => (hAt j).mono hle) hA hl ((s4.trans s3) _ _ (shut1 q5)) (shut1 q3) _ row (s3 _ _ (shut1 q4)) (hrr.mono hle) hpos⟩


set_option maxHeartbeats 1600000 in
theorem appseqD_c (H : Heap) (gf : Nat) (lb : Array Value) (ys : List Lk) (RS : List Lk → Heap → Chunk → Prop) (c0 : Chunk) (hen : Enters Tryz.prog gf) (hl : ys.length ≤ 100000) (hit : IterR Tryz.prog (.func (.func gf) #[] lb) YP RS H ys) (hRm : ∀ pre H H' c, HLe H H' → RS pre H c → RS pre H' c) (hrs : RS [] H c0) : Fc Tryz.prog (fnv 130) [.slice none 0 0, .func (.func gf) #[] lb] H [c0] (fun v' H' L' => ∃ c2 c1, L' = [c2, c1] ∧ RS ys H' c2 ∧ OwnS pairE 29 H' v' ys c1) := by
  refine Fc.of_body (N := 13) Tryz.func130 rfl (by kernel_rfl) rfl rfl ?_
  intro w0
  refine T.seq ?_
  refine T.region ?_
  refine R.box rfl (by conv => lhs; whnf) ?_
  intro b2
  refine R.asE rfl (by conv => lhs; whnf) ?_
  refine TL.nil (Post.thnN ?_)
  refine T.seq ?_
  refine T.seq ?_
  refine T.nilc ?_
  refine T.region ?_
  refine R.mvE rfl (by conv => lhs; whnf) ?_
  refine TL.nil (Post.thnN ?_)
  refine T.block ?_
  refine T.permL (L' := c0 :: [] :: [[(b2, .cells #[.slice none 0 0] 23)]]) (by simp only [List.flatten_cons, List.flatten_nil, List.append_nil, List.nil_append]; exact List.perm_append_comm (l₁ := [(b2, Obj.cells #[.slice none 0 0] 23)])) ?_
  refine T.rangeFuncR rfl rfl hen hit (fun _ _ _ h => by subst h; rfl) rfl (fun pre H' L' => ∃ v c, L' = [c, [(b2, .cells #[v] 23)]] ∧ OwnS pairE 29 H' v pre c) (fun c pre H' L' => False) (fun pre H H' L hle ⟨v, c, h1, h2⟩ => ⟨v, c, h1, h2.mono hle⟩) (fun _ _ _ _ _ _ h => h) (hrs) ?_ ?_ ?_ ?_
  · exact ⟨_, _, rfl, OwnS.nil⟩
  · intro l0 r0 w0 pre y vs Hr0 cR0 Lr0 sr0 hp0 hI0 hR0 hY0
    obtain ⟨v, c, rfl, ho⟩ := hI0
    obtain rfl := hY0
    have hpl := hp0.length_le
    simp at hpl
    refine T.region ?_
    refine R.alloc Tryz.zeroValue29 rfl ?_
    intro b5
    refine R.stA (old := [.int .i64 0, .int .i64 0]) Tryz.sizeOf29 rfl rfl rfl rfl rfl (by intro v hv; simp at hv; rcases hv with rfl | rfl <;> rfl) .hd ?_
    refine TL.nil ?_
    refine onlyN.mk ?_
    refine T.block ?_
    refine T.shut .hd ?_
    intro H5 s5 q5
    have h5 : H5 b5 = some (.cells #[.int .i64 y.1, .int .i64 y.2] 29) := shut1 q5
    refine T.region ?_
    refine R.ld Tryz.isAgg23 rfl rfl (by repeat (first | exact .hd | refine .tl ?_)) rfl ?_
    refine R.ldAH Tryz.isAgg29 Tryz.sizeOf29 rfl rfl rfl h5 ?_
    refine R.bs (e := 29) (cs := [.int .i64 y.1, .int .i64 y.2]) rfl (fun _ => by kernel_rfl) ?_
    intro b10
    refine R.app (ys := [y]) Tryz_ty23 rfl rfl rfl (ho.mono s5) (.tl (.tl .hd)) (Src.lit (vs := [.int .i64 y.1, .int .i64 y.2]) .hd) ⟨[.int .i64 y.1, .int .i64 y.2], [], rfl, rfl, rfl⟩ (by simp; omega) (by simp; omega) ?_
    intro v11 c11 w11
    refine R.st Tryz.sizeOf23 rfl rfl rfl (by obtain ⟨_, _, e, _⟩ := w11.shape; subst e; rfl) (by first | exact .hd | exact .tl .hd | exact .tl (.tl .hd) | exact .tl (.tl (.tl .hd)) | exact .tl (.tl (.tl (.tl .hd))) | exact .tl (.tl (.tl (.tl (.tl .hd)))) | exact .tl (.tl (.tl (.tl (.tl (.tl .hd))))) | exact .tl (.tl (.tl (.tl (.tl (.tl (.tl .hd)))))) | exact .tl (.tl (.tl (.tl (.tl (.tl (.tl (.tl .hd))))))) | exact .tl (.tl (.tl (.tl (.tl (.tl (.tl (.tl (.tl .hd))))))))) ?_
    refine TL.del (.tl .hd) ?_
    refine TL.permL (perm_two (a := c11) (b := cR0)) ?_
    refine TL.nil (Post.blkN ?_)
    refine id ?_
    -- way b
    exact ⟨cR0, [c11, [(b2, .cells #[v11] 23)]], rfl, hRm _ _ _ _ s5 hR0, v11, c11, rfl, w11⟩
  · intro D0 Hr0 cR0 Lr0 sr0 hR0 hI0
    obtain ⟨v, c, rfl, ho⟩ := hI0
    refine id (Post.blkN ?_)
    refine id (Post.thnN ?_)
    refine T.seq ?_
    refine T.region ?_
    refine R.ld Tryz.isAgg23 rfl rfl (by repeat (first | exact .hd | refine .tl ?_)) rfl ?_
    refine R.asE rfl (by conv => lhs; whnf) ?_
    refine TL.nil (Post.thnN ?_)
    refine T.ret ?_
    -- way d
    exact fin1L [cR0, c] rfl rfl (List.Sublist.cons_cons _ (List.Sublist.cons_cons _ (List.nil_sublist _))) ⟨cR0, c, rfl, hR0, ho⟩
  · intro D0 c0 pre y Hr0 cR0 Lr0 sr0 hp0 hR0 hI0
    exact hI0.elim


set_option maxHeartbeats 1600000 in
theorem collectD_c (H : Heap) (gf : Nat) (lb : Array Value) (ys : List Lk) (RS : List Lk → Heap → Chunk → Prop) (c0 : Chunk) (hen : Enters Tryz.prog gf) (hl : ys.length ≤ 100000) (hit : IterR Tryz.prog (.func (.func gf) #[] lb) YP RS H ys) (hRm : ∀ pre H H' c, HLe H H' → RS pre H c → RS pre H' c) (hrs : RS [] H c0) : Fc Tryz.prog (fnv 60) [.func (.func gf) #[] lb] H [c0] (fun v' H' L' => ∃ c2 c1, L' = [c2, c1] ∧ RS ys H' c2 ∧ OwnS pairE 29 H' v' ys c1) := by
  refine Fc.of_body (N := 5) Tryz.func60 rfl (by kernel_rfl) rfl rfl ?_
  intro w0
  refine T.seq ?_
  refine T.region ?_
  refine R.asE rfl (by conv => lhs; whnf) ?_
  refine TL.nil (Post.thnN ?_)
  refine T.seq ?_
  refine T.region ?_
  refine R.mvE rfl (by conv => lhs; whnf) ?_
  refine TL.call [true] rfl rfl rfl (appseqD_c _ gf lb ys RS c0 hen hl hit hRm hrs) ?_
  intro v4 H4 L4 s4 q4
  obtain ⟨c4, d4, rfl, g4, w4⟩ := q4
  refine R.asE rfl (by conv => lhs; whnf) ?_
  refine TL.nil (Post.thnN ?_)
  refine T.ret ?_
  exact fin1L [c4, d4] rfl rfl (List.Sublist.refl _) ⟨_, _, rfl, g4, w4⟩


theorem RSK.mono {xs : List Lk} {mk : Nat} : ∀ pre H H' c, HLe H H' → RSK xs mk pre H c → RSK xs mk pre H' c := fun _ _ _ _ _ h => h
theorem RSK.start (xs : List Lk) (mk : Nat) (H : Heap) : RSK xs mk [] H [(mk, .map #[] 0)] := ⟨#[], 0, [], rfl, mapIs_nil _, KOK.nil xs, fun y h => by simp at h⟩

set_option maxHeartbeats 1600000 in
theorem dOf_c (H : Heap) (v : Value) (xs : List Lk) (hr : RdS pairE H v xs) (hl : xs.length ≤ 1000) : Fp Tryz.prog (fnv 13) [v] H (fun v' H' => ∃ w, v' = .tuple #[w, .int .i64 (ofDR xs).2] ∧ RdS pairE H' w (ofDR xs).1) := by
  refine Fc.of_body (N := 18) Tryz.func13 rfl (by kernel_rfl) rfl rfl ?_
  intro w0
  obtain ⟨A, c, rfl, hc1, hc2, hr⟩ := hr.shape
  refine T.seq ?_
  refine T.region ?_
  refine R.asE rfl (by conv => lhs; whnf) ?_
  refine R.asE rfl (by conv => lhs; whnf) ?_
  refine TL.nil (Post.thnN ?_)
  refine T.seq ?_
  refine T.block ?_
  refine T.seq ?_
  refine T.region ?_
  refine R.mvE rfl (by conv => lhs; whnf) ?_
  refine R.callv rfl rfl rfl (ccheck_c _ _ _ hr) ?_
  refine R.neq rfl rfl rfl ?_
  refine R.asE rfl (by conv => lhs; whnf) ?_
  refine TL.nil (Post.thnN ?_)
  refine T.condD rfl (fun c4 => ?_) (fun c4 => ?_)
  · have hcb : chainB xs = false := by
      cases h : chainB xs with
      | false => rfl
      | true => rw [h] at c4; exact absurd rfl c4
    refine T.seq ?_
    refine T.region ?_
    refine R.asE rfl (by conv => lhs; whnf) ?_
    refine R.asE rfl (by conv => lhs; whnf) ?_
    refine TL.nil (Post.thnN ?_)
    refine T.ret (Post.blkR (Post.thnR ?_))
    -- way y
    exact fin2 rfl rfl rfl ⟨rfl, _, by rw [ofDR_a hcb]; rfl, by rw [ofDR_a hcb]; exact RdS.nil⟩
  · have hcb : chainB xs = true := by
      cases h : chainB xs with
      | true => rfl
      | false => rw [h] at c4; exact absurd c4 (by decide)
    refine T.seq ?_
    refine T.region ?_
    refine R.mvE rfl (by conv => lhs; whnf) ?_
    refine R.callv rfl rfl rfl (round_c _ _ xs hr hl) ?_
    refine R.asE rfl (by conv => lhs; whnf) ?_
    refine TL.nil (Post.thnN ?_)
    refine T.cond rfl (fun c8 => ?_) (fun c8 => ?_)
    · refine T.seq ?_
      refine T.region ?_
      refine R.asE rfl (by conv => lhs; whnf) ?_
      refine R.asE rfl (by conv => lhs; whnf) ?_
      refine TL.nil (Post.thnN ?_)
      refine T.ret (Post.blkR (Post.thnR ?_))
      -- way ny
      exact fin2 rfl rfl rfl ⟨rfl, _, by rw [ofDR_b hcb c8]; rfl, by rw [ofDR_b hcb c8]; exact RdS.nil⟩
    · have hA : Acyc xs := ⟨hcb, c8⟩
      refine T.skip (Post.blkN ?_)
      refine id (Post.thnN ?_)
      refine T.seq ?_
      refine T.region ?_
      refine R.mvE rfl (by conv => lhs; whnf) ?_
      refine R.callp rfl rfl rfl (outs_c _ _ xs hr hcb hl) ?_
      intro v12 H12 s12 q12
      obtain ⟨b12, es12, ck12, m12, rfl, hb12, hm12, hAt12⟩ := q12
      refine R.mvE rfl (by conv => lhs; whnf) ?_
      refine TL.call [] rfl rfl rfl (all_c _ _ xs (hr.mono s12) hl) ?_
      intro v14 H14 L14 s14 q14
      obtain ⟨c14, rfl, w14⟩ := q14
      refine TL.shut .hd ?_
      intro HF14 sF14 qF14
      have f14 := w14.read sF14 qF14
      have hle := s14.trans sF14
      refine R.mkm rfl ?_
      intro b15
      refine R.callp rfl rfl rfl (rises_c _ b15 b12 es12 ck12 m12 xs (hle _ _ hb12) hm12 (fun j => (hAt12 j).mono hle) hA hl _ (allL xs) f14 (fun n hn => all_pos hA hn)) ?_
      intro v16 H16 s16 q16
      obtain ⟨lb, rfl, hit⟩ := q16
      refine TL.call [true] rfl rfl rfl (collectD_c _ _ lb (ofD xs) (RSK xs b15) [(b15, .map #[] 0)] (enters_of Tryz.func131 (by kernel_rfl) rfl) (by have := ofD_len xs; omega) hit RSK.mono (RSK.start xs b15 _)) ?_
      intro v17 H17 L17 s17 q17
      obtain ⟨c17, d17, rfl, _, w17⟩ := q17
      refine TL.shut (.tl .hd) ?_
      intro HF17 sF17 qF17
      have f17 := w17.read sF17 qF17
      refine R.asE rfl (by conv => lhs; whnf) ?_
      refine R.asE rfl (by conv => lhs; whnf) ?_
      refine TL.nil (Post.thnN ?_)
      refine T.ret ?_
      -- way nn
      exact fin2 rfl rfl rfl ⟨rfl, _, by rw [ofDR_c hA]; rfl, by rw [ofDR_c hA]; exact f17⟩

end Go.SX

set_option linter.unusedVariables false
set_option linter.unusedSimpArgs false
namespace Go.SX
open Go Go.Sort Go.Proofs
attribute [local semireducible] T TL
def sortC (cf : Int → Int → Int) (xs : List Int) : List Int := xs.mergeSort (fun x y => !(ltOf cf) y x)
theorem sortC_perm (cf : Int → Int → Int) (xs : List Int) : (sortC cf xs).Perm xs := List.mergeSort_perm _ _
theorem sortWorld_same {w : World} {blk off n : Nat} {d : Array Int} {os : Array Obj} {k : Nat} (hk : k < w.heap.size) (hb : k ≠ blk) : (sortWorld (Value.int .i64) w blk off n d os).heap[k]? = w.heap[k]? := by
  unfold sortWorld
  rw [heap_grow_old _ _ (by simpa using hk)]
  simp [putRow, mapBlock, Sort.ahead, Array.getElem?_modify, Ne.symm hb]
theorem cmp_lays1 {P : Program} {g : FuncId} {fn : Func} {cd : Code} (hf : P.funcs[g]? = some fn) (hb : fn.body = some cd) (hname : (fn.name == "runtime.NumGoroutine") = false) {cb : List Value} {cf : Int → Int → Int} {H : Heap}
    (h : ∀ (a b : Int), Fv P (.func (.func g) #[] cb.toArray) [.int .i64 a, .int .i64 b] H (.int .i64 (cf a b))) (blk off size : Nat) (w : World) (hsat : ∀ b o, H b = some o → w.heap[b]? = some o) (hblk : H blk = none) : CmpLays1 P g cb.toArray (Value.int .i64) cf blk off size w := by
  intro m os dk _ x y
  have hS : Sat H ([] : Own).flatten (sortWorld (Value.int .i64) w blk off m dk os) := ⟨fun b o hbo => by
    have hw := hsat b o hbo
    rw [sortWorld_same (heap_lt hw) (fun e => by rw [e, hblk] at hbo; cases hbo)]
    exact hw, fun p hp => (by cases hp), List.nodup_nil, fun p hp => (by cases hp)⟩
  revert hS
  generalize sortWorld (Value.int .i64) w blk off m dk os = W
  intro hS
  obtain ⟨nx, w1, h1, h2⟩ := h x y W hS
  have he := Go.Proofs.enters_of (P := P) hf hname hb (#[.int .i64 x, .int .i64 y] ++ cb.toArray) W
  have hrun : Sem.run P (do let d ← Deferred.ofValue (.func (.func g) #[] cb.toArray) [.int .i64 x, .int .i64 y].toArray; invoke d.target d.args) W = .ok (.enter g (#[.int .i64 x, .int .i64 y] ++ cb.toArray)) W := by
    rw [Sem.run_bind]
    simp only [Deferred.ofValue, invoke, Sem.run_pure]
    exact he
  rw [hrun] at h1
  injection h1 with h1 h3
  subst h1; subst h3
  refine callsIn_wide.1 (CallsIn.mono h2 ?_)
  rintro e w' ⟨u, H', L', rfl, hst, rfl, rfl⟩
  exact ⟨rfl, _, _, grown_eq hst.chg.os hst.chg.tape hst.chg.output hst.chg.drawn hst.chg.size (fun b hb => hst.chg.same b hb (by simp [keys]))⟩
theorem sortF1_fc {P : Program} {f g : FuncId} {fn : Func} {cd : Code} {e : TypeId} {cb : List Value} (hf : P.funcs[f]? = some fn) (hb : fn.body = some cd) (hname : (fn.name == "runtime.NumGoroutine") = false) {cf : Int → Int → Int} {H : Heap}
    (hlay : ∀ (blk off size : Nat) (w : World), (∀ b o, H b = some o → w.heap[b]? = some o) → H blk = none → CmpLays1 P g cb.toArray (Value.int .i64) cf blk off size w)
    (hcon : ∀ (blk off cap : Nat) (d : Array Int) (w : World), CmpLays1 P g cb.toArray (Value.int .i64) cf blk off d.size w → Holds (Value.int .i64) w blk off d → blk < w.heap.size → d.size < 4611686018427387904 →
      Calls P f #[.slice (some ⟨blk, off, none⟩) d.size cap, .func (.func g) #[] cb.toArray] w fun e w' => e = .returned (.tuple #[]) ∧ ∃ n os, w' = sortWorld (Value.int .i64) w blk off n (d.toList.mergeSort fun x y => !(ltOf cf) y x).toArray os)
    (hnone : ∀ (p : Option Addr) (cap : Nat) (fv : Value) (w : World), Calls P f #[.slice p 0 cap, fv] w fun e w' => e = .returned (.tuple #[]) ∧ w' = w)
    {v : Value} {xs : List Int} {c : Chunk} (ho : OwnS (intE .i64) e H v xs c) (hl : xs.length ≤ 1099511627776) :
    Fc P (fnv f) [v, .func (.func g) #[] cb.toArray] H [c] (fun _ H' L' => H' = H ∧ ∃ c', L' = [c'] ∧ OwnS (intE .i64) e H v (sortC cf xs) c') := by
  intro w hs
  by_cases hne : xs = []
  · obtain ⟨A, cap, rfl, _, _⟩ := ho.shape
    subst hne
    have he := Go.Proofs.enters_of (P := P) hf hname hb #[.slice A 0 cap, .func (.func g) #[] cb.toArray] w
    refine ⟨.enter f #[.slice A 0 cap, .func (.func g) #[] cb.toArray], w, by simp [Deferred.ofValue, invoke, he], ?_⟩
    refine CallsIn.mono (callsIn_wide.2 (hnone A cap _ w)) ?_
    rintro e' w' ⟨rfl, rfl⟩
    exact ⟨_, H, [c], rfl, St.init hs, rfl, c, rfl, by simpa [sortC] using ho⟩
  rcases ho with ⟨_, h, _⟩ | ⟨b, cap, cs, rfl, rfl, h3, h4, h5, h6⟩
  · exact absurd h hne
  have hs' : Sat H [(b, .cells cs e)] w := by simpa using hs
  have hbl := hs'.l (b, .cells cs e) (List.mem_singleton.2 rfl)
  simp only at hbl
  have hcs : cs.size = cap := by rw [h5]; exact Nat.mul_one cap
  have hcell : ∀ (i : Nat) x, xs[i]? = some x → cs[i]? = some (.int .i64 x) := fun i x hx => by
    obtain ⟨l, h7, h8⟩ := h6 i x hx
    obtain rfl : l = [.int .i64 x] := h7
    have := h8 0 _ rfl
    simpa [intE] using this
  have htk : cs.toList.take xs.length = xs.map (Value.int .i64) := by
    apply List.ext_getElem?
    intro i
    by_cases hi : i < xs.length
    · rw [List.getElem?_take_of_lt hi, Array.getElem?_toList, hcell i _ (List.getElem?_eq_getElem hi)]
      simp [hi]
    · rw [List.getElem?_take_eq_none (by omega), List.getElem?_eq_none (by simp; omega)]
  have hH := holds_of_blockI hbl htk
  have hdj := hs'.dj (b, .cells cs e) (List.mem_singleton.2 rfl)
  simp only at hdj
  have he := Go.Proofs.enters_of (P := P) hf hname hb #[.slice (some ⟨b, 0, none⟩) xs.length cap, .func (.func g) #[] cb.toArray] w
  refine ⟨.enter f #[.slice (some ⟨b, 0, none⟩) xs.length cap, .func (.func g) #[] cb.toArray], w, by simp [Deferred.ofValue, invoke, he], ?_⟩
  have hcall := hcon b 0 cap xs.toArray w (hlay b 0 _ w hs'.h hdj) hH (heap_lt hbl) (by simp; omega)
  simp only [List.size_toArray] at hcall
  refine CallsIn.mono (callsIn_wide.2 hcall) ?_
  rintro e' w' ⟨rfl, n, os, rfl⟩
  have hlen : (sortC cf xs).length = xs.length := (sortC_perm cf xs).length_eq
  have hnew := heap_sortedI (n := n) (os := os) (sortC cf xs).toArray hbl
  have hg := grownBy_sortedI (w := w) (g := b) (n := n) (os := os) (sortC cf xs).toArray
  refine ⟨_, H, [[(b, .cells (putCells (Value.int .i64) 0 (sortC cf xs).toArray cs) e)]], rfl, ?_, rfl, _, rfl, ?_⟩
  · obtain ⟨g1, g2, g3, g4, g5⟩ := hg
    refine ⟨⟨fun b' o hb' => ?_, fun q hq => ?_, by simp [keys], fun q hq => ?_⟩, ⟨g1, g2, g3, g4, fun b' h1 h2 => g5 b' h1 (fun x => h2 (by cases x; simp [keys])), Nat.le_add_right _ _⟩, HLe.refl _, fun b' o h1 h2 => ?_, fun b' hb' => ?_⟩
    · have hne' : b' ≠ b := fun x => by subst x; rw [hb'] at hdj; cases hdj
      have hw := hs'.h b' o hb'
      exact (g5 b' (heap_lt hw) (fun x => hne' (by cases x; rfl))).trans hw
    · simp at hq; subst hq; exact hnew
    · simp at hq; subst hq
      exact hdj
    · have h1' : H b' = some o := h1
      have h2' : H b' = none := h2
      rw [h1'] at h2'; cases h2'
    · left; simpa [keys] using hb'
  · have hsz : (putCells (Value.int .i64) 0 (sortC cf xs).toArray cs).size = cs.size := by simp [putCells]
    refine .inr ⟨b, cap, putCells (Value.int .i64) 0 (sortC cf xs).toArray cs, by rw [hlen], rfl, by rw [hlen]; exact h3, h4, by rw [hsz]; exact h5, fun i x hx => ⟨[.int .i64 x], rfl, fun j u hj => ?_⟩⟩
    have hj0 : j = 0 := by have := (List.getElem?_eq_some_iff.1 hj).1; simpa using this
    subst hj0
    simp at hj
    subst hj
    have ht := take_putCellsI cs (sortC cf xs) (by rw [hlen, hcs]; exact h3)
    have hi := (List.getElem?_eq_some_iff.1 hx).1
    have h9 : ((putCells (Value.int .i64) 0 (sortC cf xs).toArray cs).toList.take (sortC cf xs).length)[i]? = ((sortC cf xs).map (Value.int .i64))[i]? := by rw [ht]
    rw [List.getElem?_take_of_lt hi, Array.getElem?_toList, List.getElem?_map, hx] at h9
    show (putCells (Value.int .i64) 0 (sortC cf xs).toArray cs)[i * 1 + 0]? = _
    rw [Nat.mul_one, Nat.add_zero, h9]; rfl
end Go.SX

set_option linter.unusedVariables false
set_option linter.unusedSimpArgs false
namespace Go.SX
open Go Go.Sort Go.Proofs
theorem ElemAt.snd1 {H : Heap} {b o : Nat} {y : Lk} (h : ElemAt pairE H b o y) : cellAt H b (o + 1) = some (.int .i64 y.2) := by
  obtain ⟨l, h1, h2⟩ := h
  obtain rfl : l = [.int .i64 y.1, .int .i64 y.2] := h1
  exact h2 1 _ rfl
theorem cmpI_lt0 {a b : Int} : cmpI a b < 0 ↔ a < b := by unfold cmpI; split <;> (try split) <;> omega
theorem cmpI_zero0 {a b : Int} : cmpI a b = 0 ↔ a = b := by unfold cmpI; split <;> (try split) <;> omega
def prevF (xs : List Lk) (k : Nat) : Int := ((xs[k - 1]?).map (·.1)).getD 0
theorem prevF_at {xs : List Lk} {k : Nat} {y : Lk} (h : xs[k - 1]? = some y) : prevF xs k = y.1 := by unfold prevF; rw [h]; rfl
def goodB (d : List Lk) (k : Nat) (y : Lk) : Bool := decide (1 ≤ y.1 ∧ y.1 ≤ 1048578 ∧ 1 ≤ y.2 ∧ (k = 0 ∨ prevF d k < y.1))
theorem right_step {d : List Lk} {k : Nat} {y : Lk} (h : rightD (d.take k) = true) (hy : d[k]? = some y) (hg : goodB d k y = true) : rightD (d.take (k + 1)) = true := by
  obtain ⟨h1, h2, h3, h4⟩ := of_decide_eq_true hg
  obtain ⟨h5, h6⟩ := rightD_iff.1 h
  rw [take_snoc _ _ _ hy]
  refine rightD_iff.2 ⟨fun z hz => ?_, ?_⟩
  · rcases List.mem_append.1 hz with hz | hz
    · exact h5 z hz
    · rw [List.mem_singleton.1 hz]; exact ⟨h1, h2, h3⟩
  · refine List.pairwise_append.2 ⟨h6, List.pairwise_singleton _ _, fun a ha b hb => ?_⟩
    rw [List.mem_singleton.1 hb]
    obtain ⟨i, hi⟩ := List.mem_iff_getElem?.1 ha
    have hik : i < k := by have := (List.getElem?_eq_some_iff.1 hi).1; simp at this; omega
    rw [List.getElem?_take_of_lt hik] at hi
    have hk := (List.getElem?_eq_some_iff.1 hy).1
    obtain ⟨z, hz⟩ : ∃ z, d[k - 1]? = some z := ⟨_, List.getElem?_eq_getElem (by omega)⟩
    rw [prevF_at hz] at h4
    rcases Nat.lt_or_ge i (k - 1) with hlt | hge
    · have e1 : (d.take k)[i]? = some a := by rw [List.getElem?_take_of_lt hik]; exact hi
      have e2 : (d.take k)[k - 1]? = some z := by rw [List.getElem?_take_of_lt (by omega)]; exact hz
      have := rise_get h e1 e2 hlt
      omega
    · have : i = k - 1 := by omega
      subst this
      rw [hi] at hz; injection hz with hz; subst hz
      omega
theorem right_fail {d : List Lk} {k : Nat} {y : Lk} (hy : d[k]? = some y) (hg : goodB d k y = false) : rightD d = false := by
  rw [Bool.eq_false_iff]
  intro h
  have h0 := (rightD_iff.1 h).1 y (List.mem_of_getElem? hy)
  have : goodB d k y = true := by
    refine decide_eq_true ⟨h0.1, h0.2.1, h0.2.2, ?_⟩
    by_cases hk : k = 0
    · exact .inl hk
    · right
      have hl := (List.getElem?_eq_some_iff.1 hy).1
      obtain ⟨z, hz⟩ : ∃ z, d[k - 1]? = some z := ⟨_, List.getElem?_eq_getElem (by omega)⟩
      rw [prevF_at hz]
      exact rise_get h hz hy (by omega)
  rw [hg] at this; cases this
theorem up_fst {d : List Lk} (h : rightD d = true) : Up (d.map (·.1)) := List.pairwise_map.2 (rightD_iff.1 h).2
theorem get_fst {d : List Lk} {k : Nat} {y : Lk} (h : d[k]? = some y) : (d.map (·.1))[k]? = some y.1 := by rw [List.getElem?_map, h]; rfl
/-- what is told of where a number stands -/
theorem at_pos {d : List Lk} (h : rightD d = true) {n : Int} {i : Nat} (hi : i ≤ d.length) (hlo : ∀ (j : Nat) y, j < i → (d.map (·.1))[j]? = some y → y < n) (hhi : ∀ (j : Nat) y, i ≤ j → (d.map (·.1))[j]? = some y → n ≤ y) : BSI d n i :=
  ⟨hi, fun k y hy => ⟨fun hlt => by
    rcases Nat.lt_or_ge k i with h1 | h1
    · exact h1
    · have := hhi k y.1 h1 (get_fst hy); omega, fun hlt => hlo k y.1 hlt (get_fst hy)⟩⟩
/-- the order's comparison -/
def cmpO (d : List Lk) (a b : Int) : Int := cmpP (atD d a, a) (atD d b, b)
theorem cmpO_lt {d : List Lk} {a b : Int} : ltOf (cmpO d) a b = decide (ltP (atD d a, a) (atD d b, b)) := lt_cmp _ _
theorem swo_cmpO (d : List Lk) : SWO (ltOf (cmpO d)) where
  irrefl x := by rw [cmpO_lt]; exact decide_eq_false (by unfold ltP; omega)
  trans x y z h1 h2 := by rw [cmpO_lt] at *; have a1 := of_decide_eq_true h1; have a2 := of_decide_eq_true h2; exact decide_eq_true (ltP_trans a1 a2)
  ntrans x y z h1 h2 := by rw [cmpO_lt] at *; have a1 := of_decide_eq_false h1; have a2 := of_decide_eq_false h2; exact decide_eq_false (by unfold ltP at *; simp only at *; omega)
theorem tot_cmpO (d : List Lk) (a b : Int) (h1 : ltOf (cmpO d) a b = false) (h2 : ltOf (cmpO d) b a = false) : a = b := by
  rw [cmpO_lt] at h1 h2
  simp only [decide_eq_false_iff_not] at h1 h2
  unfold ltP at h1 h2
  simp only at h1 h2
  omega
theorem sortO_eq (d : List Lk) (xs : List Int) : sortC (cmpO d) xs = refO d xs := by
  refine orderO_eq (sortC_perm _ xs) ?_
  have := List.pairwise_mergeSort (le := fun x y : Int => !(ltOf (cmpO d)) y x) (fun a b c h1 h2 => by
    simp only [cmpO_lt, Bool.not_eq_true', decide_eq_false_iff_not] at *
    unfold ltP at *; simp only at *; omega) (fun a b => by
    simp only [cmpO_lt, Bool.or_eq_true, Bool.not_eq_true', decide_eq_false_iff_not]
    unfold ltP; simp only; omega) xs
  refine this.imp (fun {a b} h => ?_)
  simp only [cmpO_lt, Bool.not_eq_true', decide_eq_false_iff_not] at h
  unfold ltP at h; unfold leO; simp only at h; omega
def okD (d : List Lk) : List Lk := if rightD d then d else []
theorem okD_right (d : List Lk) : rightD (okD d) = true := by
  unfold okD
  cases h : rightD d with
  | true => exact h
  | false => exact rightD_nil
/-- ref17.Of's question -/
def newB (xs : List Lk) (k : Nat) (y : Lk) : Bool := decide (k = 0 ∨ prevF xs k ≠ y.1)
/-- ref17.Order's question -/
def contB (d : List Lk) (out : List Int) (n : Int) (j : Nat) : Bool := match out[j]? with
  | some y => decide (leO d y n)
  | none => false
def sameR (d xs : List Lk) (m : Lk) : Int := if (ofDR xs).2 ≠ 0 then (ofDR xs).2 else if d ≠ (ofDR xs).1 then 271 else if linkB m = false then 2 else 0
def moreR (d xs : List Lk) (m : Lk) : List Lk × Int := if sameR d xs m ≠ 0 then ([], sameR d xs m) else if m ∈ xs then ([], 5) else if (decide (m.1 = m.2) || leadsR xs m.2 m.1) = true then ([], 270) else (ofD (ofP (xs ++ [m])), 0)
def lessR (d xs : List Lk) (m : Lk) : List Lk × Int := if sameR d xs m ≠ 0 then ([], sameR d xs m) else if m ∉ xs then ([], 4) else (ofD (delL xs m), 0)
theorem ofDR_ok {xs : List Lk} (h : (ofDR xs).2 = 0) : Acyc xs ∧ ofDR xs = (ofD xs, 0) := by
  unfold ofDR at h ⊢
  cases h1 : chainB xs with
  | false => rw [h1] at h; simp at h
  | true =>
    cases h2 : roundR xs with
    | true => rw [h1, h2] at h; simp at h
    | false => exact ⟨⟨h1, h2⟩, rfl⟩
theorem sameR_ok {d xs : List Lk} {m : Lk} (h : sameR d xs m = 0) : Acyc xs ∧ d = ofD xs ∧ linkB m = true := by
  unfold sameR at h
  by_cases h1 : (ofDR xs).2 = 0
  · rw [if_neg (by simpa using h1)] at h
    obtain ⟨hA, he⟩ := ofDR_ok h1
    rw [he] at h
    by_cases h2 : d = ofD xs
    · rw [if_neg (by simpa using h2)] at h
      cases h3 : linkB m with
      | true => exact ⟨hA, h2, rfl⟩
      | false => rw [h3] at h; simp at h
    · rw [if_pos h2] at h; simp at h
  · rw [if_pos h1] at h; exact absurd h h1
theorem ofR_one (m : Lk) : (ofR [m]).2 = if linkB m = false then 2 else 0 := by
  have := ofP_len [m]
  unfold ofR
  cases h : linkB m with
  | true => simp [h]; rw [if_pos (by simp at this; omega)]
  | false => simp [h]
/-- the depths that stay right, with a link more -/
theorem more_keep {xs : List Lk} {m : Lk} (hA : Acyc xs) (hl : xs.length ≤ 900) (hm : linkB m = true) (hn : (decide (m.1 = m.2) || leadsR xs m.2 m.1) = false) : ∀ y ∈ ofD xs, y.1 ∉ (wavesL true (ofP (xs ++ [m])) m.1).flatten → y.2 = depL (ofP (xs ++ [m])) y.1 := fun y hy hw => by
  obtain ⟨n, hn2, rfl⟩ := List.mem_map.1 hy
  have hB := more_acyc hA hl hm hn
  exact (dep_same hB hA (a := m.1) (fun k hk t => more_out hA.1 hl hm k hk t) _ n (Nat.le_refl _) (fun hr => hw (back_mem.2 hr))).symm
end Go.SX
namespace Go.SX
open Go Go.Sort Go.Proofs
theorem moreR_a {d xs : List Lk} {m : Lk} (h : sameR d xs m ≠ 0) : moreR d xs m = ([], sameR d xs m) := by unfold moreR; rw [if_pos h]
theorem moreR_b {d xs : List Lk} {m : Lk} (h : sameR d xs m = 0) (h2 : m ∈ xs) : moreR d xs m = ([], 5) := by unfold moreR; rw [if_neg (by simpa using h), if_pos h2]
theorem moreR_c {d xs : List Lk} {m : Lk} (h : sameR d xs m = 0) (h2 : m ∉ xs) (h3 : (decide (m.1 = m.2) || leadsR xs m.2 m.1) = true) : moreR d xs m = ([], 270) := by unfold moreR; rw [if_neg (by simpa using h), if_neg h2, if_pos h3]
theorem moreR_d {d xs : List Lk} {m : Lk} (h : sameR d xs m = 0) (h2 : m ∉ xs) (h3 : (decide (m.1 = m.2) || leadsR xs m.2 m.1) = false) : moreR d xs m = (ofD (ofP (xs ++ [m])), 0) := by unfold moreR; rw [if_neg (by simpa using h), if_neg h2, if_neg (by rw [h3]; simp)]
theorem anyD_mem {xs : List Lk} {m : Lk} : xs.any (fun y => decide (m = y)) = true ↔ m ∈ xs := by
  rw [List.any_eq_true]
  exact ⟨fun ⟨y, h1, h2⟩ => (of_decide_eq_true h2) ▸ h1, fun h => ⟨m, h, decide_eq_true rfl⟩⟩
theorem anyD_not {xs : List Lk} {m : Lk} (h : xs.any (fun y => decide (m = y)) = false) : m ∉ xs := fun hm => by rw [anyD_mem.2 hm] at h; cases h
theorem more_of {xs : List Lk} {m : Lk} (hA : Acyc xs) (hl : xs.length ≤ 900) (hm : linkB m = true) : ofR (xs ++ [m]) = (ofP (xs ++ [m]), 0) := by
  have hlen : (xs ++ [m]).length ≤ 1000 := by simp; omega
  have ha := link_all hA.1 hm
  have hp := ofP_len (xs ++ [m])
  unfold ofR
  rw [if_pos ha, if_pos (by omega)]
theorem acyc_of {xs : List Lk} (h : chainB xs = true) (h2 : (chainB xs && xs.any (fun y => leadsQ xs y.1 y.1)) = false) : Acyc xs := ⟨h, by rw [roundQ]; exact h2⟩
theorem same_zero {xs : List Lk} {m : Lk} (hA : Acyc xs) (hm : linkB m = true) : sameR (ofD xs) xs m = 0 := by
  unfold sameR
  rw [ofDR_c hA, hm]; simp
end Go.SX
namespace Go.SX
open Go Go.Sort Go.Proofs
def smallD : List Lk := [(3, 4), (3, 5), (4, 5)]
theorem smallD_acyc : Acyc smallD := acyc_of (by kernel_rfl) (by kernel_rfl)
theorem smallD_of : ofDR smallD = ([(3, 2), (4, 1)], 0) := (ofDR_c smallD_acyc).trans (by kernel_rfl)
theorem smallD_same {m : Lk} (hm : linkB m = true) : sameR [(3, 2), (4, 1)] smallD m = 0 := same_zero smallD_acyc hm
theorem smallD_more : moreR [(3, 2), (4, 1)] smallD (5, 6) = ([(3, 3), (4, 2), (5, 1)], 0) :=
  (moreR_d (smallD_same (by kernel_rfl)) (by decide) (by rw [← leadsQ_eq]; kernel_rfl)).trans (by kernel_rfl)
theorem smallD_cyc : moreR [(3, 2), (4, 1)] smallD (5, 3) = ([], 270) := moreR_c (smallD_same (by kernel_rfl)) (by decide) (by rw [← leadsQ_eq]; kernel_rfl)
theorem dep_leads {xs : List Lk} (hA : Acyc xs) {a b : Int} (h : leadsR xs a b = true) : depL xs b < depL xs a := by
  obtain ⟨v, hv, p, hp⟩ := leads_rch.1 h
  have h1 := dep_lt hA hv
  have key : ∀ (p : List Int) (v : Int), Wy (toL xs) v b p → depL xs b ≤ depL xs v := fun p => by
    induction p with
    | nil => exact fun v hp => hp.1.elim
    | cons x p ih =>
      intro v hp
      rcases hp.un with ⟨_, rfl⟩ | ⟨u, r, e, hu, hr⟩
      · exact Int.le_refl _
      · injection e with e1 e2
        subst e1; subst e2
        have := ih u hr
        have := dep_lt hA hu
        omega
  have := key p v hp
  omega
/-- In order nobody stands ahead of whom it leads to. -/
theorem order_at {d : List Lk} {l : List Int} {i j : Nat} {a b : Int} (ha : (refO d l)[i]? = some a) (hb : ((refO d l).drop (i + 1))[j]? = some b) : leO d a b := by
  rw [List.getElem?_drop] at hb
  obtain ⟨h1, rfl⟩ := List.getElem?_eq_some_iff.1 ha
  obtain ⟨h2, rfl⟩ := List.getElem?_eq_some_iff.1 hb
  exact List.pairwise_iff_getElem.1 (refO_sorted d l) i (i + 1 + j) h1 h2 (by omega)
theorem order_lead {xs : List Lk} (hA : Acyc xs) {a b : Int} (h : leO (ofD xs) a b) : leadsR xs a b = false := by
  rw [Bool.eq_false_iff]
  intro hl
  have := dep_leads hA hl
  unfold leO at h
  rw [at_ofD hA, at_ofD hA] at h
  omega
theorem sortI_same {l m : List Int} (h : l.Perm m) : sortI l = sortI m := perm_sorted (r := (· ≤ ·)) (fun a b h1 h2 => by omega) ((sortI_perm l).trans (h.trans (sortI_perm m).symm)) (sortI_sorted l) (sortI_sorted m)
theorem okD_of {xs : List Lk} (hA : Acyc xs) : okD (ofD xs) = ofD xs := by unfold okD; rw [ofD_right hA]; rfl
end Go.SX

namespace Go.Proofs
open Go.Shelf
def Tryz.sortF1_ren : Go.Shelf.Ren := ⟨fun | 6 => 68 | 15 => 79 | 14 => 136 | 28 => 151 | 29 => 152 | 20 => 181 | 21 => 182 | 22 => 183 | 23 => 184 | 24 => 185 | 25 => 186 | 26 => 187 | 27 => 188 | 46 => 207 | 47 => 190 | 48 => 191 | 49 => 208 | 50 => 209 | 57 => 230 | n => n, fun | 22 => 24 | 24 => 3 | 25 => 98 | 3 => 3 | 39 => 109 | 0 => 0 | 53 => 169 | 55 => 77 | 4 => 4 | 46 => 162 | 45 => 161 | 50 => 129 | 5 => 5 | 9 => 9 | 66 => 191 | 70 => 195 | 76 => 206 | 77 => 138 | n => n, fun | n => n⟩
theorem Tryz.sortF1 : Go.Proofs.SlLaysF.n6 Tryz.prog Tryz.sortF1_ren := {
  mixed := by kernel_rfl
  f6 := ⟨Tryz.f68.name, by decide, Tryz.func68.trans (congrArg some (by kernel_rfl))⟩
  f14 := ⟨Tryz.f136.name, by decide, Tryz.func136.trans (congrArg some (by kernel_rfl))⟩
  f15 := Tryz.func79.trans (congrArg some (by kernel_rfl))
  f20 := ⟨Tryz.f181.name, by decide, Tryz.func181.trans (congrArg some (by kernel_rfl))⟩
  f21 := ⟨Tryz.f182.name, by decide, Tryz.func182.trans (congrArg some (by kernel_rfl))⟩
  f22 := ⟨Tryz.f183.name, by decide, Tryz.func183.trans (congrArg some (by kernel_rfl))⟩
  f23 := ⟨Tryz.f184.name, by decide, Tryz.func184.trans (congrArg some (by kernel_rfl))⟩
  f24 := ⟨Tryz.f185.name, by decide, Tryz.func185.trans (congrArg some (by kernel_rfl))⟩
  f25 := ⟨Tryz.f186.name, by decide, Tryz.func186.trans (congrArg some (by kernel_rfl))⟩
  f26 := ⟨Tryz.f187.name, by decide, Tryz.func187.trans (congrArg some (by kernel_rfl))⟩
  f27 := ⟨Tryz.f188.name, by decide, Tryz.func188.trans (congrArg some (by kernel_rfl))⟩
  f28 := Tryz.func151.trans (congrArg some (by kernel_rfl))
  f29 := Tryz.func152.trans (congrArg some (by kernel_rfl))
  f46 := ⟨Tryz.f207.name, by decide, Tryz.func207.trans (congrArg some (by kernel_rfl))⟩
  f47 := Tryz.func190.trans (congrArg some (by kernel_rfl))
  f48 := Tryz.func191.trans (congrArg some (by kernel_rfl))
  f49 := ⟨Tryz.f208.name, by decide, Tryz.func208.trans (congrArg some (by kernel_rfl))⟩
  f50 := ⟨Tryz.f209.name, by decide, Tryz.func209.trans (congrArg some (by kernel_rfl))⟩
  f57 := ⟨Tryz.f230.name, by decide, Tryz.func230.trans (congrArg some (by kernel_rfl))⟩
  t0 := Tryz.underlying0
  a0 := Tryz.isAgg0
  z0 := Tryz.sizeOf0
  v0 := Tryz.zeroValue0
  t3 := Tryz.underlying3
  a3 := Tryz.isAgg3
  z3 := Tryz.sizeOf3
  v3 := Tryz.zeroValue3
  t4 := Tryz.underlying4
  a4 := Tryz.isAgg4
  z4 := Tryz.sizeOf4
  v4 := Tryz.zeroValue4
  t5 := Tryz.underlying5
  a5 := Tryz.isAgg5
  z5 := Tryz.sizeOf5
  v5 := Tryz.zeroValue5
  t9 := Tryz.underlying9
  a9 := Tryz.isAgg9
  z9 := Tryz.sizeOf9
  v9 := Tryz.zeroValue9
  t22 := Tryz.underlying24
  a22 := Tryz.isAgg24
  z22 := Tryz.sizeOf24
  v22 := Tryz.zeroValue24
  a24 := Tryz.isAgg3
  z24 := Tryz.sizeOf3
  t25 := Tryz.underlying98
  a25 := Tryz.isAgg98
  z25 := Tryz.sizeOf98
  v25 := Tryz.zeroValue98
  t39 := Tryz.underlying109
  a39 := Tryz.isAgg109
  z39 := Tryz.sizeOf109
  v39 := Tryz.zeroValue109
  t45 := Tryz.underlying161
  a45 := Tryz.isAgg161
  z45 := Tryz.sizeOf161
  v45 := Tryz.zeroValue161
  t46 := Tryz.underlying162
  a46 := Tryz.isAgg162
  z46 := Tryz.sizeOf162
  v46 := Tryz.zeroValue162
  t50 := Tryz.underlying129
  a50 := Tryz.isAgg129
  z50 := Tryz.sizeOf129
  v50 := Tryz.zeroValue129
  t53 := Tryz.underlying169
  a53 := Tryz.isAgg169
  z53 := Tryz.sizeOf169
  v53 := Tryz.zeroValue169
  t55 := Tryz.underlying77
  a55 := Tryz.isAgg77
  z55 := Tryz.sizeOf77
  v55 := Tryz.zeroValue77
  t66 := Tryz.underlying191
  a66 := Tryz.isAgg191
  z66 := Tryz.sizeOf191
  v66 := Tryz.zeroValue191
  t70 := Tryz.underlying195
  a70 := Tryz.isAgg195
  z70 := Tryz.sizeOf195
  v70 := Tryz.zeroValue195
  t76 := Tryz.underlying206
  a76 := Tryz.isAgg206
  z76 := Tryz.sizeOf206
  v76 := Tryz.zeroValue206
  t77 := Tryz.underlying138
  a77 := Tryz.isAgg138
  z77 := Tryz.sizeOf138
  v77 := Tryz.zeroValue138 }
end Go.Proofs
