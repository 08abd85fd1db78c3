/- 'DepthRises' answers true, whatever it is handed, and what it is handed reads behind it as it did. -/
import Derived.RangeFuncNested
import Derived.RangeFuncBound
import Derived.RangeFuncCalls
import Derived.RangeFuncLeaves
import Derived.Shelf.Abstract
import Derived.Laws.AppendOwn
import Derived.Laws.OwnMore
import Derived.KernelRfl
import Derived.IntWalk
import Derived.Laws.Append
import Derived.WideLaws
import Derived.Laws.Slices
import Derived.Laws.MakeOwn
import Derived.OrdersIn
import Derived.Laws.Cover3
import Derived.Test.YtfidlmknejooeaaGreatProg
import Derived.Sort.OwnSortedInts
import Derived.Shelf.Sort.Plain
import Derived.Laws.StructEq
import Derived.Maps.RangeRun
import Derived.Shelf.SlSortCmp.NoneTotal
import Derived.Deep.Draws
import Derived.Shelf.Slices.In.SortNone
import Derived.ProofKit
import Derived.ChangeSlices
import Derived.Carry
import Derived.Deep.Slices
import Derived.OpenShut
import Derived.Test.YtfidlmknejooeaaGreatRows
import Derived.Test.YtfidlmknejooeaaGreatKDRises2
set_option linter.unusedVariables false
set_option linter.unusedSimpArgs false
namespace Go.SX
open Go Go.Proofs

set_option maxHeartbeats 1600000 in
theorem compactP_c (H : Heap) (v : Value) (xs : List Lk) (ch : Chunk) (ho : OwnS pairE 45 H v xs ch) : Fc Tryz.prog (fnv 90) [v] H [ch] (fun v' H' L' => ∃ c', L' = [c'] ∧ OwnS pairE 45 H' v' (compactL xs) c') := by
  refine Fc.of_body (N := 61) Tryz.func90 rfl (by kernel_rfl) rfl rfl ?_
  intro w0
  obtain ⟨A, cap, rfl, hc1, hc2⟩ := ho.shape
  refine T.seq ?_
  refine T.region ?_
  refine R.asE rfl (by conv => lhs; whnf) ?_
  refine TL.nil (Post.thnN ?_)
  refine T.seq ?_
  refine T.seq ?_
  refine T.region ?_
  refine R.mvE rfl (by conv => lhs; whnf) ?_
  refine R.len Tryz.underlying22 rfl rfl ?_
  refine R.lss rfl rfl rfl ?_
  refine TL.nil (Post.thnN ?_)
  refine T.condD rfl (fun c8 => ?_) (fun c8 => ?_)
  · refine T.seq ?_
    refine T.region ?_
    refine R.mvE rfl (by conv => lhs; whnf) ?_
    refine R.asE rfl (by conv => lhs; whnf) ?_
    refine TL.nil (Post.thnN ?_)
    refine T.ret (Post.thnR ?_)
    -- way y
    exact fin1L [ch] rfl rfl (List.Sublist.refl _) ⟨_, rfl, by rw [compact_short (by omega)]; exact ho⟩
  · refine T.skip (Post.thnN ?_)
    refine T.seq ?_
    refine T.seq ?_
    refine T.region ?_
    refine R.asE rfl (by conv => lhs; whnf) ?_
    refine TL.nil (Post.thnN ?_)
    refine T.block ?_
    refine T.loop (ι := Nat) (fun k H' L' ds' => (1 ≤ k ∧ k ≤ xs.length) ∧ L' = [ch] ∧ ds' = [] ∧ compactL (xs.take k) = xs.take k) (fun k => [(0, .slice A xs.length cap), (3, .int .i64 k)]) (fun k => xs.length - k) (1) ?_ ?_ ?_
    · exact ⟨⟨by omega, by omega⟩, rfl, rfl, compact_one xs⟩
    · exact ⟨rfl, rfl, trivial⟩
    · intro k σ0 H_0 L_0 ds_0 s_0 hI_0
      obtain ⟨hk, rfl, rfl, hco⟩ := hI_0
      have ho := ho.mono s_0
      refine T.seq ?_
      refine T.seq ?_
      refine T.region ?_
      refine R.mvE rfl (by conv => lhs; whnf) ?_
      refine R.mvE rfl (by conv => lhs; whnf) ?_
      refine R.len Tryz.underlying22 rfl rfl ?_
      refine R.lss rfl rfl rfl ?_
      refine TL.nil (Post.thnN ?_)
      refine T.condD rfl (fun c13 => ?_) (fun c13 => ?_)
      · have hlt : k < xs.length := by omega
        obtain ⟨y, hy⟩ := getk hlt
        obtain ⟨z, hz⟩ := getk (xs := xs) (k := k - 1) (by omega)
        have hy1 : xs[k - 1 + 1]? = some y := by rw [show k - 1 + 1 = k by omega]; exact hy
        have hk2 : k + 1 = (k - 1) + 2 := by omega
        obtain ⟨b1, k1, cs1, l1, hce1, hve1, ix1, hR1, hcs1⟩ := ho.elem hy
        obtain rfl : l1 = [.int .i64 y.1, .int .i64 y.2] := hR1
        obtain ⟨b2, k2, cs2, l2, hce2, hve2, ix2, hR2, hcs2⟩ := ho.elem (show xs[((k : Int) - 1).toNat]? = some z by rw [show ((k : Int) - 1).toNat = k - 1 by omega]; exact hz)
        obtain rfl : l2 = [.int .i64 z.1, .int .i64 z.2] := hR2
        subst hce1
        obtain ⟨rfl, rfl⟩ : b1 = b2 ∧ cs1 = cs2 := by simpa using hce2
        refine T.skip (Post.thnN ?_)
        refine T.seq ?_
        refine T.block ?_
        refine T.seq ?_
        refine T.draw Tryz_mixed (by kernel_rfl) ?_
        refine Plan.v 0 [1, 2, 3, 4, 5, 6, 7, 8, 9] (by kernel_rfl) (by kernel_rfl) (by kernel_rfl) (by kernel_rfl) rfl (fun _ _ h_ => R.mvE rfl (by conv => lhs; whnf) (TL.nil h_)) ?_
        refine Plan.v 1 [2, 3, 4, 5, 6, 7, 8, 9] (by kernel_rfl) (by kernel_rfl) (by kernel_rfl) (by kernel_rfl) rfl (fun _ _ h_ => R.mvE rfl (by conv => lhs; whnf) (TL.nil h_)) ?_
        refine Plan.v 4 [2, 3, 5, 6, 7, 8, 9] (by kernel_rfl) (by kernel_rfl) (by kernel_rfl) (by kernel_rfl) rfl (fun _ _ h_ => R.mvE rfl (by conv => lhs; whnf) (TL.nil h_)) ?_
        refine Plan.v 5 [2, 3, 6, 7, 8, 9] (by kernel_rfl) (by kernel_rfl) (by kernel_rfl) (by kernel_rfl) rfl (fun _ _ h_ => R.mvE rfl (by conv => lhs; whnf) (TL.nil h_)) ?_
        refine Plan.v 6 [2, 3, 7, 8, 9] (by kernel_rfl) (by kernel_rfl) (by kernel_rfl) (by kernel_rfl) rfl (fun _ _ h_ => R.subI rfl rfl rfl (by omega) (TL.nil h_)) ?_
        refine Plan.s2 2 7 [3, 7, 8, 9] [2, 3, 8, 9] (by kernel_rfl) (by kernel_rfl) (by kernel_rfl) rfl rfl ?_ ?_
        · refine R.ixp Tryz.underlying22 Tryz.sizeOf45 rfl rfl rfl (by omega) ix1 ?_
          refine TL.nil (Plan.e1 (HLe.refl _) ?_)
          refine Plan.s2 3 7 [7, 8, 9] [3, 8, 9] (by kernel_rfl) (by kernel_rfl) (by kernel_rfl) rfl rfl ?_ ?_
          · refine R.ldAt Tryz.isAgg45 Tryz.sizeOf45 rfl rfl .hd rfl hcs1 ?_
            refine TL.nil (Plan.e1 (HLe.refl _) ?_)
            refine Plan.s1 7 [8, 9] (by kernel_rfl) (by kernel_rfl) rfl ?_
            refine R.ixp Tryz.underlying22 Tryz.sizeOf45 rfl rfl rfl (by omega) ix2 ?_
            refine TL.nil (Plan.e1 (HLe.refl _) ?_)
            refine Plan.s1 8 [9] (by kernel_rfl) (by kernel_rfl) rfl ?_
            refine R.ldAt Tryz.isAgg45 Tryz.sizeOf45 rfl rfl .hd rfl hcs2 ?_
            refine TL.nil (Plan.e1 (HLe.refl _) ?_)
            refine Plan.v 9 [] (by kernel_rfl) (by kernel_rfl) (by kernel_rfl) (by kernel_rfl) rfl (fun _ _ h_ => R.eqP (a := y) (b := z) Tryzc_eqP Tryzc_eqG rfl rfl rfl (TL.nil h_)) ?_
            refine Plan.done (Post.thnN ?_)
            refine T.condD rfl (fun c25 => ?_) (fun c25 => ?_)
            · refine T.seq ?_
              refine T.region ?_
              refine R.mvE rfl (by conv => lhs; whnf) ?_
              refine R.mvE rfl (by conv => lhs; whnf) ?_
              refine R.sL Tryz.underlying22 Tryz.sizeOf45 rfl rfl rfl (by omega) (by omega) ?_
              refine R.asE rfl (by conv => lhs; whnf) ?_
              refine TL.nil (Post.thnN ?_)
              refine T.seq ?_
              refine T.seq ?_
              refine T.region ?_
              refine R.asE rfl (by conv => lhs; whnf) ?_
              refine TL.nil (Post.thnN ?_)
              refine T.block ?_
              refine T.loop (ι := Nat × Nat × List Lk × Chunk) (fun ⟨i, j, cur, ch2⟩ H' L' ds' => (1 ≤ j ∧ k + j ≤ xs.length ∧ i + 1 ≤ k + j ∧ cur.length = xs.length) ∧ L' = [ch2] ∧ ds' = [] ∧ OwnS pairE 45 H' (.slice A cur.length cap) cur ch2 ∧ cur.take i = compactL (xs.take (k + j)) ∧ (∀ q, i ≤ q → cur[q]? = xs[q]?)) (fun ⟨i, j, cur, ch2⟩ => [(0, .slice A xs.length cap), (3, .int .i64 i), (4, slcV (.slice A xs.length cap) k xs.length cap 2), (5, .int .i64 j)]) (fun ⟨i, j, cur, ch2⟩ => xs.length - (k + j)) ((k, 1, xs, [(b1, .cells cs1 45)])) ?_ ?_ ?_
              · exact ⟨⟨by omega, by omega, by omega, rfl⟩, rfl, rfl, ho, by rw [hk2, compact_take hz hy1, if_pos c25, show k - 1 + 1 = k by omega, hco], fun q hq => rfl⟩
              · exact ⟨rfl, rfl, rfl, rfl, trivial⟩
              · intro ⟨i, j, cur, ch2⟩ σ1 H_1 L_1 ds_1 s_1 hI_1
                obtain ⟨⟨hj1, hj2, hij, hcl⟩, rfl, rfl, hw, htk, hrest⟩ := hI_1
                refine T.seq ?_
                refine T.seq ?_
                refine T.region ?_
                refine R.mvE rfl (by conv => lhs; whnf) ?_
                refine R.mvE rfl (by conv => lhs; whnf) ?_
                refine R.len Tryz.underlying22 rfl rfl ?_
                refine R.lss rfl rfl rfl ?_
                refine TL.nil (Post.thnN ?_)
                refine T.condD rfl (fun c32 => ?_) (fun c32 => ?_)
                · have hlt2 : k + j < xs.length := by omega
                  obtain ⟨y2, hy2⟩ := getk hlt2
                  obtain ⟨z2, hz2⟩ := getk (xs := xs) (k := k + j - 1) (by omega)
                  have hkj : k + (j + 1) = (k + j - 1) + 2 := by omega
                  have hkj1 : k + j - 1 + 1 = k + j := by omega
                  have hy2' : xs[k + j - 1 + 1]? = some y2 := by rw [hkj1]; exact hy2
                  have hcy : cur[k + j]? = some y2 := by rw [hrest _ (by omega)]; exact hy2
                  have hcz : cur[k + ((j : Int) - 1).toNat]? = some z2 := by rw [show k + ((j : Int) - 1).toNat = k + j - 1 by omega, hrest _ (by omega)]; exact hz2
                  obtain ⟨yi, hci⟩ := getk (xs := cur) (k := i) (by omega)
                  obtain ⟨b3, k3, cs3, l3, hce3, hve3, ix3, hR3, hcs3⟩ := hw.elem hcy
                  obtain rfl : l3 = [.int .i64 y2.1, .int .i64 y2.2] := hR3
                  obtain ⟨b4, k4, cs4, l4, hce4, hve4, ix4, hR4, hcs4⟩ := hw.elem hcz
                  obtain rfl : l4 = [.int .i64 z2.1, .int .i64 z2.2] := hR4
                  obtain ⟨b5, k5, cs5, l5, hce5, hve5, ix5, hR5, hcs5⟩ := hw.elem hci
                  subst hce3
                  obtain ⟨rfl, rfl⟩ : b3 = b4 ∧ cs3 = cs4 := by simpa using hce4
                  obtain ⟨rfl, rfl⟩ : b3 = b5 ∧ cs3 = cs5 := by simpa using hce5
                  obtain rfl : cap = k3 := by injection hve3
                  rw [hcl] at hve3
                  have ix3' := ix_off (sz := 2) (k := k) (i := j) hve3 (by omega) (by omega) (by omega)
                  have ix4' := ix_off (sz := 2) (k := k) (i := ((j : Int) - 1).toNat) hve3 (by omega) (by omega) (by omega)
                  refine T.skip (Post.thnN ?_)
                  refine T.seq ?_
                  refine T.block ?_
                  refine T.seq ?_
                  refine T.draw Tryz_mixed (by kernel_rfl) ?_
                  refine Plan.v 0 [1, 2, 3, 4, 5, 6, 7, 8, 9] (by kernel_rfl) (by kernel_rfl) (by kernel_rfl) (by kernel_rfl) rfl (fun _ _ h_ => R.mvE rfl (by conv => lhs; whnf) (TL.nil h_)) ?_
                  refine Plan.v 1 [2, 3, 4, 5, 6, 7, 8, 9] (by kernel_rfl) (by kernel_rfl) (by kernel_rfl) (by kernel_rfl) rfl (fun _ _ h_ => R.mvE rfl (by conv => lhs; whnf) (TL.nil h_)) ?_
                  refine Plan.v 4 [2, 3, 5, 6, 7, 8, 9] (by kernel_rfl) (by kernel_rfl) (by kernel_rfl) (by kernel_rfl) rfl (fun _ _ h_ => R.mvE rfl (by conv => lhs; whnf) (TL.nil h_)) ?_
                  refine Plan.v 5 [2, 3, 6, 7, 8, 9] (by kernel_rfl) (by kernel_rfl) (by kernel_rfl) (by kernel_rfl) rfl (fun _ _ h_ => R.mvE rfl (by conv => lhs; whnf) (TL.nil h_)) ?_
                  refine Plan.v 6 [2, 3, 7, 8, 9] (by kernel_rfl) (by kernel_rfl) (by kernel_rfl) (by kernel_rfl) rfl (fun _ _ h_ => R.subI rfl rfl rfl (by omega) (TL.nil h_)) ?_
                  refine Plan.s2 2 7 [3, 7, 8, 9] [2, 3, 8, 9] (by kernel_rfl) (by kernel_rfl) (by kernel_rfl) rfl rfl ?_ ?_
                  · refine R.ixp Tryz.underlying22 Tryz.sizeOf45 rfl rfl rfl (by omega) ix3' ?_
                    refine TL.nil (Plan.e1 (HLe.refl _) ?_)
                    refine Plan.s2 3 7 [7, 8, 9] [3, 8, 9] (by kernel_rfl) (by kernel_rfl) (by kernel_rfl) rfl rfl ?_ ?_
                    · refine R.ldAt Tryz.isAgg45 Tryz.sizeOf45 rfl rfl .hd rfl hcs3 ?_
                      refine TL.nil (Plan.e1 (HLe.refl _) ?_)
                      refine Plan.s1 7 [8, 9] (by kernel_rfl) (by kernel_rfl) rfl ?_
                      refine R.ixp Tryz.underlying22 Tryz.sizeOf45 rfl rfl rfl (by omega) ix4' ?_
                      refine TL.nil (Plan.e1 (HLe.refl _) ?_)
                      refine Plan.s1 8 [9] (by kernel_rfl) (by kernel_rfl) rfl ?_
                      refine R.ldAt Tryz.isAgg45 Tryz.sizeOf45 rfl rfl .hd rfl hcs4 ?_
                      refine TL.nil (Plan.e1 (HLe.refl _) ?_)
                      refine Plan.v 9 [] (by kernel_rfl) (by kernel_rfl) (by kernel_rfl) (by kernel_rfl) rfl (fun _ _ h_ => R.neP (a := y2) (b := z2) Tryzc_eqP Tryzc_eqG rfl rfl rfl (TL.nil h_)) ?_
                      refine Plan.done (Post.thnN ?_)
                      refine T.condD rfl (fun c44 => ?_) (fun c44 => ?_)
                      · refine T.seq ?_
                        refine T.region ?_
                        refine R.mvE rfl (by conv => lhs; whnf) ?_
                        refine R.mvE rfl (by conv => lhs; whnf) ?_
                        refine R.mvE rfl (by conv => lhs; whnf) ?_
                        refine R.mvE rfl (by conv => lhs; whnf) ?_
                        refine R.ixp Tryz.underlying22 Tryz.sizeOf45 rfl rfl rfl (by omega) ix3' ?_
                        refine R.ldAt Tryz.isAgg45 Tryz.sizeOf45 rfl rfl .hd rfl hcs3 ?_
                        refine R.ixp Tryz.underlying22 Tryz.sizeOf45 rfl rfl rfl (by omega) (by rw [← hcl]; exact ix5) ?_
                        refine R.stEA (y := y2) (l := [.int .i64 y2.1, .int .i64 y2.2]) Tryz.sizeOf45 rfl hw .hd ix5 rfl rfl rfl ?_
                        intro c51 w51
                        refine TL.nil (Post.thnN ?_)
                        refine T.region ?_
                        refine R.mvE rfl (by conv => lhs; whnf) ?_
                        refine R.addI rfl rfl rfl (by omega) ?_
                        refine R.asE rfl (by conv => lhs; whnf) ?_
                        refine TL.nil (Post.blkN ?_)
                        refine id (Post.thnN ?_)
                        refine T.region ?_
                        refine R.mvE rfl (by conv => lhs; whnf) ?_
                        refine R.addI rfl rfl rfl (by omega) ?_
                        refine R.asE rfl (by conv => lhs; whnf) ?_
                        refine TL.nil (Post.thnN ?_)
                        -- round's end, way ny00yy00y
                        exact ⟨(i + 1, j + 1, cur.set i y2, c51), s_1, ⟨⟨by omega, by show k + (j + 1) ≤ _; omega, by show i + 1 + 1 ≤ k + (j + 1); omega, by rw [List.length_set]; exact hcl⟩, rfl, rfl, by rw [List.length_set]; exact w51, by rw [set_take (by omega), htk, hkj, compact_take hz2 hy2', if_neg c44, hkj1], fun q hq => by rw [List.getElem?_set_ne (by omega)]; exact hrest q (by omega)⟩, by show xs.length - (k + (j + 1)) < xs.length - (k + j); omega, ⟨rfl, rfl, rfl, rfl, trivial⟩⟩
                      · refine T.skip (Post.blkN ?_)
                        refine id (Post.thnN ?_)
                        refine T.region ?_
                        refine R.mvE rfl (by conv => lhs; whnf) ?_
                        refine R.addI rfl rfl rfl (by omega) ?_
                        refine R.asE rfl (by conv => lhs; whnf) ?_
                        refine TL.nil (Post.thnN ?_)
                        -- round's end, way ny00yy00n
                        exact ⟨(i, j + 1, cur, [(b3, .cells cs3 45)]), s_1, ⟨⟨by omega, by show k + (j + 1) ≤ _; omega, by show i + 1 ≤ k + (j + 1); omega, hcl⟩, rfl, rfl, hw, by rw [htk, hkj, compact_take hz2 hy2', if_pos (Decidable.of_not_not c44), hkj1], hrest⟩, by show xs.length - (k + (j + 1)) < xs.length - (k + j); omega, ⟨rfl, rfl, rfl, rfl, trivial⟩⟩
                    · refine R.ixp Tryz.underlying22 Tryz.sizeOf45 rfl rfl rfl (by omega) ix4' ?_
                      refine TL.nil (Plan.e1 (HLe.refl _) ?_)
                      refine Plan.s2 3 8 [8, 9] [3, 9] (by kernel_rfl) (by kernel_rfl) (by kernel_rfl) rfl rfl ?_ ?_
                      · refine R.ldAt Tryz.isAgg45 Tryz.sizeOf45 rfl rfl .hd rfl hcs3 ?_
                        refine TL.nil (Plan.e1 (HLe.refl _) ?_)
                        refine Plan.s1 8 [9] (by kernel_rfl) (by kernel_rfl) rfl ?_
                        refine R.ldAt Tryz.isAgg45 Tryz.sizeOf45 rfl rfl .hd rfl hcs4 ?_
                        refine TL.nil (Plan.e1 (HLe.refl _) ?_)
                        refine Plan.v 9 [] (by kernel_rfl) (by kernel_rfl) (by kernel_rfl) (by kernel_rfl) rfl (fun _ _ h_ => R.neP (a := y2) (b := z2) Tryzc_eqP Tryzc_eqG rfl rfl rfl (TL.nil h_)) ?_
                        refine Plan.done (Post.thnN ?_)
                        refine T.condD rfl (fun c44 => ?_) (fun c44 => ?_)
                        · refine T.seq ?_
                          refine T.region ?_
                          refine R.mvE rfl (by conv => lhs; whnf) ?_
                          refine R.mvE rfl (by conv => lhs; whnf) ?_
                          refine R.mvE rfl (by conv => lhs; whnf) ?_
                          refine R.mvE rfl (by conv => lhs; whnf) ?_
                          refine R.ixp Tryz.underlying22 Tryz.sizeOf45 rfl rfl rfl (by omega) ix3' ?_
                          refine R.ldAt Tryz.isAgg45 Tryz.sizeOf45 rfl rfl .hd rfl hcs3 ?_
                          refine R.ixp Tryz.underlying22 Tryz.sizeOf45 rfl rfl rfl (by omega) (by rw [← hcl]; exact ix5) ?_
                          refine R.stEA (y := y2) (l := [.int .i64 y2.1, .int .i64 y2.2]) Tryz.sizeOf45 rfl hw .hd ix5 rfl rfl rfl ?_
                          intro c51 w51
                          refine TL.nil (Post.thnN ?_)
                          refine T.region ?_
                          refine R.mvE rfl (by conv => lhs; whnf) ?_
                          refine R.addI rfl rfl rfl (by omega) ?_
                          refine R.asE rfl (by conv => lhs; whnf) ?_
                          refine TL.nil (Post.blkN ?_)
                          refine id (Post.thnN ?_)
                          refine T.region ?_
                          refine R.mvE rfl (by conv => lhs; whnf) ?_
                          refine R.addI rfl rfl rfl (by omega) ?_
                          refine R.asE rfl (by conv => lhs; whnf) ?_
                          refine TL.nil (Post.thnN ?_)
                          -- round's end, way ny00yy010y
                          exact ⟨(i + 1, j + 1, cur.set i y2, c51), s_1, ⟨⟨by omega, by show k + (j + 1) ≤ _; omega, by show i + 1 + 1 ≤ k + (j + 1); omega, by rw [List.length_set]; exact hcl⟩, rfl, rfl, by rw [List.length_set]; exact w51, by rw [set_take (by omega), htk, hkj, compact_take hz2 hy2', if_neg c44, hkj1], fun q hq => by rw [List.getElem?_set_ne (by omega)]; exact hrest q (by omega)⟩, by show xs.length - (k + (j + 1)) < xs.length - (k + j); omega, ⟨rfl, rfl, rfl, rfl, trivial⟩⟩
                        · refine T.skip (Post.blkN ?_)
                          refine id (Post.thnN ?_)
                          refine T.region ?_
                          refine R.mvE rfl (by conv => lhs; whnf) ?_
                          refine R.addI rfl rfl rfl (by omega) ?_
                          refine R.asE rfl (by conv => lhs; whnf) ?_
                          refine TL.nil (Post.thnN ?_)
                          -- round's end, way ny00yy010n
                          exact ⟨(i, j + 1, cur, [(b3, .cells cs3 45)]), s_1, ⟨⟨by omega, by show k + (j + 1) ≤ _; omega, by show i + 1 ≤ k + (j + 1); omega, hcl⟩, rfl, rfl, hw, by rw [htk, hkj, compact_take hz2 hy2', if_pos (Decidable.of_not_not c44), hkj1], hrest⟩, by show xs.length - (k + (j + 1)) < xs.length - (k + j); omega, ⟨rfl, rfl, rfl, rfl, trivial⟩⟩
                      · refine R.ldAt Tryz.isAgg45 Tryz.sizeOf45 rfl rfl .hd rfl hcs4 ?_
                        refine TL.nil (Plan.e1 (HLe.refl _) ?_)
                        refine Plan.s1 3 [9] (by kernel_rfl) (by kernel_rfl) rfl ?_
                        refine R.ldAt Tryz.isAgg45 Tryz.sizeOf45 rfl rfl .hd rfl hcs3 ?_
                        refine TL.nil (Plan.e1 (HLe.refl _) ?_)
                        refine Plan.v 9 [] (by kernel_rfl) (by kernel_rfl) (by kernel_rfl) (by kernel_rfl) rfl (fun _ _ h_ => R.neP (a := y2) (b := z2) Tryzc_eqP Tryzc_eqG rfl rfl rfl (TL.nil h_)) ?_
                        refine Plan.done (Post.thnN ?_)
                        refine T.condD rfl (fun c44 => ?_) (fun c44 => ?_)
                        · refine T.seq ?_
                          refine T.region ?_
                          refine R.mvE rfl (by conv => lhs; whnf) ?_
                          refine R.mvE rfl (by conv => lhs; whnf) ?_
                          refine R.mvE rfl (by conv => lhs; whnf) ?_
                          refine R.mvE rfl (by conv => lhs; whnf) ?_
                          refine R.ixp Tryz.underlying22 Tryz.sizeOf45 rfl rfl rfl (by omega) ix3' ?_
                          refine R.ldAt Tryz.isAgg45 Tryz.sizeOf45 rfl rfl .hd rfl hcs3 ?_
                          refine R.ixp Tryz.underlying22 Tryz.sizeOf45 rfl rfl rfl (by omega) (by rw [← hcl]; exact ix5) ?_
                          refine R.stEA (y := y2) (l := [.int .i64 y2.1, .int .i64 y2.2]) Tryz.sizeOf45 rfl hw .hd ix5 rfl rfl rfl ?_
                          intro c51 w51
                          refine TL.nil (Post.thnN ?_)
                          refine T.region ?_
                          refine R.mvE rfl (by conv => lhs; whnf) ?_
                          refine R.addI rfl rfl rfl (by omega) ?_
                          refine R.asE rfl (by conv => lhs; whnf) ?_
                          refine TL.nil (Post.blkN ?_)
                          refine id (Post.thnN ?_)
                          refine T.region ?_
                          refine R.mvE rfl (by conv => lhs; whnf) ?_
                          refine R.addI rfl rfl rfl (by omega) ?_
                          refine R.asE rfl (by conv => lhs; whnf) ?_
                          refine TL.nil (Post.thnN ?_)
                          -- round's end, way ny00yy011y
                          exact ⟨(i + 1, j + 1, cur.set i y2, c51), s_1, ⟨⟨by omega, by show k + (j + 1) ≤ _; omega, by show i + 1 + 1 ≤ k + (j + 1); omega, by rw [List.length_set]; exact hcl⟩, rfl, rfl, by rw [List.length_set]; exact w51, by rw [set_take (by omega), htk, hkj, compact_take hz2 hy2', if_neg c44, hkj1], fun q hq => by rw [List.getElem?_set_ne (by omega)]; exact hrest q (by omega)⟩, by show xs.length - (k + (j + 1)) < xs.length - (k + j); omega, ⟨rfl, rfl, rfl, rfl, trivial⟩⟩
                        · refine T.skip (Post.blkN ?_)
                          refine id (Post.thnN ?_)
                          refine T.region ?_
                          refine R.mvE rfl (by conv => lhs; whnf) ?_
                          refine R.addI rfl rfl rfl (by omega) ?_
                          refine R.asE rfl (by conv => lhs; whnf) ?_
                          refine TL.nil (Post.thnN ?_)
                          -- round's end, way ny00yy011n
                          exact ⟨(i, j + 1, cur, [(b3, .cells cs3 45)]), s_1, ⟨⟨by omega, by show k + (j + 1) ≤ _; omega, by show i + 1 ≤ k + (j + 1); omega, hcl⟩, rfl, rfl, hw, by rw [htk, hkj, compact_take hz2 hy2', if_pos (Decidable.of_not_not c44), hkj1], hrest⟩, by show xs.length - (k + (j + 1)) < xs.length - (k + j); omega, ⟨rfl, rfl, rfl, rfl, trivial⟩⟩
                  · refine R.ixp Tryz.underlying22 Tryz.sizeOf45 rfl rfl rfl (by omega) ix4' ?_
                    refine TL.nil (Plan.e1 (HLe.refl _) ?_)
                    refine Plan.s2 2 8 [3, 8, 9] [2, 3, 9] (by kernel_rfl) (by kernel_rfl) (by kernel_rfl) rfl rfl ?_ ?_
                    · refine R.ixp Tryz.underlying22 Tryz.sizeOf45 rfl rfl rfl (by omega) ix3' ?_
                      refine TL.nil (Plan.e1 (HLe.refl _) ?_)
                      refine Plan.s2 3 8 [8, 9] [3, 9] (by kernel_rfl) (by kernel_rfl) (by kernel_rfl) rfl rfl ?_ ?_
                      · refine R.ldAt Tryz.isAgg45 Tryz.sizeOf45 rfl rfl .hd rfl hcs3 ?_
                        refine TL.nil (Plan.e1 (HLe.refl _) ?_)
                        refine Plan.s1 8 [9] (by kernel_rfl) (by kernel_rfl) rfl ?_
                        refine R.ldAt Tryz.isAgg45 Tryz.sizeOf45 rfl rfl .hd rfl hcs4 ?_
                        refine TL.nil (Plan.e1 (HLe.refl _) ?_)
                        refine Plan.v 9 [] (by kernel_rfl) (by kernel_rfl) (by kernel_rfl) (by kernel_rfl) rfl (fun _ _ h_ => R.neP (a := y2) (b := z2) Tryzc_eqP Tryzc_eqG rfl rfl rfl (TL.nil h_)) ?_
                        refine Plan.done (Post.thnN ?_)
                        refine T.condD rfl (fun c44 => ?_) (fun c44 => ?_)
                        · refine T.seq ?_
                          refine T.region ?_
                          refine R.mvE rfl (by conv => lhs; whnf) ?_
                          refine R.mvE rfl (by conv => lhs; whnf) ?_
                          refine R.mvE rfl (by conv => lhs; whnf) ?_
                          refine R.mvE rfl (by conv => lhs; whnf) ?_
                          refine R.ixp Tryz.underlying22 Tryz.sizeOf45 rfl rfl rfl (by omega) ix3' ?_
                          refine R.ldAt Tryz.isAgg45 Tryz.sizeOf45 rfl rfl .hd rfl hcs3 ?_
                          refine R.ixp Tryz.underlying22 Tryz.sizeOf45 rfl rfl rfl (by omega) (by rw [← hcl]; exact ix5) ?_
                          refine R.stEA (y := y2) (l := [.int .i64 y2.1, .int .i64 y2.2]) Tryz.sizeOf45 rfl hw .hd ix5 rfl rfl rfl ?_
                          intro c51 w51
                          refine TL.nil (Post.thnN ?_)
                          refine T.region ?_
                          refine R.mvE rfl (by conv => lhs; whnf) ?_
                          refine R.addI rfl rfl rfl (by omega) ?_
                          refine R.asE rfl (by conv => lhs; whnf) ?_
                          refine TL.nil (Post.blkN ?_)
                          refine id (Post.thnN ?_)
                          refine T.region ?_
                          refine R.mvE rfl (by conv => lhs; whnf) ?_
                          refine R.addI rfl rfl rfl (by omega) ?_
                          refine R.asE rfl (by conv => lhs; whnf) ?_
                          refine TL.nil (Post.thnN ?_)
                          -- round's end, way ny00yy100y
                          exact ⟨(i + 1, j + 1, cur.set i y2, c51), s_1, ⟨⟨by omega, by show k + (j + 1) ≤ _; omega, by show i + 1 + 1 ≤ k + (j + 1); omega, by rw [List.length_set]; exact hcl⟩, rfl, rfl, by rw [List.length_set]; exact w51, by rw [set_take (by omega), htk, hkj, compact_take hz2 hy2', if_neg c44, hkj1], fun q hq => by rw [List.getElem?_set_ne (by omega)]; exact hrest q (by omega)⟩, by show xs.length - (k + (j + 1)) < xs.length - (k + j); omega, ⟨rfl, rfl, rfl, rfl, trivial⟩⟩
                        · refine T.skip (Post.blkN ?_)
                          refine id (Post.thnN ?_)
                          refine T.region ?_
                          refine R.mvE rfl (by conv => lhs; whnf) ?_
                          refine R.addI rfl rfl rfl (by omega) ?_
                          refine R.asE rfl (by conv => lhs; whnf) ?_
                          refine TL.nil (Post.thnN ?_)
                          -- round's end, way ny00yy100n
                          exact ⟨(i, j + 1, cur, [(b3, .cells cs3 45)]), s_1, ⟨⟨by omega, by show k + (j + 1) ≤ _; omega, by show i + 1 ≤ k + (j + 1); omega, hcl⟩, rfl, rfl, hw, by rw [htk, hkj, compact_take hz2 hy2', if_pos (Decidable.of_not_not c44), hkj1], hrest⟩, by show xs.length - (k + (j + 1)) < xs.length - (k + j); omega, ⟨rfl, rfl, rfl, rfl, trivial⟩⟩
                      · refine R.ldAt Tryz.isAgg45 Tryz.sizeOf45 rfl rfl .hd rfl hcs4 ?_
                        refine TL.nil (Plan.e1 (HLe.refl _) ?_)
                        refine Plan.s1 3 [9] (by kernel_rfl) (by kernel_rfl) rfl ?_
                        refine R.ldAt Tryz.isAgg45 Tryz.sizeOf45 rfl rfl .hd rfl hcs3 ?_
                        refine TL.nil (Plan.e1 (HLe.refl _) ?_)
                        refine Plan.v 9 [] (by kernel_rfl) (by kernel_rfl) (by kernel_rfl) (by kernel_rfl) rfl (fun _ _ h_ => R.neP (a := y2) (b := z2) Tryzc_eqP Tryzc_eqG rfl rfl rfl (TL.nil h_)) ?_
                        refine Plan.done (Post.thnN ?_)
                        refine T.condD rfl (fun c44 => ?_) (fun c44 => ?_)
                        · refine T.seq ?_
                          refine T.region ?_
                          refine R.mvE rfl (by conv => lhs; whnf) ?_
                          refine R.mvE rfl (by conv => lhs; whnf) ?_
                          refine R.mvE rfl (by conv => lhs; whnf) ?_
                          refine R.mvE rfl (by conv => lhs; whnf) ?_
                          refine R.ixp Tryz.underlying22 Tryz.sizeOf45 rfl rfl rfl (by omega) ix3' ?_
                          refine R.ldAt Tryz.isAgg45 Tryz.sizeOf45 rfl rfl .hd rfl hcs3 ?_
                          refine R.ixp Tryz.underlying22 Tryz.sizeOf45 rfl rfl rfl (by omega) (by rw [← hcl]; exact ix5) ?_
                          refine R.stEA (y := y2) (l := [.int .i64 y2.1, .int .i64 y2.2]) Tryz.sizeOf45 rfl hw .hd ix5 rfl rfl rfl ?_
                          intro c51 w51
                          refine TL.nil (Post.thnN ?_)
                          refine T.region ?_
                          refine R.mvE rfl (by conv => lhs; whnf) ?_
                          refine R.addI rfl rfl rfl (by omega) ?_
                          refine R.asE rfl (by conv => lhs; whnf) ?_
                          refine TL.nil (Post.blkN ?_)
                          refine id (Post.thnN ?_)
                          refine T.region ?_
                          refine R.mvE rfl (by conv => lhs; whnf) ?_
                          refine R.addI rfl rfl rfl (by omega) ?_
                          refine R.asE rfl (by conv => lhs; whnf) ?_
                          refine TL.nil (Post.thnN ?_)
                          -- round's end, way ny00yy101y
                          exact ⟨(i + 1, j + 1, cur.set i y2, c51), s_1, ⟨⟨by omega, by show k + (j + 1) ≤ _; omega, by show i + 1 + 1 ≤ k + (j + 1); omega, by rw [List.length_set]; exact hcl⟩, rfl, rfl, by rw [List.length_set]; exact w51, by rw [set_take (by omega), htk, hkj, compact_take hz2 hy2', if_neg c44, hkj1], fun q hq => by rw [List.getElem?_set_ne (by omega)]; exact hrest q (by omega)⟩, by show xs.length - (k + (j + 1)) < xs.length - (k + j); omega, ⟨rfl, rfl, rfl, rfl, trivial⟩⟩
                        · refine T.skip (Post.blkN ?_)
                          refine id (Post.thnN ?_)
                          refine T.region ?_
                          refine R.mvE rfl (by conv => lhs; whnf) ?_
                          refine R.addI rfl rfl rfl (by omega) ?_
                          refine R.asE rfl (by conv => lhs; whnf) ?_
                          refine TL.nil (Post.thnN ?_)
                          -- round's end, way ny00yy101n
                          exact ⟨(i, j + 1, cur, [(b3, .cells cs3 45)]), s_1, ⟨⟨by omega, by show k + (j + 1) ≤ _; omega, by show i + 1 ≤ k + (j + 1); omega, hcl⟩, rfl, rfl, hw, by rw [htk, hkj, compact_take hz2 hy2', if_pos (Decidable.of_not_not c44), hkj1], hrest⟩, by show xs.length - (k + (j + 1)) < xs.length - (k + j); omega, ⟨rfl, rfl, rfl, rfl, trivial⟩⟩
                    · refine R.ldAt Tryz.isAgg45 Tryz.sizeOf45 rfl rfl .hd rfl hcs4 ?_
                      refine TL.nil (Plan.e1 (HLe.refl _) ?_)
                      refine Plan.s1 2 [3, 9] (by kernel_rfl) (by kernel_rfl) rfl ?_
                      refine R.ixp Tryz.underlying22 Tryz.sizeOf45 rfl rfl rfl (by omega) ix3' ?_
                      refine TL.nil (Plan.e1 (HLe.refl _) ?_)
                      refine Plan.s1 3 [9] (by kernel_rfl) (by kernel_rfl) rfl ?_
                      refine R.ldAt Tryz.isAgg45 Tryz.sizeOf45 rfl rfl .hd rfl hcs3 ?_
                      refine TL.nil (Plan.e1 (HLe.refl _) ?_)
                      refine Plan.v 9 [] (by kernel_rfl) (by kernel_rfl) (by kernel_rfl) (by kernel_rfl) rfl (fun _ _ h_ => R.neP (a := y2) (b := z2) Tryzc_eqP Tryzc_eqG rfl rfl rfl (TL.nil h_)) ?_
                      refine Plan.done (Post.thnN ?_)
                      refine T.condD rfl (fun c44 => ?_) (fun c44 => ?_)
                      · refine T.seq ?_
                        refine T.region ?_
                        refine R.mvE rfl (by conv => lhs; whnf) ?_
                        refine R.mvE rfl (by conv => lhs; whnf) ?_
                        refine R.mvE rfl (by conv => lhs; whnf) ?_
                        refine R.mvE rfl (by conv => lhs; whnf) ?_
                        refine R.ixp Tryz.underlying22 Tryz.sizeOf45 rfl rfl rfl (by omega) ix3' ?_
                        refine R.ldAt Tryz.isAgg45 Tryz.sizeOf45 rfl rfl .hd rfl hcs3 ?_
                        refine R.ixp Tryz.underlying22 Tryz.sizeOf45 rfl rfl rfl (by omega) (by rw [← hcl]; exact ix5) ?_
                        refine R.stEA (y := y2) (l := [.int .i64 y2.1, .int .i64 y2.2]) Tryz.sizeOf45 rfl hw .hd ix5 rfl rfl rfl ?_
                        intro c51 w51
                        refine TL.nil (Post.thnN ?_)
                        refine T.region ?_
                        refine R.mvE rfl (by conv => lhs; whnf) ?_
                        refine R.addI rfl rfl rfl (by omega) ?_
                        refine R.asE rfl (by conv => lhs; whnf) ?_
                        refine TL.nil (Post.blkN ?_)
                        refine id (Post.thnN ?_)
                        refine T.region ?_
                        refine R.mvE rfl (by conv => lhs; whnf) ?_
                        refine R.addI rfl rfl rfl (by omega) ?_
                        refine R.asE rfl (by conv => lhs; whnf) ?_
                        refine TL.nil (Post.thnN ?_)
                        -- round's end, way ny00yy11y
                        exact ⟨(i + 1, j + 1, cur.set i y2, c51), s_1, ⟨⟨by omega, by show k + (j + 1) ≤ _; omega, by show i + 1 + 1 ≤ k + (j + 1); omega, by rw [List.length_set]; exact hcl⟩, rfl, rfl, by rw [List.length_set]; exact w51, by rw [set_take (by omega), htk, hkj, compact_take hz2 hy2', if_neg c44, hkj1], fun q hq => by rw [List.getElem?_set_ne (by omega)]; exact hrest q (by omega)⟩, by show xs.length - (k + (j + 1)) < xs.length - (k + j); omega, ⟨rfl, rfl, rfl, rfl, trivial⟩⟩
                      · refine T.skip (Post.blkN ?_)
                        refine id (Post.thnN ?_)
                        refine T.region ?_
                        refine R.mvE rfl (by conv => lhs; whnf) ?_
                        refine R.addI rfl rfl rfl (by omega) ?_
                        refine R.asE rfl (by conv => lhs; whnf) ?_
                        refine TL.nil (Post.thnN ?_)
                        -- round's end, way ny00yy11n
                        exact ⟨(i, j + 1, cur, [(b3, .cells cs3 45)]), s_1, ⟨⟨by omega, by show k + (j + 1) ≤ _; omega, by show i + 1 ≤ k + (j + 1); omega, hcl⟩, rfl, rfl, hw, by rw [htk, hkj, compact_take hz2 hy2', if_pos (Decidable.of_not_not c44), hkj1], hrest⟩, by show xs.length - (k + (j + 1)) < xs.length - (k + j); omega, ⟨rfl, rfl, rfl, rfl, trivial⟩⟩
                · have hje : k + j = xs.length := by omega
                  rw [hje, List.take_length] at htk
                  have hil : (cur.take i).length = i := by simp; omega
                  refine T.exit (Post.thnE (Post.thnE (Post.blkX ?_)))
                  refine id (Post.thnN ?_)
                  refine T.seq ?_
                  refine T.region ?_
                  refine R.mvE rfl (by conv => lhs; whnf) ?_
                  refine R.mvE rfl (by conv => lhs; whnf) ?_
                  refine R.sL Tryz.underlying22 Tryz.sizeOf45 rfl rfl rfl (by omega) (by omega) ?_
                  refine R.clr (dd := none) (xs := cur.take i) Tryz_ty22 (zone_of (z := .agg #[.int .i64 0, .int .i64 0]) (by kernel_rfl) (by intro v hv; simp [Value.cells] at hv; rcases hv with rfl | rfl <;> rfl)) rfl (fun q h => by cases h) (m := xs.length) (by rw [hil]; rfl) (by rw [hil]; exact own_take0 hw (by omega)) .hd (by omega) (by omega) ?_
                  intro c57 w57
                  refine TL.nil (Post.thnN ?_)
                  refine T.seq ?_
                  refine T.region ?_
                  refine R.mvE rfl (by conv => lhs; whnf) ?_
                  refine R.mvE rfl (by conv => lhs; whnf) ?_
                  refine R.sH Tryz.underlying22 Tryz.sizeOf45 rfl rfl rfl (by omega) (by omega) ?_
                  refine R.asE rfl (by conv => lhs; whnf) ?_
                  refine TL.nil (Post.thnN ?_)
                  refine T.ret (Post.blkR (Post.thnR (Post.thnR (Post.blkR (Post.thnR ?_)))))
                  -- way ny00yn
                  refine fin1L [c57] rfl rfl (List.Sublist.refl _) ⟨_, rfl, ?_⟩
                  show OwnS pairE 45 _ (slcV (.slice A xs.length cap) 0 i cap 2) (compactL xs) c57
                  rw [slc_take0, ← htk]
                  rw [hil] at w57
                  exact w57
            · refine T.skip (Post.blkN ?_)
              refine id (Post.thnN ?_)
              refine T.region ?_
              refine R.mvE rfl (by conv => lhs; whnf) ?_
              refine R.addI rfl rfl rfl (by omega) ?_
              refine R.asE rfl (by conv => lhs; whnf) ?_
              refine TL.nil (Post.thnN ?_)
              -- round's end, way ny00n
              exact ⟨k + 1, s_0, ⟨⟨by omega, by omega⟩, rfl, rfl, by rw [show k + 1 = (k - 1) + 2 by omega, compact_take hz hy1, if_neg c25, show k - 1 + 1 = k by omega, hco, show k - 1 + 2 = k + 1 by omega, take_snoc _ _ _ hy]⟩, by omega, ⟨rfl, rfl, trivial⟩⟩
          · refine R.ixp Tryz.underlying22 Tryz.sizeOf45 rfl rfl rfl (by omega) ix2 ?_
            refine TL.nil (Plan.e1 (HLe.refl _) ?_)
            refine Plan.s2 3 8 [8, 9] [3, 9] (by kernel_rfl) (by kernel_rfl) (by kernel_rfl) rfl rfl ?_ ?_
            · refine R.ldAt Tryz.isAgg45 Tryz.sizeOf45 rfl rfl .hd rfl hcs1 ?_
              refine TL.nil (Plan.e1 (HLe.refl _) ?_)
              refine Plan.s1 8 [9] (by kernel_rfl) (by kernel_rfl) rfl ?_
              refine R.ldAt Tryz.isAgg45 Tryz.sizeOf45 rfl rfl .hd rfl hcs2 ?_
              refine TL.nil (Plan.e1 (HLe.refl _) ?_)
              refine Plan.v 9 [] (by kernel_rfl) (by kernel_rfl) (by kernel_rfl) (by kernel_rfl) rfl (fun _ _ h_ => R.eqP (a := y) (b := z) Tryzc_eqP Tryzc_eqG rfl rfl rfl (TL.nil h_)) ?_
              refine Plan.done (Post.thnN ?_)
              refine T.condD rfl (fun c25 => ?_) (fun c25 => ?_)
              · refine T.seq ?_
                refine T.region ?_
                refine R.mvE rfl (by conv => lhs; whnf) ?_
                refine R.mvE rfl (by conv => lhs; whnf) ?_
                refine R.sL Tryz.underlying22 Tryz.sizeOf45 rfl rfl rfl (by omega) (by omega) ?_
                refine R.asE rfl (by conv => lhs; whnf) ?_
                refine TL.nil (Post.thnN ?_)
                refine T.seq ?_
                refine T.seq ?_
                refine T.region ?_
                refine R.asE rfl (by conv => lhs; whnf) ?_
                refine TL.nil (Post.thnN ?_)
                refine T.block ?_
                refine T.loop (ι := Nat × Nat × List Lk × Chunk) (fun ⟨i, j, cur, ch2⟩ H' L' ds' => (1 ≤ j ∧ k + j ≤ xs.length ∧ i + 1 ≤ k + j ∧ cur.length = xs.length) ∧ L' = [ch2] ∧ ds' = [] ∧ OwnS pairE 45 H' (.slice A cur.length cap) cur ch2 ∧ cur.take i = compactL (xs.take (k + j)) ∧ (∀ q, i ≤ q → cur[q]? = xs[q]?)) (fun ⟨i, j, cur, ch2⟩ => [(0, .slice A xs.length cap), (3, .int .i64 i), (4, slcV (.slice A xs.length cap) k xs.length cap 2), (5, .int .i64 j)]) (fun ⟨i, j, cur, ch2⟩ => xs.length - (k + j)) ((k, 1, xs, [(b1, .cells cs1 45)])) ?_ ?_ ?_
                · exact ⟨⟨by omega, by omega, by omega, rfl⟩, rfl, rfl, ho, by rw [hk2, compact_take hz hy1, if_pos c25, show k - 1 + 1 = k by omega, hco], fun q hq => rfl⟩
                · exact ⟨rfl, rfl, rfl, rfl, trivial⟩
                · intro ⟨i, j, cur, ch2⟩ σ2 H_2 L_2 ds_2 s_2 hI_2
                  obtain ⟨⟨hj1, hj2, hij, hcl⟩, rfl, rfl, hw, htk, hrest⟩ := hI_2
                  refine T.seq ?_
                  refine T.seq ?_
                  refine T.region ?_
                  refine R.mvE rfl (by conv => lhs; whnf) ?_
                  refine R.mvE rfl (by conv => lhs; whnf) ?_
                  refine R.len Tryz.underlying22 rfl rfl ?_
                  refine R.lss rfl rfl rfl ?_
                  refine TL.nil (Post.thnN ?_)
                  refine T.condD rfl (fun c32 => ?_) (fun c32 => ?_)
                  · have hlt2 : k + j < xs.length := by omega
                    obtain ⟨y2, hy2⟩ := getk hlt2
                    obtain ⟨z2, hz2⟩ := getk (xs := xs) (k := k + j - 1) (by omega)
                    have hkj : k + (j + 1) = (k + j - 1) + 2 := by omega
                    have hkj1 : k + j - 1 + 1 = k + j := by omega
                    have hy2' : xs[k + j - 1 + 1]? = some y2 := by rw [hkj1]; exact hy2
                    have hcy : cur[k + j]? = some y2 := by rw [hrest _ (by omega)]; exact hy2
                    have hcz : cur[k + ((j : Int) - 1).toNat]? = some z2 := by rw [show k + ((j : Int) - 1).toNat = k + j - 1 by omega, hrest _ (by omega)]; exact hz2
                    obtain ⟨yi, hci⟩ := getk (xs := cur) (k := i) (by omega)
                    obtain ⟨b3, k3, cs3, l3, hce3, hve3, ix3, hR3, hcs3⟩ := hw.elem hcy
                    obtain rfl : l3 = [.int .i64 y2.1, .int .i64 y2.2] := hR3
                    obtain ⟨b4, k4, cs4, l4, hce4, hve4, ix4, hR4, hcs4⟩ := hw.elem hcz
                    obtain rfl : l4 = [.int .i64 z2.1, .int .i64 z2.2] := hR4
                    obtain ⟨b5, k5, cs5, l5, hce5, hve5, ix5, hR5, hcs5⟩ := hw.elem hci
                    subst hce3
                    obtain ⟨rfl, rfl⟩ : b3 = b4 ∧ cs3 = cs4 := by simpa using hce4
                    obtain ⟨rfl, rfl⟩ : b3 = b5 ∧ cs3 = cs5 := by simpa using hce5
                    obtain rfl : cap = k3 := by injection hve3
                    rw [hcl] at hve3
                    have ix3' := ix_off (sz := 2) (k := k) (i := j) hve3 (by omega) (by omega) (by omega)
                    have ix4' := ix_off (sz := 2) (k := k) (i := ((j : Int) - 1).toNat) hve3 (by omega) (by omega) (by omega)
                    refine T.skip (Post.thnN ?_)
                    refine T.seq ?_
                    refine T.block ?_
                    refine T.seq ?_
                    refine T.draw Tryz_mixed (by kernel_rfl) ?_
                    refine Plan.v 0 [1, 2, 3, 4, 5, 6, 7, 8, 9] (by kernel_rfl) (by kernel_rfl) (by kernel_rfl) (by kernel_rfl) rfl (fun _ _ h_ => R.mvE rfl (by conv => lhs; whnf) (TL.nil h_)) ?_
                    refine Plan.v 1 [2, 3, 4, 5, 6, 7, 8, 9] (by kernel_rfl) (by kernel_rfl) (by kernel_rfl) (by kernel_rfl) rfl (fun _ _ h_ => R.mvE rfl (by conv => lhs; whnf) (TL.nil h_)) ?_
                    refine Plan.v 4 [2, 3, 5, 6, 7, 8, 9] (by kernel_rfl) (by kernel_rfl) (by kernel_rfl) (by kernel_rfl) rfl (fun _ _ h_ => R.mvE rfl (by conv => lhs; whnf) (TL.nil h_)) ?_
                    refine Plan.v 5 [2, 3, 6, 7, 8, 9] (by kernel_rfl) (by kernel_rfl) (by kernel_rfl) (by kernel_rfl) rfl (fun _ _ h_ => R.mvE rfl (by conv => lhs; whnf) (TL.nil h_)) ?_
                    refine Plan.v 6 [2, 3, 7, 8, 9] (by kernel_rfl) (by kernel_rfl) (by kernel_rfl) (by kernel_rfl) rfl (fun _ _ h_ => R.subI rfl rfl rfl (by omega) (TL.nil h_)) ?_
                    refine Plan.s2 2 7 [3, 7, 8, 9] [2, 3, 8, 9] (by kernel_rfl) (by kernel_rfl) (by kernel_rfl) rfl rfl ?_ ?_
                    · refine R.ixp Tryz.underlying22 Tryz.sizeOf45 rfl rfl rfl (by omega) ix3' ?_
                      refine TL.nil (Plan.e1 (HLe.refl _) ?_)
                      refine Plan.s2 3 7 [7, 8, 9] [3, 8, 9] (by kernel_rfl) (by kernel_rfl) (by kernel_rfl) rfl rfl ?_ ?_
                      · refine R.ldAt Tryz.isAgg45 Tryz.sizeOf45 rfl rfl .hd rfl hcs3 ?_
                        refine TL.nil (Plan.e1 (HLe.refl _) ?_)
                        refine Plan.s1 7 [8, 9] (by kernel_rfl) (by kernel_rfl) rfl ?_
                        refine R.ixp Tryz.underlying22 Tryz.sizeOf45 rfl rfl rfl (by omega) ix4' ?_
                        refine TL.nil (Plan.e1 (HLe.refl _) ?_)
                        refine Plan.s1 8 [9] (by kernel_rfl) (by kernel_rfl) rfl ?_
                        refine R.ldAt Tryz.isAgg45 Tryz.sizeOf45 rfl rfl .hd rfl hcs4 ?_
                        refine TL.nil (Plan.e1 (HLe.refl _) ?_)
                        refine Plan.v 9 [] (by kernel_rfl) (by kernel_rfl) (by kernel_rfl) (by kernel_rfl) rfl (fun _ _ h_ => R.neP (a := y2) (b := z2) Tryzc_eqP Tryzc_eqG rfl rfl rfl (TL.nil h_)) ?_
                        refine Plan.done (Post.thnN ?_)
                        refine T.condD rfl (fun c44 => ?_) (fun c44 => ?_)
                        · refine T.seq ?_
                          refine T.region ?_
                          refine R.mvE rfl (by conv => lhs; whnf) ?_
                          refine R.mvE rfl (by conv => lhs; whnf) ?_
                          refine R.mvE rfl (by conv => lhs; whnf) ?_
                          refine R.mvE rfl (by conv => lhs; whnf) ?_
                          refine R.ixp Tryz.underlying22 Tryz.sizeOf45 rfl rfl rfl (by omega) ix3' ?_
                          refine R.ldAt Tryz.isAgg45 Tryz.sizeOf45 rfl rfl .hd rfl hcs3 ?_
                          refine R.ixp Tryz.underlying22 Tryz.sizeOf45 rfl rfl rfl (by omega) (by rw [← hcl]; exact ix5) ?_
                          refine R.stEA (y := y2) (l := [.int .i64 y2.1, .int .i64 y2.2]) Tryz.sizeOf45 rfl hw .hd ix5 rfl rfl rfl ?_
                          intro c51 w51
                          refine TL.nil (Post.thnN ?_)
                          refine T.region ?_
                          refine R.mvE rfl (by conv => lhs; whnf) ?_
                          refine R.addI rfl rfl rfl (by omega) ?_
                          refine R.asE rfl (by conv => lhs; whnf) ?_
                          refine TL.nil (Post.blkN ?_)
                          refine id (Post.thnN ?_)
                          refine T.region ?_
                          refine R.mvE rfl (by conv => lhs; whnf) ?_
                          refine R.addI rfl rfl rfl (by omega) ?_
                          refine R.asE rfl (by conv => lhs; whnf) ?_
                          refine TL.nil (Post.thnN ?_)
                          -- round's end, way ny010yy00y
                          exact ⟨(i + 1, j + 1, cur.set i y2, c51), s_2, ⟨⟨by omega, by show k + (j + 1) ≤ _; omega, by show i + 1 + 1 ≤ k + (j + 1); omega, by rw [List.length_set]; exact hcl⟩, rfl, rfl, by rw [List.length_set]; exact w51, by rw [set_take (by omega), htk, hkj, compact_take hz2 hy2', if_neg c44, hkj1], fun q hq => by rw [List.getElem?_set_ne (by omega)]; exact hrest q (by omega)⟩, by show xs.length - (k + (j + 1)) < xs.length - (k + j); omega, ⟨rfl, rfl, rfl, rfl, trivial⟩⟩
                        · refine T.skip (Post.blkN ?_)
                          refine id (Post.thnN ?_)
                          refine T.region ?_
                          refine R.mvE rfl (by conv => lhs; whnf) ?_
                          refine R.addI rfl rfl rfl (by omega) ?_
                          refine R.asE rfl (by conv => lhs; whnf) ?_
                          refine TL.nil (Post.thnN ?_)
                          -- round's end, way ny010yy00n
                          exact ⟨(i, j + 1, cur, [(b3, .cells cs3 45)]), s_2, ⟨⟨by omega, by show k + (j + 1) ≤ _; omega, by show i + 1 ≤ k + (j + 1); omega, hcl⟩, rfl, rfl, hw, by rw [htk, hkj, compact_take hz2 hy2', if_pos (Decidable.of_not_not c44), hkj1], hrest⟩, by show xs.length - (k + (j + 1)) < xs.length - (k + j); omega, ⟨rfl, rfl, rfl, rfl, trivial⟩⟩
                      · refine R.ixp Tryz.underlying22 Tryz.sizeOf45 rfl rfl rfl (by omega) ix4' ?_
                        refine TL.nil (Plan.e1 (HLe.refl _) ?_)
                        refine Plan.s2 3 8 [8, 9] [3, 9] (by kernel_rfl) (by kernel_rfl) (by kernel_rfl) rfl rfl ?_ ?_
                        · refine R.ldAt Tryz.isAgg45 Tryz.sizeOf45 rfl rfl .hd rfl hcs3 ?_
                          refine TL.nil (Plan.e1 (HLe.refl _) ?_)
                          refine Plan.s1 8 [9] (by kernel_rfl) (by kernel_rfl) rfl ?_
                          refine R.ldAt Tryz.isAgg45 Tryz.sizeOf45 rfl rfl .hd rfl hcs4 ?_
                          refine TL.nil (Plan.e1 (HLe.refl _) ?_)
                          refine Plan.v 9 [] (by kernel_rfl) (by kernel_rfl) (by kernel_rfl) (by kernel_rfl) rfl (fun _ _ h_ => R.neP (a := y2) (b := z2) Tryzc_eqP Tryzc_eqG rfl rfl rfl (TL.nil h_)) ?_
                          refine Plan.done (Post.thnN ?_)
                          refine T.condD rfl (fun c44 => ?_) (fun c44 => ?_)
                          · refine T.seq ?_
                            refine T.region ?_
                            refine R.mvE rfl (by conv => lhs; whnf) ?_
                            refine R.mvE rfl (by conv => lhs; whnf) ?_
                            refine R.mvE rfl (by conv => lhs; whnf) ?_
                            refine R.mvE rfl (by conv => lhs; whnf) ?_
                            refine R.ixp Tryz.underlying22 Tryz.sizeOf45 rfl rfl rfl (by omega) ix3' ?_
                            refine R.ldAt Tryz.isAgg45 Tryz.sizeOf45 rfl rfl .hd rfl hcs3 ?_
                            refine R.ixp Tryz.underlying22 Tryz.sizeOf45 rfl rfl rfl (by omega) (by rw [← hcl]; exact ix5) ?_
                            refine R.stEA (y := y2) (l := [.int .i64 y2.1, .int .i64 y2.2]) Tryz.sizeOf45 rfl hw .hd ix5 rfl rfl rfl ?_
                            intro c51 w51
                            refine TL.nil (Post.thnN ?_)
                            refine T.region ?_
                            refine R.mvE rfl (by conv => lhs; whnf) ?_
                            refine R.addI rfl rfl rfl (by omega) ?_
                            refine R.asE rfl (by conv => lhs; whnf) ?_
                            refine TL.nil (Post.blkN ?_)
                            refine id (Post.thnN ?_)
                            refine T.region ?_
                            refine R.mvE rfl (by conv => lhs; whnf) ?_
                            refine R.addI rfl rfl rfl (by omega) ?_
                            refine R.asE rfl (by conv => lhs; whnf) ?_
                            refine TL.nil (Post.thnN ?_)
                            -- round's end, way ny010yy010y
                            exact ⟨(i + 1, j + 1, cur.set i y2, c51), s_2, ⟨⟨by omega, by show k + (j + 1) ≤ _; omega, by show i + 1 + 1 ≤ k + (j + 1); omega, by rw [List.length_set]; exact hcl⟩, rfl, rfl, by rw [List.length_set]; exact w51, by rw [set_take (by omega), htk, hkj, compact_take hz2 hy2', if_neg c44, hkj1], fun q hq => by rw [List.getElem?_set_ne (by omega)]; exact hrest q (by omega)⟩, by show xs.length - (k + (j + 1)) < xs.length - (k + j); omega, ⟨rfl, rfl, rfl, rfl, trivial⟩⟩
                          · refine T.skip (Post.blkN ?_)
                            refine id (Post.thnN ?_)
                            refine T.region ?_
                            refine R.mvE rfl (by conv => lhs; whnf) ?_
                            refine R.addI rfl rfl rfl (by omega) ?_
                            refine R.asE rfl (by conv => lhs; whnf) ?_
                            refine TL.nil (Post.thnN ?_)
                            -- round's end, way ny010yy010n
                            exact ⟨(i, j + 1, cur, [(b3, .cells cs3 45)]), s_2, ⟨⟨by omega, by show k + (j + 1) ≤ _; omega, by show i + 1 ≤ k + (j + 1); omega, hcl⟩, rfl, rfl, hw, by rw [htk, hkj, compact_take hz2 hy2', if_pos (Decidable.of_not_not c44), hkj1], hrest⟩, by show xs.length - (k + (j + 1)) < xs.length - (k + j); omega, ⟨rfl, rfl, rfl, rfl, trivial⟩⟩
                        · refine R.ldAt Tryz.isAgg45 Tryz.sizeOf45 rfl rfl .hd rfl hcs4 ?_
                          refine TL.nil (Plan.e1 (HLe.refl _) ?_)
                          refine Plan.s1 3 [9] (by kernel_rfl) (by kernel_rfl) rfl ?_
                          refine R.ldAt Tryz.isAgg45 Tryz.sizeOf45 rfl rfl .hd rfl hcs3 ?_
                          refine TL.nil (Plan.e1 (HLe.refl _) ?_)
                          refine Plan.v 9 [] (by kernel_rfl) (by kernel_rfl) (by kernel_rfl) (by kernel_rfl) rfl (fun _ _ h_ => R.neP (a := y2) (b := z2) Tryzc_eqP Tryzc_eqG rfl rfl rfl (TL.nil h_)) ?_
                          refine Plan.done (Post.thnN ?_)
                          refine T.condD rfl (fun c44 => ?_) (fun c44 => ?_)
                          · refine T.seq ?_
                            refine T.region ?_
                            refine R.mvE rfl (by conv => lhs; whnf) ?_
                            refine R.mvE rfl (by conv => lhs; whnf) ?_
                            refine R.mvE rfl (by conv => lhs; whnf) ?_
                            refine R.mvE rfl (by conv => lhs; whnf) ?_
                            refine R.ixp Tryz.underlying22 Tryz.sizeOf45 rfl rfl rfl (by omega) ix3' ?_
                            refine R.ldAt Tryz.isAgg45 Tryz.sizeOf45 rfl rfl .hd rfl hcs3 ?_
                            refine R.ixp Tryz.underlying22 Tryz.sizeOf45 rfl rfl rfl (by omega) (by rw [← hcl]; exact ix5) ?_
                            refine R.stEA (y := y2) (l := [.int .i64 y2.1, .int .i64 y2.2]) Tryz.sizeOf45 rfl hw .hd ix5 rfl rfl rfl ?_
                            intro c51 w51
                            refine TL.nil (Post.thnN ?_)
                            refine T.region ?_
                            refine R.mvE rfl (by conv => lhs; whnf) ?_
                            refine R.addI rfl rfl rfl (by omega) ?_
                            refine R.asE rfl (by conv => lhs; whnf) ?_
                            refine TL.nil (Post.blkN ?_)
                            refine id (Post.thnN ?_)
                            refine T.region ?_
                            refine R.mvE rfl (by conv => lhs; whnf) ?_
                            refine R.addI rfl rfl rfl (by omega) ?_
                            refine R.asE rfl (by conv => lhs; whnf) ?_
                            refine TL.nil (Post.thnN ?_)
                            -- round's end, way ny010yy011y
                            exact ⟨(i + 1, j + 1, cur.set i y2, c51), s_2, ⟨⟨by omega, by show k + (j + 1) ≤ _; omega, by show i + 1 + 1 ≤ k + (j + 1); omega, by rw [List.length_set]; exact hcl⟩, rfl, rfl, by rw [List.length_set]; exact w51, by rw [set_take (by omega), htk, hkj, compact_take hz2 hy2', if_neg c44, hkj1], fun q hq => by rw [List.getElem?_set_ne (by omega)]; exact hrest q (by omega)⟩, by show xs.length - (k + (j + 1)) < xs.length - (k + j); omega, ⟨rfl, rfl, rfl, rfl, trivial⟩⟩
                          · refine T.skip (Post.blkN ?_)
                            refine id (Post.thnN ?_)
                            refine T.region ?_
                            refine R.mvE rfl (by conv => lhs; whnf) ?_
                            refine R.addI rfl rfl rfl (by omega) ?_
                            refine R.asE rfl (by conv => lhs; whnf) ?_
                            refine TL.nil (Post.thnN ?_)
                            -- round's end, way ny010yy011n
                            exact ⟨(i, j + 1, cur, [(b3, .cells cs3 45)]), s_2, ⟨⟨by omega, by show k + (j + 1) ≤ _; omega, by show i + 1 ≤ k + (j + 1); omega, hcl⟩, rfl, rfl, hw, by rw [htk, hkj, compact_take hz2 hy2', if_pos (Decidable.of_not_not c44), hkj1], hrest⟩, by show xs.length - (k + (j + 1)) < xs.length - (k + j); omega, ⟨rfl, rfl, rfl, rfl, trivial⟩⟩
                    · refine R.ixp Tryz.underlying22 Tryz.sizeOf45 rfl rfl rfl (by omega) ix4' ?_
                      refine TL.nil (Plan.e1 (HLe.refl _) ?_)
                      refine Plan.s2 2 8 [3, 8, 9] [2, 3, 9] (by kernel_rfl) (by kernel_rfl) (by kernel_rfl) rfl rfl ?_ ?_
                      · refine R.ixp Tryz.underlying22 Tryz.sizeOf45 rfl rfl rfl (by omega) ix3' ?_
                        refine TL.nil (Plan.e1 (HLe.refl _) ?_)
                        refine Plan.s2 3 8 [8, 9] [3, 9] (by kernel_rfl) (by kernel_rfl) (by kernel_rfl) rfl rfl ?_ ?_
                        · refine R.ldAt Tryz.isAgg45 Tryz.sizeOf45 rfl rfl .hd rfl hcs3 ?_
                          refine TL.nil (Plan.e1 (HLe.refl _) ?_)
                          refine Plan.s1 8 [9] (by kernel_rfl) (by kernel_rfl) rfl ?_
                          refine R.ldAt Tryz.isAgg45 Tryz.sizeOf45 rfl rfl .hd rfl hcs4 ?_
                          refine TL.nil (Plan.e1 (HLe.refl _) ?_)
                          refine Plan.v 9 [] (by kernel_rfl) (by kernel_rfl) (by kernel_rfl) (by kernel_rfl) rfl (fun _ _ h_ => R.neP (a := y2) (b := z2) Tryzc_eqP Tryzc_eqG rfl rfl rfl (TL.nil h_)) ?_
                          refine Plan.done (Post.thnN ?_)
                          refine T.condD rfl (fun c44 => ?_) (fun c44 => ?_)
                          · refine T.seq ?_
                            refine T.region ?_
                            refine R.mvE rfl (by conv => lhs; whnf) ?_
                            refine R.mvE rfl (by conv => lhs; whnf) ?_
                            refine R.mvE rfl (by conv => lhs; whnf) ?_
                            refine R.mvE rfl (by conv => lhs; whnf) ?_
                            refine R.ixp Tryz.underlying22 Tryz.sizeOf45 rfl rfl rfl (by omega) ix3' ?_
                            refine R.ldAt Tryz.isAgg45 Tryz.sizeOf45 rfl rfl .hd rfl hcs3 ?_
                            refine R.ixp Tryz.underlying22 Tryz.sizeOf45 rfl rfl rfl (by omega) (by rw [← hcl]; exact ix5) ?_
                            refine R.stEA (y := y2) (l := [.int .i64 y2.1, .int .i64 y2.2]) Tryz.sizeOf45 rfl hw .hd ix5 rfl rfl rfl ?_
                            intro c51 w51
                            refine TL.nil (Post.thnN ?_)
                            refine T.region ?_
                            refine R.mvE rfl (by conv => lhs; whnf) ?_
                            refine R.addI rfl rfl rfl (by omega) ?_
                            refine R.asE rfl (by conv => lhs; whnf) ?_
                            refine TL.nil (Post.blkN ?_)
                            refine id (Post.thnN ?_)
                            refine T.region ?_
                            refine R.mvE rfl (by conv => lhs; whnf) ?_
                            refine R.addI rfl rfl rfl (by omega) ?_
                            refine R.asE rfl (by conv => lhs; whnf) ?_
                            refine TL.nil (Post.thnN ?_)
                            -- round's end, way ny010yy100y
                            exact ⟨(i + 1, j + 1, cur.set i y2, c51), s_2, ⟨⟨by omega, by show k + (j + 1) ≤ _; omega, by show i + 1 + 1 ≤ k + (j + 1); omega, by rw [List.length_set]; exact hcl⟩, rfl, rfl, by rw [List.length_set]; exact w51, by rw [set_take (by omega), htk, hkj, compact_take hz2 hy2', if_neg c44, hkj1], fun q hq => by rw [List.getElem?_set_ne (by omega)]; exact hrest q (by omega)⟩, by show xs.length - (k + (j + 1)) < xs.length - (k + j); omega, ⟨rfl, rfl, rfl, rfl, trivial⟩⟩
                          · refine T.skip (Post.blkN ?_)
                            refine id (Post.thnN ?_)
                            refine T.region ?_
                            refine R.mvE rfl (by conv => lhs; whnf) ?_
                            refine R.addI rfl rfl rfl (by omega) ?_
                            refine R.asE rfl (by conv => lhs; whnf) ?_
                            refine TL.nil (Post.thnN ?_)
                            -- round's end, way ny010yy100n
                            exact ⟨(i, j + 1, cur, [(b3, .cells cs3 45)]), s_2, ⟨⟨by omega, by show k + (j + 1) ≤ _; omega, by show i + 1 ≤ k + (j + 1); omega, hcl⟩, rfl, rfl, hw, by rw [htk, hkj, compact_take hz2 hy2', if_pos (Decidable.of_not_not c44), hkj1], hrest⟩, by show xs.length - (k + (j + 1)) < xs.length - (k + j); omega, ⟨rfl, rfl, rfl, rfl, trivial⟩⟩
                        · refine R.ldAt Tryz.isAgg45 Tryz.sizeOf45 rfl rfl .hd rfl hcs4 ?_
                          refine TL.nil (Plan.e1 (HLe.refl _) ?_)
                          refine Plan.s1 3 [9] (by kernel_rfl) (by kernel_rfl) rfl ?_
                          refine R.ldAt Tryz.isAgg45 Tryz.sizeOf45 rfl rfl .hd rfl hcs3 ?_
                          refine TL.nil (Plan.e1 (HLe.refl _) ?_)
                          refine Plan.v 9 [] (by kernel_rfl) (by kernel_rfl) (by kernel_rfl) (by kernel_rfl) rfl (fun _ _ h_ => R.neP (a := y2) (b := z2) Tryzc_eqP Tryzc_eqG rfl rfl rfl (TL.nil h_)) ?_
                          refine Plan.done (Post.thnN ?_)
                          refine T.condD rfl (fun c44 => ?_) (fun c44 => ?_)
                          · refine T.seq ?_
                            refine T.region ?_
                            refine R.mvE rfl (by conv => lhs; whnf) ?_
                            refine R.mvE rfl (by conv => lhs; whnf) ?_
                            refine R.mvE rfl (by conv => lhs; whnf) ?_
                            refine R.mvE rfl (by conv => lhs; whnf) ?_
                            refine R.ixp Tryz.underlying22 Tryz.sizeOf45 rfl rfl rfl (by omega) ix3' ?_
                            refine R.ldAt Tryz.isAgg45 Tryz.sizeOf45 rfl rfl .hd rfl hcs3 ?_
                            refine R.ixp Tryz.underlying22 Tryz.sizeOf45 rfl rfl rfl (by omega) (by rw [← hcl]; exact ix5) ?_
                            refine R.stEA (y := y2) (l := [.int .i64 y2.1, .int .i64 y2.2]) Tryz.sizeOf45 rfl hw .hd ix5 rfl rfl rfl ?_
                            intro c51 w51
                            refine TL.nil (Post.thnN ?_)
                            refine T.region ?_
                            refine R.mvE rfl (by conv => lhs; whnf) ?_
                            refine R.addI rfl rfl rfl (by omega) ?_
                            refine R.asE rfl (by conv => lhs; whnf) ?_
                            refine TL.nil (Post.blkN ?_)
                            refine id (Post.thnN ?_)
                            refine T.region ?_
                            refine R.mvE rfl (by conv => lhs; whnf) ?_
                            refine R.addI rfl rfl rfl (by omega) ?_
                            refine R.asE rfl (by conv => lhs; whnf) ?_
                            refine TL.nil (Post.thnN ?_)
                            -- round's end, way ny010yy101y
                            exact ⟨(i + 1, j + 1, cur.set i y2, c51), s_2, ⟨⟨by omega, by show k + (j + 1) ≤ _; omega, by show i + 1 + 1 ≤ k + (j + 1); omega, by rw [List.length_set]; exact hcl⟩, rfl, rfl, by rw [List.length_set]; exact w51, by rw [set_take (by omega), htk, hkj, compact_take hz2 hy2', if_neg c44, hkj1], fun q hq => by rw [List.getElem?_set_ne (by omega)]; exact hrest q (by omega)⟩, by show xs.length - (k + (j + 1)) < xs.length - (k + j); omega, ⟨rfl, rfl, rfl, rfl, trivial⟩⟩
                          · refine T.skip (Post.blkN ?_)
                            refine id (Post.thnN ?_)
                            refine T.region ?_
                            refine R.mvE rfl (by conv => lhs; whnf) ?_
                            refine R.addI rfl rfl rfl (by omega) ?_
                            refine R.asE rfl (by conv => lhs; whnf) ?_
                            refine TL.nil (Post.thnN ?_)
                            -- round's end, way ny010yy101n
                            exact ⟨(i, j + 1, cur, [(b3, .cells cs3 45)]), s_2, ⟨⟨by omega, by show k + (j + 1) ≤ _; omega, by show i + 1 ≤ k + (j + 1); omega, hcl⟩, rfl, rfl, hw, by rw [htk, hkj, compact_take hz2 hy2', if_pos (Decidable.of_not_not c44), hkj1], hrest⟩, by show xs.length - (k + (j + 1)) < xs.length - (k + j); omega, ⟨rfl, rfl, rfl, rfl, trivial⟩⟩
                      · refine R.ldAt Tryz.isAgg45 Tryz.sizeOf45 rfl rfl .hd rfl hcs4 ?_
                        refine TL.nil (Plan.e1 (HLe.refl _) ?_)
                        refine Plan.s1 2 [3, 9] (by kernel_rfl) (by kernel_rfl) rfl ?_
                        refine R.ixp Tryz.underlying22 Tryz.sizeOf45 rfl rfl rfl (by omega) ix3' ?_
                        refine TL.nil (Plan.e1 (HLe.refl _) ?_)
                        refine Plan.s1 3 [9] (by kernel_rfl) (by kernel_rfl) rfl ?_
                        refine R.ldAt Tryz.isAgg45 Tryz.sizeOf45 rfl rfl .hd rfl hcs3 ?_
                        refine TL.nil (Plan.e1 (HLe.refl _) ?_)
                        refine Plan.v 9 [] (by kernel_rfl) (by kernel_rfl) (by kernel_rfl) (by kernel_rfl) rfl (fun _ _ h_ => R.neP (a := y2) (b := z2) Tryzc_eqP Tryzc_eqG rfl rfl rfl (TL.nil h_)) ?_
                        refine Plan.done (Post.thnN ?_)
                        refine T.condD rfl (fun c44 => ?_) (fun c44 => ?_)
                        · refine T.seq ?_
                          refine T.region ?_
                          refine R.mvE rfl (by conv => lhs; whnf) ?_
                          refine R.mvE rfl (by conv => lhs; whnf) ?_
                          refine R.mvE rfl (by conv => lhs; whnf) ?_
                          refine R.mvE rfl (by conv => lhs; whnf) ?_
                          refine R.ixp Tryz.underlying22 Tryz.sizeOf45 rfl rfl rfl (by omega) ix3' ?_
                          refine R.ldAt Tryz.isAgg45 Tryz.sizeOf45 rfl rfl .hd rfl hcs3 ?_
                          refine R.ixp Tryz.underlying22 Tryz.sizeOf45 rfl rfl rfl (by omega) (by rw [← hcl]; exact ix5) ?_
                          refine R.stEA (y := y2) (l := [.int .i64 y2.1, .int .i64 y2.2]) Tryz.sizeOf45 rfl hw .hd ix5 rfl rfl rfl ?_
                          intro c51 w51
                          refine TL.nil (Post.thnN ?_)
                          refine T.region ?_
                          refine R.mvE rfl (by conv => lhs; whnf) ?_
                          refine R.addI rfl rfl rfl (by omega) ?_
                          refine R.asE rfl (by conv => lhs; whnf) ?_
                          refine TL.nil (Post.blkN ?_)
                          refine id (Post.thnN ?_)
                          refine T.region ?_
                          refine R.mvE rfl (by conv => lhs; whnf) ?_
                          refine R.addI rfl rfl rfl (by omega) ?_
                          refine R.asE rfl (by conv => lhs; whnf) ?_
                          refine TL.nil (Post.thnN ?_)
                          -- round's end, way ny010yy11y
                          exact ⟨(i + 1, j + 1, cur.set i y2, c51), s_2, ⟨⟨by omega, by show k + (j + 1) ≤ _; omega, by show i + 1 + 1 ≤ k + (j + 1); omega, by rw [List.length_set]; exact hcl⟩, rfl, rfl, by rw [List.length_set]; exact w51, by rw [set_take (by omega), htk, hkj, compact_take hz2 hy2', if_neg c44, hkj1], fun q hq => by rw [List.getElem?_set_ne (by omega)]; exact hrest q (by omega)⟩, by show xs.length - (k + (j + 1)) < xs.length - (k + j); omega, ⟨rfl, rfl, rfl, rfl, trivial⟩⟩
                        · refine T.skip (Post.blkN ?_)
                          refine id (Post.thnN ?_)
                          refine T.region ?_
                          refine R.mvE rfl (by conv => lhs; whnf) ?_
                          refine R.addI rfl rfl rfl (by omega) ?_
                          refine R.asE rfl (by conv => lhs; whnf) ?_
                          refine TL.nil (Post.thnN ?_)
                          -- round's end, way ny010yy11n
                          exact ⟨(i, j + 1, cur, [(b3, .cells cs3 45)]), s_2, ⟨⟨by omega, by show k + (j + 1) ≤ _; omega, by show i + 1 ≤ k + (j + 1); omega, hcl⟩, rfl, rfl, hw, by rw [htk, hkj, compact_take hz2 hy2', if_pos (Decidable.of_not_not c44), hkj1], hrest⟩, by show xs.length - (k + (j + 1)) < xs.length - (k + j); omega, ⟨rfl, rfl, rfl, rfl, trivial⟩⟩
                  · have hje : k + j = xs.length := by omega
                    rw [hje, List.take_length] at htk
                    have hil : (cur.take i).length = i := by simp; omega
                    refine T.exit (Post.thnE (Post.thnE (Post.blkX ?_)))
                    refine id (Post.thnN ?_)
                    refine T.seq ?_
                    refine T.region ?_
                    refine R.mvE rfl (by conv => lhs; whnf) ?_
                    refine R.mvE rfl (by conv => lhs; whnf) ?_
                    refine R.sL Tryz.underlying22 Tryz.sizeOf45 rfl rfl rfl (by omega) (by omega) ?_
                    refine R.clr (dd := none) (xs := cur.take i) Tryz_ty22 (zone_of (z := .agg #[.int .i64 0, .int .i64 0]) (by kernel_rfl) (by intro v hv; simp [Value.cells] at hv; rcases hv with rfl | rfl <;> rfl)) rfl (fun q h => by cases h) (m := xs.length) (by rw [hil]; rfl) (by rw [hil]; exact own_take0 hw (by omega)) .hd (by omega) (by omega) ?_
                    intro c57 w57
                    refine TL.nil (Post.thnN ?_)
                    refine T.seq ?_
                    refine T.region ?_
                    refine R.mvE rfl (by conv => lhs; whnf) ?_
                    refine R.mvE rfl (by conv => lhs; whnf) ?_
                    refine R.sH Tryz.underlying22 Tryz.sizeOf45 rfl rfl rfl (by omega) (by omega) ?_
                    refine R.asE rfl (by conv => lhs; whnf) ?_
                    refine TL.nil (Post.thnN ?_)
                    refine T.ret (Post.blkR (Post.thnR (Post.thnR (Post.blkR (Post.thnR ?_)))))
                    -- way ny010yn
                    refine fin1L [c57] rfl rfl (List.Sublist.refl _) ⟨_, rfl, ?_⟩
                    show OwnS pairE 45 _ (slcV (.slice A xs.length cap) 0 i cap 2) (compactL xs) c57
                    rw [slc_take0, ← htk]
                    rw [hil] at w57
                    exact w57
              · refine T.skip (Post.blkN ?_)
                refine id (Post.thnN ?_)
                refine T.region ?_
                refine R.mvE rfl (by conv => lhs; whnf) ?_
                refine R.addI rfl rfl rfl (by omega) ?_
                refine R.asE rfl (by conv => lhs; whnf) ?_
                refine TL.nil (Post.thnN ?_)
                -- round's end, way ny010n
                exact ⟨k + 1, s_0, ⟨⟨by omega, by omega⟩, rfl, rfl, by rw [show k + 1 = (k - 1) + 2 by omega, compact_take hz hy1, if_neg c25, show k - 1 + 1 = k by omega, hco, show k - 1 + 2 = k + 1 by omega, take_snoc _ _ _ hy]⟩, by omega, ⟨rfl, rfl, trivial⟩⟩
            · refine R.ldAt Tryz.isAgg45 Tryz.sizeOf45 rfl rfl .hd rfl hcs2 ?_
              refine TL.nil (Plan.e1 (HLe.refl _) ?_)
              refine Plan.s1 3 [9] (by kernel_rfl) (by kernel_rfl) rfl ?_
              refine R.ldAt Tryz.isAgg45 Tryz.sizeOf45 rfl rfl .hd rfl hcs1 ?_
              refine TL.nil (Plan.e1 (HLe.refl _) ?_)
              refine Plan.v 9 [] (by kernel_rfl) (by kernel_rfl) (by kernel_rfl) (by kernel_rfl) rfl (fun _ _ h_ => R.eqP (a := y) (b := z) Tryzc_eqP Tryzc_eqG rfl rfl rfl (TL.nil h_)) ?_
              refine Plan.done (Post.thnN ?_)
              refine T.condD rfl (fun c25 => ?_) (fun c25 => ?_)
              · refine T.seq ?_
                refine T.region ?_
                refine R.mvE rfl (by conv => lhs; whnf) ?_
                refine R.mvE rfl (by conv => lhs; whnf) ?_
                refine R.sL Tryz.underlying22 Tryz.sizeOf45 rfl rfl rfl (by omega) (by omega) ?_
                refine R.asE rfl (by conv => lhs; whnf) ?_
                refine TL.nil (Post.thnN ?_)
                refine T.seq ?_
                refine T.seq ?_
                refine T.region ?_
                refine R.asE rfl (by conv => lhs; whnf) ?_
                refine TL.nil (Post.thnN ?_)
                refine T.block ?_
                refine T.loop (ι := Nat × Nat × List Lk × Chunk) (fun ⟨i, j, cur, ch2⟩ H' L' ds' => (1 ≤ j ∧ k + j ≤ xs.length ∧ i + 1 ≤ k + j ∧ cur.length = xs.length) ∧ L' = [ch2] ∧ ds' = [] ∧ OwnS pairE 45 H' (.slice A cur.length cap) cur ch2 ∧ cur.take i = compactL (xs.take (k + j)) ∧ (∀ q, i ≤ q → cur[q]? = xs[q]?)) (fun ⟨i, j, cur, ch2⟩ => [(0, .slice A xs.length cap), (3, .int .i64 i), (4, slcV (.slice A xs.length cap) k xs.length cap 2), (5, .int .i64 j)]) (fun ⟨i, j, cur, ch2⟩ => xs.length - (k + j)) ((k, 1, xs, [(b1, .cells cs1 45)])) ?_ ?_ ?_
                · exact ⟨⟨by omega, by omega, by omega, rfl⟩, rfl, rfl, ho, by rw [hk2, compact_take hz hy1, if_pos c25, show k - 1 + 1 = k by omega, hco], fun q hq => rfl⟩
                · exact ⟨rfl, rfl, rfl, rfl, trivial⟩
                · intro ⟨i, j, cur, ch2⟩ σ3 H_3 L_3 ds_3 s_3 hI_3
                  obtain ⟨⟨hj1, hj2, hij, hcl⟩, rfl, rfl, hw, htk, hrest⟩ := hI_3
                  refine T.seq ?_
                  refine T.seq ?_
                  refine T.region ?_
                  refine R.mvE rfl (by conv => lhs; whnf) ?_
                  refine R.mvE rfl (by conv => lhs; whnf) ?_
                  refine R.len Tryz.underlying22 rfl rfl ?_
                  refine R.lss rfl rfl rfl ?_
                  refine TL.nil (Post.thnN ?_)
                  refine T.condD rfl (fun c32 => ?_) (fun c32 => ?_)
                  · have hlt2 : k + j < xs.length := by omega
                    obtain ⟨y2, hy2⟩ := getk hlt2
                    obtain ⟨z2, hz2⟩ := getk (xs := xs) (k := k + j - 1) (by omega)
                    have hkj : k + (j + 1) = (k + j - 1) + 2 := by omega
                    have hkj1 : k + j - 1 + 1 = k + j := by omega
                    have hy2' : xs[k + j - 1 + 1]? = some y2 := by rw [hkj1]; exact hy2
                    have hcy : cur[k + j]? = some y2 := by rw [hrest _ (by omega)]; exact hy2
                    have hcz : cur[k + ((j : Int) - 1).toNat]? = some z2 := by rw [show k + ((j : Int) - 1).toNat = k + j - 1 by omega, hrest _ (by omega)]; exact hz2
                    obtain ⟨yi, hci⟩ := getk (xs := cur) (k := i) (by omega)
                    obtain ⟨b3, k3, cs3, l3, hce3, hve3, ix3, hR3, hcs3⟩ := hw.elem hcy
                    obtain rfl : l3 = [.int .i64 y2.1, .int .i64 y2.2] := hR3
                    obtain ⟨b4, k4, cs4, l4, hce4, hve4, ix4, hR4, hcs4⟩ := hw.elem hcz
                    obtain rfl : l4 = [.int .i64 z2.1, .int .i64 z2.2] := hR4
                    obtain ⟨b5, k5, cs5, l5, hce5, hve5, ix5, hR5, hcs5⟩ := hw.elem hci
                    subst hce3
                    obtain ⟨rfl, rfl⟩ : b3 = b4 ∧ cs3 = cs4 := by simpa using hce4
                    obtain ⟨rfl, rfl⟩ : b3 = b5 ∧ cs3 = cs5 := by simpa using hce5
                    obtain rfl : cap = k3 := by injection hve3
                    rw [hcl] at hve3
                    have ix3' := ix_off (sz := 2) (k := k) (i := j) hve3 (by omega) (by omega) (by omega)
                    have ix4' := ix_off (sz := 2) (k := k) (i := ((j : Int) - 1).toNat) hve3 (by omega) (by omega) (by omega)
                    refine T.skip (Post.thnN ?_)
                    refine T.seq ?_
                    refine T.block ?_
                    refine T.seq ?_
                    refine T.draw Tryz_mixed (by kernel_rfl) ?_
                    refine Plan.v 0 [1, 2, 3, 4, 5, 6, 7, 8, 9] (by kernel_rfl) (by kernel_rfl) (by kernel_rfl) (by kernel_rfl) rfl (fun _ _ h_ => R.mvE rfl (by conv => lhs; whnf) (TL.nil h_)) ?_
                    refine Plan.v 1 [2, 3, 4, 5, 6, 7, 8, 9] (by kernel_rfl) (by kernel_rfl) (by kernel_rfl) (by kernel_rfl) rfl (fun _ _ h_ => R.mvE rfl (by conv => lhs; whnf) (TL.nil h_)) ?_
                    refine Plan.v 4 [2, 3, 5, 6, 7, 8, 9] (by kernel_rfl) (by kernel_rfl) (by kernel_rfl) (by kernel_rfl) rfl (fun _ _ h_ => R.mvE rfl (by conv => lhs; whnf) (TL.nil h_)) ?_
                    refine Plan.v 5 [2, 3, 6, 7, 8, 9] (by kernel_rfl) (by kernel_rfl) (by kernel_rfl) (by kernel_rfl) rfl (fun _ _ h_ => R.mvE rfl (by conv => lhs; whnf) (TL.nil h_)) ?_
                    refine Plan.v 6 [2, 3, 7, 8, 9] (by kernel_rfl) (by kernel_rfl) (by kernel_rfl) (by kernel_rfl) rfl (fun _ _ h_ => R.subI rfl rfl rfl (by omega) (TL.nil h_)) ?_
                    refine Plan.s2 2 7 [3, 7, 8, 9] [2, 3, 8, 9] (by kernel_rfl) (by kernel_rfl) (by kernel_rfl) rfl rfl ?_ ?_
                    · refine R.ixp Tryz.underlying22 Tryz.sizeOf45 rfl rfl rfl (by omega) ix3' ?_
                      refine TL.nil (Plan.e1 (HLe.refl _) ?_)
                      refine Plan.s2 3 7 [7, 8, 9] [3, 8, 9] (by kernel_rfl) (by kernel_rfl) (by kernel_rfl) rfl rfl ?_ ?_
                      · refine R.ldAt Tryz.isAgg45 Tryz.sizeOf45 rfl rfl .hd rfl hcs3 ?_
                        refine TL.nil (Plan.e1 (HLe.refl _) ?_)
                        refine Plan.s1 7 [8, 9] (by kernel_rfl) (by kernel_rfl) rfl ?_
                        refine R.ixp Tryz.underlying22 Tryz.sizeOf45 rfl rfl rfl (by omega) ix4' ?_
                        refine TL.nil (Plan.e1 (HLe.refl _) ?_)
                        refine Plan.s1 8 [9] (by kernel_rfl) (by kernel_rfl) rfl ?_
                        refine R.ldAt Tryz.isAgg45 Tryz.sizeOf45 rfl rfl .hd rfl hcs4 ?_
                        refine TL.nil (Plan.e1 (HLe.refl _) ?_)
                        refine Plan.v 9 [] (by kernel_rfl) (by kernel_rfl) (by kernel_rfl) (by kernel_rfl) rfl (fun _ _ h_ => R.neP (a := y2) (b := z2) Tryzc_eqP Tryzc_eqG rfl rfl rfl (TL.nil h_)) ?_
                        refine Plan.done (Post.thnN ?_)
                        refine T.condD rfl (fun c44 => ?_) (fun c44 => ?_)
                        · refine T.seq ?_
                          refine T.region ?_
                          refine R.mvE rfl (by conv => lhs; whnf) ?_
                          refine R.mvE rfl (by conv => lhs; whnf) ?_
                          refine R.mvE rfl (by conv => lhs; whnf) ?_
                          refine R.mvE rfl (by conv => lhs; whnf) ?_
                          refine R.ixp Tryz.underlying22 Tryz.sizeOf45 rfl rfl rfl (by omega) ix3' ?_
                          refine R.ldAt Tryz.isAgg45 Tryz.sizeOf45 rfl rfl .hd rfl hcs3 ?_
                          refine R.ixp Tryz.underlying22 Tryz.sizeOf45 rfl rfl rfl (by omega) (by rw [← hcl]; exact ix5) ?_
                          refine R.stEA (y := y2) (l := [.int .i64 y2.1, .int .i64 y2.2]) Tryz.sizeOf45 rfl hw .hd ix5 rfl rfl rfl ?_
                          intro c51 w51
                          refine TL.nil (Post.thnN ?_)
                          refine T.region ?_
                          refine R.mvE rfl (by conv => lhs; whnf) ?_
                          refine R.addI rfl rfl rfl (by omega) ?_
                          refine R.asE rfl (by conv => lhs; whnf) ?_
                          refine TL.nil (Post.blkN ?_)
                          refine id (Post.thnN ?_)
                          refine T.region ?_
                          refine R.mvE rfl (by conv => lhs; whnf) ?_
                          refine R.addI rfl rfl rfl (by omega) ?_
                          refine R.asE rfl (by conv => lhs; whnf) ?_
                          refine TL.nil (Post.thnN ?_)
                          -- round's end, way ny011yy00y
                          exact ⟨(i + 1, j + 1, cur.set i y2, c51), s_3, ⟨⟨by omega, by show k + (j + 1) ≤ _; omega, by show i + 1 + 1 ≤ k + (j + 1); omega, by rw [List.length_set]; exact hcl⟩, rfl, rfl, by rw [List.length_set]; exact w51, by rw [set_take (by omega), htk, hkj, compact_take hz2 hy2', if_neg c44, hkj1], fun q hq => by rw [List.getElem?_set_ne (by omega)]; exact hrest q (by omega)⟩, by show xs.length - (k + (j + 1)) < xs.length - (k + j); omega, ⟨rfl, rfl, rfl, rfl, trivial⟩⟩
                        · refine T.skip (Post.blkN ?_)
                          refine id (Post.thnN ?_)
                          refine T.region ?_
                          refine R.mvE rfl (by conv => lhs; whnf) ?_
                          refine R.addI rfl rfl rfl (by omega) ?_
                          refine R.asE rfl (by conv => lhs; whnf) ?_
                          refine TL.nil (Post.thnN ?_)
                          -- round's end, way ny011yy00n
                          exact ⟨(i, j + 1, cur, [(b3, .cells cs3 45)]), s_3, ⟨⟨by omega, by show k + (j + 1) ≤ _; omega, by show i + 1 ≤ k + (j + 1); omega, hcl⟩, rfl, rfl, hw, by rw [htk, hkj, compact_take hz2 hy2', if_pos (Decidable.of_not_not c44), hkj1], hrest⟩, by show xs.length - (k + (j + 1)) < xs.length - (k + j); omega, ⟨rfl, rfl, rfl, rfl, trivial⟩⟩
                      · refine R.ixp Tryz.underlying22 Tryz.sizeOf45 rfl rfl rfl (by omega) ix4' ?_
                        refine TL.nil (Plan.e1 (HLe.refl _) ?_)
                        refine Plan.s2 3 8 [8, 9] [3, 9] (by kernel_rfl) (by kernel_rfl) (by kernel_rfl) rfl rfl ?_ ?_
                        · refine R.ldAt Tryz.isAgg45 Tryz.sizeOf45 rfl rfl .hd rfl hcs3 ?_
                          refine TL.nil (Plan.e1 (HLe.refl _) ?_)
                          refine Plan.s1 8 [9] (by kernel_rfl) (by kernel_rfl) rfl ?_
                          refine R.ldAt Tryz.isAgg45 Tryz.sizeOf45 rfl rfl .hd rfl hcs4 ?_
                          refine TL.nil (Plan.e1 (HLe.refl _) ?_)
                          refine Plan.v 9 [] (by kernel_rfl) (by kernel_rfl) (by kernel_rfl) (by kernel_rfl) rfl (fun _ _ h_ => R.neP (a := y2) (b := z2) Tryzc_eqP Tryzc_eqG rfl rfl rfl (TL.nil h_)) ?_
                          refine Plan.done (Post.thnN ?_)
                          refine T.condD rfl (fun c44 => ?_) (fun c44 => ?_)
                          · refine T.seq ?_
                            refine T.region ?_
                            refine R.mvE rfl (by conv => lhs; whnf) ?_
                            refine R.mvE rfl (by conv => lhs; whnf) ?_
                            refine R.mvE rfl (by conv => lhs; whnf) ?_
                            refine R.mvE rfl (by conv => lhs; whnf) ?_
                            refine R.ixp Tryz.underlying22 Tryz.sizeOf45 rfl rfl rfl (by omega) ix3' ?_
                            refine R.ldAt Tryz.isAgg45 Tryz.sizeOf45 rfl rfl .hd rfl hcs3 ?_
                            refine R.ixp Tryz.underlying22 Tryz.sizeOf45 rfl rfl rfl (by omega) (by rw [← hcl]; exact ix5) ?_
                            refine R.stEA (y := y2) (l := [.int .i64 y2.1, .int .i64 y2.2]) Tryz.sizeOf45 rfl hw .hd ix5 rfl rfl rfl ?_
                            intro c51 w51
                            refine TL.nil (Post.thnN ?_)
                            refine T.region ?_
                            refine R.mvE rfl (by conv => lhs; whnf) ?_
                            refine R.addI rfl rfl rfl (by omega) ?_
                            refine R.asE rfl (by conv => lhs; whnf) ?_
                            refine TL.nil (Post.blkN ?_)
                            refine id (Post.thnN ?_)
                            refine T.region ?_
                            refine R.mvE rfl (by conv => lhs; whnf) ?_
                            refine R.addI rfl rfl rfl (by omega) ?_
                            refine R.asE rfl (by conv => lhs; whnf) ?_
                            refine TL.nil (Post.thnN ?_)
                            -- round's end, way ny011yy010y
                            exact ⟨(i + 1, j + 1, cur.set i y2, c51), s_3, ⟨⟨by omega, by show k + (j + 1) ≤ _; omega, by show i + 1 + 1 ≤ k + (j + 1); omega, by rw [List.length_set]; exact hcl⟩, rfl, rfl, by rw [List.length_set]; exact w51, by rw [set_take (by omega), htk, hkj, compact_take hz2 hy2', if_neg c44, hkj1], fun q hq => by rw [List.getElem?_set_ne (by omega)]; exact hrest q (by omega)⟩, by show xs.length - (k + (j + 1)) < xs.length - (k + j); omega, ⟨rfl, rfl, rfl, rfl, trivial⟩⟩
                          · refine T.skip (Post.blkN ?_)
                            refine id (Post.thnN ?_)
                            refine T.region ?_
                            refine R.mvE rfl (by conv => lhs; whnf) ?_
                            refine R.addI rfl rfl rfl (by omega) ?_
                            refine R.asE rfl (by conv => lhs; whnf) ?_
                            refine TL.nil (Post.thnN ?_)
                            -- round's end, way ny011yy010n
                            exact ⟨(i, j + 1, cur, [(b3, .cells cs3 45)]), s_3, ⟨⟨by omega, by show k + (j + 1) ≤ _; omega, by show i + 1 ≤ k + (j + 1); omega, hcl⟩, rfl, rfl, hw, by rw [htk, hkj, compact_take hz2 hy2', if_pos (Decidable.of_not_not c44), hkj1], hrest⟩, by show xs.length - (k + (j + 1)) < xs.length - (k + j); omega, ⟨rfl, rfl, rfl, rfl, trivial⟩⟩
                        · refine R.ldAt Tryz.isAgg45 Tryz.sizeOf45 rfl rfl .hd rfl hcs4 ?_
                          refine TL.nil (Plan.e1 (HLe.refl _) ?_)
                          refine Plan.s1 3 [9] (by kernel_rfl) (by kernel_rfl) rfl ?_
                          refine R.ldAt Tryz.isAgg45 Tryz.sizeOf45 rfl rfl .hd rfl hcs3 ?_
                          refine TL.nil (Plan.e1 (HLe.refl _) ?_)
                          refine Plan.v 9 [] (by kernel_rfl) (by kernel_rfl) (by kernel_rfl) (by kernel_rfl) rfl (fun _ _ h_ => R.neP (a := y2) (b := z2) Tryzc_eqP Tryzc_eqG rfl rfl rfl (TL.nil h_)) ?_
                          refine Plan.done (Post.thnN ?_)
                          refine T.condD rfl (fun c44 => ?_) (fun c44 => ?_)
                          · refine T.seq ?_
                            refine T.region ?_
                            refine R.mvE rfl (by conv => lhs; whnf) ?_
                            refine R.mvE rfl (by conv => lhs; whnf) ?_
                            refine R.mvE rfl (by conv => lhs; whnf) ?_
                            refine R.mvE rfl (by conv => lhs; whnf) ?_
                            refine R.ixp Tryz.underlying22 Tryz.sizeOf45 rfl rfl rfl (by omega) ix3' ?_
                            refine R.ldAt Tryz.isAgg45 Tryz.sizeOf45 rfl rfl .hd rfl hcs3 ?_
                            refine R.ixp Tryz.underlying22 Tryz.sizeOf45 rfl rfl rfl (by omega) (by rw [← hcl]; exact ix5) ?_
                            refine R.stEA (y := y2) (l := [.int .i64 y2.1, .int .i64 y2.2]) Tryz.sizeOf45 rfl hw .hd ix5 rfl rfl rfl ?_
                            intro c51 w51
                            refine TL.nil (Post.thnN ?_)
                            refine T.region ?_
                            refine R.mvE rfl (by conv => lhs; whnf) ?_
                            refine R.addI rfl rfl rfl (by omega) ?_
                            refine R.asE rfl (by conv => lhs; whnf) ?_
                            refine TL.nil (Post.blkN ?_)
                            refine id (Post.thnN ?_)
                            refine T.region ?_
                            refine R.mvE rfl (by conv => lhs; whnf) ?_
                            refine R.addI rfl rfl rfl (by omega) ?_
                            refine R.asE rfl (by conv => lhs; whnf) ?_
                            refine TL.nil (Post.thnN ?_)
                            -- round's end, way ny011yy011y
                            exact ⟨(i + 1, j + 1, cur.set i y2, c51), s_3, ⟨⟨by omega, by show k + (j + 1) ≤ _; omega, by show i + 1 + 1 ≤ k + (j + 1); omega, by rw [List.length_set]; exact hcl⟩, rfl, rfl, by rw [List.length_set]; exact w51, by rw [set_take (by omega), htk, hkj, compact_take hz2 hy2', if_neg c44, hkj1], fun q hq => by rw [List.getElem?_set_ne (by omega)]; exact hrest q (by omega)⟩, by show xs.length - (k + (j + 1)) < xs.length - (k + j); omega, ⟨rfl, rfl, rfl, rfl, trivial⟩⟩
                          · refine T.skip (Post.blkN ?_)
                            refine id (Post.thnN ?_)
                            refine T.region ?_
                            refine R.mvE rfl (by conv => lhs; whnf) ?_
                            refine R.addI rfl rfl rfl (by omega) ?_
                            refine R.asE rfl (by conv => lhs; whnf) ?_
                            refine TL.nil (Post.thnN ?_)
                            -- round's end, way ny011yy011n
                            exact ⟨(i, j + 1, cur, [(b3, .cells cs3 45)]), s_3, ⟨⟨by omega, by show k + (j + 1) ≤ _; omega, by show i + 1 ≤ k + (j + 1); omega, hcl⟩, rfl, rfl, hw, by rw [htk, hkj, compact_take hz2 hy2', if_pos (Decidable.of_not_not c44), hkj1], hrest⟩, by show xs.length - (k + (j + 1)) < xs.length - (k + j); omega, ⟨rfl, rfl, rfl, rfl, trivial⟩⟩
                    · refine R.ixp Tryz.underlying22 Tryz.sizeOf45 rfl rfl rfl (by omega) ix4' ?_
                      refine TL.nil (Plan.e1 (HLe.refl _) ?_)
                      refine Plan.s2 2 8 [3, 8, 9] [2, 3, 9] (by kernel_rfl) (by kernel_rfl) (by kernel_rfl) rfl rfl ?_ ?_
                      · refine R.ixp Tryz.underlying22 Tryz.sizeOf45 rfl rfl rfl (by omega) ix3' ?_
                        refine TL.nil (Plan.e1 (HLe.refl _) ?_)
                        refine Plan.s2 3 8 [8, 9] [3, 9] (by kernel_rfl) (by kernel_rfl) (by kernel_rfl) rfl rfl ?_ ?_
                        · refine R.ldAt Tryz.isAgg45 Tryz.sizeOf45 rfl rfl .hd rfl hcs3 ?_
                          refine TL.nil (Plan.e1 (HLe.refl _) ?_)
                          refine Plan.s1 8 [9] (by kernel_rfl) (by kernel_rfl) rfl ?_
                          refine R.ldAt Tryz.isAgg45 Tryz.sizeOf45 rfl rfl .hd rfl hcs4 ?_
                          refine TL.nil (Plan.e1 (HLe.refl _) ?_)
                          refine Plan.v 9 [] (by kernel_rfl) (by kernel_rfl) (by kernel_rfl) (by kernel_rfl) rfl (fun _ _ h_ => R.neP (a := y2) (b := z2) Tryzc_eqP Tryzc_eqG rfl rfl rfl (TL.nil h_)) ?_
                          refine Plan.done (Post.thnN ?_)
                          refine T.condD rfl (fun c44 => ?_) (fun c44 => ?_)
                          · refine T.seq ?_
                            refine T.region ?_
                            refine R.mvE rfl (by conv => lhs; whnf) ?_
                            refine R.mvE rfl (by conv => lhs; whnf) ?_
                            refine R.mvE rfl (by conv => lhs; whnf) ?_
                            refine R.mvE rfl (by conv => lhs; whnf) ?_
                            refine R.ixp Tryz.underlying22 Tryz.sizeOf45 rfl rfl rfl (by omega) ix3' ?_
                            refine R.ldAt Tryz.isAgg45 Tryz.sizeOf45 rfl rfl .hd rfl hcs3 ?_
                            refine R.ixp Tryz.underlying22 Tryz.sizeOf45 rfl rfl rfl (by omega) (by rw [← hcl]; exact ix5) ?_
                            refine R.stEA (y := y2) (l := [.int .i64 y2.1, .int .i64 y2.2]) Tryz.sizeOf45 rfl hw .hd ix5 rfl rfl rfl ?_
                            intro c51 w51
                            refine TL.nil (Post.thnN ?_)
                            refine T.region ?_
                            refine R.mvE rfl (by conv => lhs; whnf) ?_
                            refine R.addI rfl rfl rfl (by omega) ?_
                            refine R.asE rfl (by conv => lhs; whnf) ?_
                            refine TL.nil (Post.blkN ?_)
                            refine id (Post.thnN ?_)
                            refine T.region ?_
                            refine R.mvE rfl (by conv => lhs; whnf) ?_
                            refine R.addI rfl rfl rfl (by omega) ?_
                            refine R.asE rfl (by conv => lhs; whnf) ?_
                            refine TL.nil (Post.thnN ?_)
                            -- round's end, way ny011yy100y
                            exact ⟨(i + 1, j + 1, cur.set i y2, c51), s_3, ⟨⟨by omega, by show k + (j + 1) ≤ _; omega, by show i + 1 + 1 ≤ k + (j + 1); omega, by rw [List.length_set]; exact hcl⟩, rfl, rfl, by rw [List.length_set]; exact w51, by rw [set_take (by omega), htk, hkj, compact_take hz2 hy2', if_neg c44, hkj1], fun q hq => by rw [List.getElem?_set_ne (by omega)]; exact hrest q (by omega)⟩, by show xs.length - (k + (j + 1)) < xs.length - (k + j); omega, ⟨rfl, rfl, rfl, rfl, trivial⟩⟩
                          · refine T.skip (Post.blkN ?_)
                            refine id (Post.thnN ?_)
                            refine T.region ?_
                            refine R.mvE rfl (by conv => lhs; whnf) ?_
                            refine R.addI rfl rfl rfl (by omega) ?_
                            refine R.asE rfl (by conv => lhs; whnf) ?_
                            refine TL.nil (Post.thnN ?_)
                            -- round's end, way ny011yy100n
                            exact ⟨(i, j + 1, cur, [(b3, .cells cs3 45)]), s_3, ⟨⟨by omega, by show k + (j + 1) ≤ _; omega, by show i + 1 ≤ k + (j + 1); omega, hcl⟩, rfl, rfl, hw, by rw [htk, hkj, compact_take hz2 hy2', if_pos (Decidable.of_not_not c44), hkj1], hrest⟩, by show xs.length - (k + (j + 1)) < xs.length - (k + j); omega, ⟨rfl, rfl, rfl, rfl, trivial⟩⟩
                        · refine R.ldAt Tryz.isAgg45 Tryz.sizeOf45 rfl rfl .hd rfl hcs4 ?_
                          refine TL.nil (Plan.e1 (HLe.refl _) ?_)
                          refine Plan.s1 3 [9] (by kernel_rfl) (by kernel_rfl) rfl ?_
                          refine R.ldAt Tryz.isAgg45 Tryz.sizeOf45 rfl rfl .hd rfl hcs3 ?_
                          refine TL.nil (Plan.e1 (HLe.refl _) ?_)
                          refine Plan.v 9 [] (by kernel_rfl) (by kernel_rfl) (by kernel_rfl) (by kernel_rfl) rfl (fun _ _ h_ => R.neP (a := y2) (b := z2) Tryzc_eqP Tryzc_eqG rfl rfl rfl (TL.nil h_)) ?_
                          refine Plan.done (Post.thnN ?_)
                          refine T.condD rfl (fun c44 => ?_) (fun c44 => ?_)
                          · refine T.seq ?_
                            refine T.region ?_
                            refine R.mvE rfl (by conv => lhs; whnf) ?_
                            refine R.mvE rfl (by conv => lhs; whnf) ?_
                            refine R.mvE rfl (by conv => lhs; whnf) ?_
                            refine R.mvE rfl (by conv => lhs; whnf) ?_
                            refine R.ixp Tryz.underlying22 Tryz.sizeOf45 rfl rfl rfl (by omega) ix3' ?_
                            refine R.ldAt Tryz.isAgg45 Tryz.sizeOf45 rfl rfl .hd rfl hcs3 ?_
                            refine R.ixp Tryz.underlying22 Tryz.sizeOf45 rfl rfl rfl (by omega) (by rw [← hcl]; exact ix5) ?_
                            refine R.stEA (y := y2) (l := [.int .i64 y2.1, .int .i64 y2.2]) Tryz.sizeOf45 rfl hw .hd ix5 rfl rfl rfl ?_
                            intro c51 w51
                            refine TL.nil (Post.thnN ?_)
                            refine T.region ?_
                            refine R.mvE rfl (by conv => lhs; whnf) ?_
                            refine R.addI rfl rfl rfl (by omega) ?_
                            refine R.asE rfl (by conv => lhs; whnf) ?_
                            refine TL.nil (Post.blkN ?_)
                            refine id (Post.thnN ?_)
                            refine T.region ?_
                            refine R.mvE rfl (by conv => lhs; whnf) ?_
                            refine R.addI rfl rfl rfl (by omega) ?_
                            refine R.asE rfl (by conv => lhs; whnf) ?_
                            refine TL.nil (Post.thnN ?_)
                            -- round's end, way ny011yy101y
                            exact ⟨(i + 1, j + 1, cur.set i y2, c51), s_3, ⟨⟨by omega, by show k + (j + 1) ≤ _; omega, by show i + 1 + 1 ≤ k + (j + 1); omega, by rw [List.length_set]; exact hcl⟩, rfl, rfl, by rw [List.length_set]; exact w51, by rw [set_take (by omega), htk, hkj, compact_take hz2 hy2', if_neg c44, hkj1], fun q hq => by rw [List.getElem?_set_ne (by omega)]; exact hrest q (by omega)⟩, by show xs.length - (k + (j + 1)) < xs.length - (k + j); omega, ⟨rfl, rfl, rfl, rfl, trivial⟩⟩
                          · refine T.skip (Post.blkN ?_)
                            refine id (Post.thnN ?_)
                            refine T.region ?_
                            refine R.mvE rfl (by conv => lhs; whnf) ?_
                            refine R.addI rfl rfl rfl (by omega) ?_
                            refine R.asE rfl (by conv => lhs; whnf) ?_
                            refine TL.nil (Post.thnN ?_)
                            -- round's end, way ny011yy101n
                            exact ⟨(i, j + 1, cur, [(b3, .cells cs3 45)]), s_3, ⟨⟨by omega, by show k + (j + 1) ≤ _; omega, by show i + 1 ≤ k + (j + 1); omega, hcl⟩, rfl, rfl, hw, by rw [htk, hkj, compact_take hz2 hy2', if_pos (Decidable.of_not_not c44), hkj1], hrest⟩, by show xs.length - (k + (j + 1)) < xs.length - (k + j); omega, ⟨rfl, rfl, rfl, rfl, trivial⟩⟩
                      · refine R.ldAt Tryz.isAgg45 Tryz.sizeOf45 rfl rfl .hd rfl hcs4 ?_
                        refine TL.nil (Plan.e1 (HLe.refl _) ?_)
                        refine Plan.s1 2 [3, 9] (by kernel_rfl) (by kernel_rfl) rfl ?_
                        refine R.ixp Tryz.underlying22 Tryz.sizeOf45 rfl rfl rfl (by omega) ix3' ?_
                        refine TL.nil (Plan.e1 (HLe.refl _) ?_)
                        refine Plan.s1 3 [9] (by kernel_rfl) (by kernel_rfl) rfl ?_
                        refine R.ldAt Tryz.isAgg45 Tryz.sizeOf45 rfl rfl .hd rfl hcs3 ?_
                        refine TL.nil (Plan.e1 (HLe.refl _) ?_)
                        refine Plan.v 9 [] (by kernel_rfl) (by kernel_rfl) (by kernel_rfl) (by kernel_rfl) rfl (fun _ _ h_ => R.neP (a := y2) (b := z2) Tryzc_eqP Tryzc_eqG rfl rfl rfl (TL.nil h_)) ?_
                        refine Plan.done (Post.thnN ?_)
                        refine T.condD rfl (fun c44 => ?_) (fun c44 => ?_)
                        · refine T.seq ?_
                          refine T.region ?_
                          refine R.mvE rfl (by conv => lhs; whnf) ?_
                          refine R.mvE rfl (by conv => lhs; whnf) ?_
                          refine R.mvE rfl (by conv => lhs; whnf) ?_
                          refine R.mvE rfl (by conv => lhs; whnf) ?_
                          refine R.ixp Tryz.underlying22 Tryz.sizeOf45 rfl rfl rfl (by omega) ix3' ?_
                          refine R.ldAt Tryz.isAgg45 Tryz.sizeOf45 rfl rfl .hd rfl hcs3 ?_
                          refine R.ixp Tryz.underlying22 Tryz.sizeOf45 rfl rfl rfl (by omega) (by rw [← hcl]; exact ix5) ?_
                          refine R.stEA (y := y2) (l := [.int .i64 y2.1, .int .i64 y2.2]) Tryz.sizeOf45 rfl hw .hd ix5 rfl rfl rfl ?_
                          intro c51 w51
                          refine TL.nil (Post.thnN ?_)
                          refine T.region ?_
                          refine R.mvE rfl (by conv => lhs; whnf) ?_
                          refine R.addI rfl rfl rfl (by omega) ?_
                          refine R.asE rfl (by conv => lhs; whnf) ?_
                          refine TL.nil (Post.blkN ?_)
                          refine id (Post.thnN ?_)
                          refine T.region ?_
                          refine R.mvE rfl (by conv => lhs; whnf) ?_
                          refine R.addI rfl rfl rfl (by omega) ?_
                          refine R.asE rfl (by conv => lhs; whnf) ?_
                          refine TL.nil (Post.thnN ?_)
                          -- round's end, way ny011yy11y
                          exact ⟨(i + 1, j + 1, cur.set i y2, c51), s_3, ⟨⟨by omega, by show k + (j + 1) ≤ _; omega, by show i + 1 + 1 ≤ k + (j + 1); omega, by rw [List.length_set]; exact hcl⟩, rfl, rfl, by rw [List.length_set]; exact w51, by rw [set_take (by omega), htk, hkj, compact_take hz2 hy2', if_neg c44, hkj1], fun q hq => by rw [List.getElem?_set_ne (by omega)]; exact hrest q (by omega)⟩, by show xs.length - (k + (j + 1)) < xs.length - (k + j); omega, ⟨rfl, rfl, rfl, rfl, trivial⟩⟩
                        · refine T.skip (Post.blkN ?_)
                          refine id (Post.thnN ?_)
                          refine T.region ?_
                          refine R.mvE rfl (by conv => lhs; whnf) ?_
                          refine R.addI rfl rfl rfl (by omega) ?_
                          refine R.asE rfl (by conv => lhs; whnf) ?_
                          refine TL.nil (Post.thnN ?_)
                          -- round's end, way ny011yy11n
                          exact ⟨(i, j + 1, cur, [(b3, .cells cs3 45)]), s_3, ⟨⟨by omega, by show k + (j + 1) ≤ _; omega, by show i + 1 ≤ k + (j + 1); omega, hcl⟩, rfl, rfl, hw, by rw [htk, hkj, compact_take hz2 hy2', if_pos (Decidable.of_not_not c44), hkj1], hrest⟩, by show xs.length - (k + (j + 1)) < xs.length - (k + j); omega, ⟨rfl, rfl, rfl, rfl, trivial⟩⟩
                  · have hje : k + j = xs.length := by omega
                    rw [hje, List.take_length] at htk
                    have hil : (cur.take i).length = i := by simp; omega
                    refine T.exit (Post.thnE (Post.thnE (Post.blkX ?_)))
                    refine id (Post.thnN ?_)
                    refine T.seq ?_
                    refine T.region ?_
                    refine R.mvE rfl (by conv => lhs; whnf) ?_
                    refine R.mvE rfl (by conv => lhs; whnf) ?_
                    refine R.sL Tryz.underlying22 Tryz.sizeOf45 rfl rfl rfl (by omega) (by omega) ?_
                    refine R.clr (dd := none) (xs := cur.take i) Tryz_ty22 (zone_of (z := .agg #[.int .i64 0, .int .i64 0]) (by kernel_rfl) (by intro v hv; simp [Value.cells] at hv; rcases hv with rfl | rfl <;> rfl)) rfl (fun q h => by cases h) (m := xs.length) (by rw [hil]; rfl) (by rw [hil]; exact own_take0 hw (by omega)) .hd (by omega) (by omega) ?_
                    intro c57 w57
                    refine TL.nil (Post.thnN ?_)
                    refine T.seq ?_
                    refine T.region ?_
                    refine R.mvE rfl (by conv => lhs; whnf) ?_
                    refine R.mvE rfl (by conv => lhs; whnf) ?_
                    refine R.sH Tryz.underlying22 Tryz.sizeOf45 rfl rfl rfl (by omega) (by omega) ?_
                    refine R.asE rfl (by conv => lhs; whnf) ?_
                    refine TL.nil (Post.thnN ?_)
                    refine T.ret (Post.blkR (Post.thnR (Post.thnR (Post.blkR (Post.thnR ?_)))))
                    -- way ny011yn
                    refine fin1L [c57] rfl rfl (List.Sublist.refl _) ⟨_, rfl, ?_⟩
                    show OwnS pairE 45 _ (slcV (.slice A xs.length cap) 0 i cap 2) (compactL xs) c57
                    rw [slc_take0, ← htk]
                    rw [hil] at w57
                    exact w57
              · refine T.skip (Post.blkN ?_)
                refine id (Post.thnN ?_)
                refine T.region ?_
                refine R.mvE rfl (by conv => lhs; whnf) ?_
                refine R.addI rfl rfl rfl (by omega) ?_
                refine R.asE rfl (by conv => lhs; whnf) ?_
                refine TL.nil (Post.thnN ?_)
                -- round's end, way ny011n
                exact ⟨k + 1, s_0, ⟨⟨by omega, by omega⟩, rfl, rfl, by rw [show k + 1 = (k - 1) + 2 by omega, compact_take hz hy1, if_neg c25, show k - 1 + 1 = k by omega, hco, show k - 1 + 2 = k + 1 by omega, take_snoc _ _ _ hy]⟩, by omega, ⟨rfl, rfl, trivial⟩⟩
        · refine R.ixp Tryz.underlying22 Tryz.sizeOf45 rfl rfl rfl (by omega) ix2 ?_
          refine TL.nil (Plan.e1 (HLe.refl _) ?_)
          refine Plan.s2 2 8 [3, 8, 9] [2, 3, 9] (by kernel_rfl) (by kernel_rfl) (by kernel_rfl) rfl rfl ?_ ?_
          · refine R.ixp Tryz.underlying22 Tryz.sizeOf45 rfl rfl rfl (by omega) ix1 ?_
            refine TL.nil (Plan.e1 (HLe.refl _) ?_)
            refine Plan.s2 3 8 [8, 9] [3, 9] (by kernel_rfl) (by kernel_rfl) (by kernel_rfl) rfl rfl ?_ ?_
            · refine R.ldAt Tryz.isAgg45 Tryz.sizeOf45 rfl rfl .hd rfl hcs1 ?_
              refine TL.nil (Plan.e1 (HLe.refl _) ?_)
              refine Plan.s1 8 [9] (by kernel_rfl) (by kernel_rfl) rfl ?_
              refine R.ldAt Tryz.isAgg45 Tryz.sizeOf45 rfl rfl .hd rfl hcs2 ?_
              refine TL.nil (Plan.e1 (HLe.refl _) ?_)
              refine Plan.v 9 [] (by kernel_rfl) (by kernel_rfl) (by kernel_rfl) (by kernel_rfl) rfl (fun _ _ h_ => R.eqP (a := y) (b := z) Tryzc_eqP Tryzc_eqG rfl rfl rfl (TL.nil h_)) ?_
              refine Plan.done (Post.thnN ?_)
              refine T.condD rfl (fun c25 => ?_) (fun c25 => ?_)
              · refine T.seq ?_
                refine T.region ?_
                refine R.mvE rfl (by conv => lhs; whnf) ?_
                refine R.mvE rfl (by conv => lhs; whnf) ?_
                refine R.sL Tryz.underlying22 Tryz.sizeOf45 rfl rfl rfl (by omega) (by omega) ?_
                refine R.asE rfl (by conv => lhs; whnf) ?_
                refine TL.nil (Post.thnN ?_)
                refine T.seq ?_
                refine T.seq ?_
                refine T.region ?_
                refine R.asE rfl (by conv => lhs; whnf) ?_
                refine TL.nil (Post.thnN ?_)
                refine T.block ?_
                refine T.loop (ι := Nat × Nat × List Lk × Chunk) (fun ⟨i, j, cur, ch2⟩ H' L' ds' => (1 ≤ j ∧ k + j ≤ xs.length ∧ i + 1 ≤ k + j ∧ cur.length = xs.length) ∧ L' = [ch2] ∧ ds' = [] ∧ OwnS pairE 45 H' (.slice A cur.length cap) cur ch2 ∧ cur.take i = compactL (xs.take (k + j)) ∧ (∀ q, i ≤ q → cur[q]? = xs[q]?)) (fun ⟨i, j, cur, ch2⟩ => [(0, .slice A xs.length cap), (3, .int .i64 i), (4, slcV (.slice A xs.length cap) k xs.length cap 2), (5, .int .i64 j)]) (fun ⟨i, j, cur, ch2⟩ => xs.length - (k + j)) ((k, 1, xs, [(b1, .cells cs1 45)])) ?_ ?_ ?_
                · exact ⟨⟨by omega, by omega, by omega, rfl⟩, rfl, rfl, ho, by rw [hk2, compact_take hz hy1, if_pos c25, show k - 1 + 1 = k by omega, hco], fun q hq => rfl⟩
                · exact ⟨rfl, rfl, rfl, rfl, trivial⟩
                · intro ⟨i, j, cur, ch2⟩ σ4 H_4 L_4 ds_4 s_4 hI_4
                  obtain ⟨⟨hj1, hj2, hij, hcl⟩, rfl, rfl, hw, htk, hrest⟩ := hI_4
                  refine T.seq ?_
                  refine T.seq ?_
                  refine T.region ?_
                  refine R.mvE rfl (by conv => lhs; whnf) ?_
                  refine R.mvE rfl (by conv => lhs; whnf) ?_
                  refine R.len Tryz.underlying22 rfl rfl ?_
                  refine R.lss rfl rfl rfl ?_
                  refine TL.nil (Post.thnN ?_)
                  refine T.condD rfl (fun c32 => ?_) (fun c32 => ?_)
                  · have hlt2 : k + j < xs.length := by omega
                    obtain ⟨y2, hy2⟩ := getk hlt2
                    obtain ⟨z2, hz2⟩ := getk (xs := xs) (k := k + j - 1) (by omega)
                    have hkj : k + (j + 1) = (k + j - 1) + 2 := by omega
                    have hkj1 : k + j - 1 + 1 = k + j := by omega
                    have hy2' : xs[k + j - 1 + 1]? = some y2 := by rw [hkj1]; exact hy2
                    have hcy : cur[k + j]? = some y2 := by rw [hrest _ (by omega)]; exact hy2
                    have hcz : cur[k + ((j : Int) - 1).toNat]? = some z2 := by rw [show k + ((j : Int) - 1).toNat = k + j - 1 by omega, hrest _ (by omega)]; exact hz2
                    obtain ⟨yi, hci⟩ := getk (xs := cur) (k := i) (by omega)
                    obtain ⟨b3, k3, cs3, l3, hce3, hve3, ix3, hR3, hcs3⟩ := hw.elem hcy
                    obtain rfl : l3 = [.int .i64 y2.1, .int .i64 y2.2] := hR3
                    obtain ⟨b4, k4, cs4, l4, hce4, hve4, ix4, hR4, hcs4⟩ := hw.elem hcz
                    obtain rfl : l4 = [.int .i64 z2.1, .int .i64 z2.2] := hR4
                    obtain ⟨b5, k5, cs5, l5, hce5, hve5, ix5, hR5, hcs5⟩ := hw.elem hci
                    subst hce3
                    obtain ⟨rfl, rfl⟩ : b3 = b4 ∧ cs3 = cs4 := by simpa using hce4
                    obtain ⟨rfl, rfl⟩ : b3 = b5 ∧ cs3 = cs5 := by simpa using hce5
                    obtain rfl : cap = k3 := by injection hve3
                    rw [hcl] at hve3
                    have ix3' := ix_off (sz := 2) (k := k) (i := j) hve3 (by omega) (by omega) (by omega)
                    have ix4' := ix_off (sz := 2) (k := k) (i := ((j : Int) - 1).toNat) hve3 (by omega) (by omega) (by omega)
                    refine T.skip (Post.thnN ?_)
                    refine T.seq ?_
                    refine T.block ?_
                    refine T.seq ?_
                    refine T.draw Tryz_mixed (by kernel_rfl) ?_
                    refine Plan.v 0 [1, 2, 3, 4, 5, 6, 7, 8, 9] (by kernel_rfl) (by kernel_rfl) (by kernel_rfl) (by kernel_rfl) rfl (fun _ _ h_ => R.mvE rfl (by conv => lhs; whnf) (TL.nil h_)) ?_
                    refine Plan.v 1 [2, 3, 4, 5, 6, 7, 8, 9] (by kernel_rfl) (by kernel_rfl) (by kernel_rfl) (by kernel_rfl) rfl (fun _ _ h_ => R.mvE rfl (by conv => lhs; whnf) (TL.nil h_)) ?_
                    refine Plan.v 4 [2, 3, 5, 6, 7, 8, 9] (by kernel_rfl) (by kernel_rfl) (by kernel_rfl) (by kernel_rfl) rfl (fun _ _ h_ => R.mvE rfl (by conv => lhs; whnf) (TL.nil h_)) ?_
                    refine Plan.v 5 [2, 3, 6, 7, 8, 9] (by kernel_rfl) (by kernel_rfl) (by kernel_rfl) (by kernel_rfl) rfl (fun _ _ h_ => R.mvE rfl (by conv => lhs; whnf) (TL.nil h_)) ?_
                    refine Plan.v 6 [2, 3, 7, 8, 9] (by kernel_rfl) (by kernel_rfl) (by kernel_rfl) (by kernel_rfl) rfl (fun _ _ h_ => R.subI rfl rfl rfl (by omega) (TL.nil h_)) ?_
                    refine Plan.s2 2 7 [3, 7, 8, 9] [2, 3, 8, 9] (by kernel_rfl) (by kernel_rfl) (by kernel_rfl) rfl rfl ?_ ?_
                    · refine R.ixp Tryz.underlying22 Tryz.sizeOf45 rfl rfl rfl (by omega) ix3' ?_
                      refine TL.nil (Plan.e1 (HLe.refl _) ?_)
                      refine Plan.s2 3 7 [7, 8, 9] [3, 8, 9] (by kernel_rfl) (by kernel_rfl) (by kernel_rfl) rfl rfl ?_ ?_
                      · refine R.ldAt Tryz.isAgg45 Tryz.sizeOf45 rfl rfl .hd rfl hcs3 ?_
                        refine TL.nil (Plan.e1 (HLe.refl _) ?_)
                        refine Plan.s1 7 [8, 9] (by kernel_rfl) (by kernel_rfl) rfl ?_
                        refine R.ixp Tryz.underlying22 Tryz.sizeOf45 rfl rfl rfl (by omega) ix4' ?_
                        refine TL.nil (Plan.e1 (HLe.refl _) ?_)
                        refine Plan.s1 8 [9] (by kernel_rfl) (by kernel_rfl) rfl ?_
                        refine R.ldAt Tryz.isAgg45 Tryz.sizeOf45 rfl rfl .hd rfl hcs4 ?_
                        refine TL.nil (Plan.e1 (HLe.refl _) ?_)
                        refine Plan.v 9 [] (by kernel_rfl) (by kernel_rfl) (by kernel_rfl) (by kernel_rfl) rfl (fun _ _ h_ => R.neP (a := y2) (b := z2) Tryzc_eqP Tryzc_eqG rfl rfl rfl (TL.nil h_)) ?_
                        refine Plan.done (Post.thnN ?_)
                        refine T.condD rfl (fun c44 => ?_) (fun c44 => ?_)
                        · refine T.seq ?_
                          refine T.region ?_
                          refine R.mvE rfl (by conv => lhs; whnf) ?_
                          refine R.mvE rfl (by conv => lhs; whnf) ?_
                          refine R.mvE rfl (by conv => lhs; whnf) ?_
                          refine R.mvE rfl (by conv => lhs; whnf) ?_
                          refine R.ixp Tryz.underlying22 Tryz.sizeOf45 rfl rfl rfl (by omega) ix3' ?_
                          refine R.ldAt Tryz.isAgg45 Tryz.sizeOf45 rfl rfl .hd rfl hcs3 ?_
                          refine R.ixp Tryz.underlying22 Tryz.sizeOf45 rfl rfl rfl (by omega) (by rw [← hcl]; exact ix5) ?_
                          refine R.stEA (y := y2) (l := [.int .i64 y2.1, .int .i64 y2.2]) Tryz.sizeOf45 rfl hw .hd ix5 rfl rfl rfl ?_
                          intro c51 w51
                          refine TL.nil (Post.thnN ?_)
                          refine T.region ?_
                          refine R.mvE rfl (by conv => lhs; whnf) ?_
                          refine R.addI rfl rfl rfl (by omega) ?_
                          refine R.asE rfl (by conv => lhs; whnf) ?_
                          refine TL.nil (Post.blkN ?_)
                          refine id (Post.thnN ?_)
                          refine T.region ?_
                          refine R.mvE rfl (by conv => lhs; whnf) ?_
                          refine R.addI rfl rfl rfl (by omega) ?_
                          refine R.asE rfl (by conv => lhs; whnf) ?_
                          refine TL.nil (Post.thnN ?_)
                          -- round's end, way ny100yy00y
                          exact ⟨(i + 1, j + 1, cur.set i y2, c51), s_4, ⟨⟨by omega, by show k + (j + 1) ≤ _; omega, by show i + 1 + 1 ≤ k + (j + 1); omega, by rw [List.length_set]; exact hcl⟩, rfl, rfl, by rw [List.length_set]; exact w51, by rw [set_take (by omega), htk, hkj, compact_take hz2 hy2', if_neg c44, hkj1], fun q hq => by rw [List.getElem?_set_ne (by omega)]; exact hrest q (by omega)⟩, by show xs.length - (k + (j + 1)) < xs.length - (k + j); omega, ⟨rfl, rfl, rfl, rfl, trivial⟩⟩
                        · refine T.skip (Post.blkN ?_)
                          refine id (Post.thnN ?_)
                          refine T.region ?_
                          refine R.mvE rfl (by conv => lhs; whnf) ?_
                          refine R.addI rfl rfl rfl (by omega) ?_
                          refine R.asE rfl (by conv => lhs; whnf) ?_
                          refine TL.nil (Post.thnN ?_)
                          -- round's end, way ny100yy00n
                          exact ⟨(i, j + 1, cur, [(b3, .cells cs3 45)]), s_4, ⟨⟨by omega, by show k + (j + 1) ≤ _; omega, by show i + 1 ≤ k + (j + 1); omega, hcl⟩, rfl, rfl, hw, by rw [htk, hkj, compact_take hz2 hy2', if_pos (Decidable.of_not_not c44), hkj1], hrest⟩, by show xs.length - (k + (j + 1)) < xs.length - (k + j); omega, ⟨rfl, rfl, rfl, rfl, trivial⟩⟩
                      · refine R.ixp Tryz.underlying22 Tryz.sizeOf45 rfl rfl rfl (by omega) ix4' ?_
                        refine TL.nil (Plan.e1 (HLe.refl _) ?_)
                        refine Plan.s2 3 8 [8, 9] [3, 9] (by kernel_rfl) (by kernel_rfl) (by kernel_rfl) rfl rfl ?_ ?_
                        · refine R.ldAt Tryz.isAgg45 Tryz.sizeOf45 rfl rfl .hd rfl hcs3 ?_
                          refine TL.nil (Plan.e1 (HLe.refl _) ?_)
                          refine Plan.s1 8 [9] (by kernel_rfl) (by kernel_rfl) rfl ?_
                          refine R.ldAt Tryz.isAgg45 Tryz.sizeOf45 rfl rfl .hd rfl hcs4 ?_
                          refine TL.nil (Plan.e1 (HLe.refl _) ?_)
                          refine Plan.v 9 [] (by kernel_rfl) (by kernel_rfl) (by kernel_rfl) (by kernel_rfl) rfl (fun _ _ h_ => R.neP (a := y2) (b := z2) Tryzc_eqP Tryzc_eqG rfl rfl rfl (TL.nil h_)) ?_
                          refine Plan.done (Post.thnN ?_)
                          refine T.condD rfl (fun c44 => ?_) (fun c44 => ?_)
                          · refine T.seq ?_
                            refine T.region ?_
                            refine R.mvE rfl (by conv => lhs; whnf) ?_
                            refine R.mvE rfl (by conv => lhs; whnf) ?_
                            refine R.mvE rfl (by conv => lhs; whnf) ?_
                            refine R.mvE rfl (by conv => lhs; whnf) ?_
                            refine R.ixp Tryz.underlying22 Tryz.sizeOf45 rfl rfl rfl (by omega) ix3' ?_
                            refine R.ldAt Tryz.isAgg45 Tryz.sizeOf45 rfl rfl .hd rfl hcs3 ?_
                            refine R.ixp Tryz.underlying22 Tryz.sizeOf45 rfl rfl rfl (by omega) (by rw [← hcl]; exact ix5) ?_
                            refine R.stEA (y := y2) (l := [.int .i64 y2.1, .int .i64 y2.2]) Tryz.sizeOf45 rfl hw .hd ix5 rfl rfl rfl ?_
                            intro c51 w51
                            refine TL.nil (Post.thnN ?_)
                            refine T.region ?_
                            refine R.mvE rfl (by conv => lhs; whnf) ?_
                            refine R.addI rfl rfl rfl (by omega) ?_
                            refine R.asE rfl (by conv => lhs; whnf) ?_
                            refine TL.nil (Post.blkN ?_)
                            refine id (Post.thnN ?_)
                            refine T.region ?_
                            refine R.mvE rfl (by conv => lhs; whnf) ?_
                            refine R.addI rfl rfl rfl (by omega) ?_
                            refine R.asE rfl (by conv => lhs; whnf) ?_
                            refine TL.nil (Post.thnN ?_)
                            -- round's end, way ny100yy010y
                            exact ⟨(i + 1, j + 1, cur.set i y2, c51), s_4, ⟨⟨by omega, by show k + (j + 1) ≤ _; omega, by show i + 1 + 1 ≤ k + (j + 1); omega, by rw [List.length_set]; exact hcl⟩, rfl, rfl, by rw [List.length_set]; exact w51, by rw [set_take (by omega), htk, hkj, compact_take hz2 hy2', if_neg c44, hkj1], fun q hq => by rw [List.getElem?_set_ne (by omega)]; exact hrest q (by omega)⟩, by show xs.length - (k + (j + 1)) < xs.length - (k + j); omega, ⟨rfl, rfl, rfl, rfl, trivial⟩⟩
                          · refine T.skip (Post.blkN ?_)
                            refine id (Post.thnN ?_)
                            refine T.region ?_
                            refine R.mvE rfl (by conv => lhs; whnf) ?_
                            refine R.addI rfl rfl rfl (by omega) ?_
                            refine R.asE rfl (by conv => lhs; whnf) ?_
                            refine TL.nil (Post.thnN ?_)
                            -- round's end, way ny100yy010n
                            exact ⟨(i, j + 1, cur, [(b3, .cells cs3 45)]), s_4, ⟨⟨by omega, by show k + (j + 1) ≤ _; omega, by show i + 1 ≤ k + (j + 1); omega, hcl⟩, rfl, rfl, hw, by rw [htk, hkj, compact_take hz2 hy2', if_pos (Decidable.of_not_not c44), hkj1], hrest⟩, by show xs.length - (k + (j + 1)) < xs.length - (k + j); omega, ⟨rfl, rfl, rfl, rfl, trivial⟩⟩
                        · refine R.ldAt Tryz.isAgg45 Tryz.sizeOf45 rfl rfl .hd rfl hcs4 ?_
                          refine TL.nil (Plan.e1 (HLe.refl _) ?_)
                          refine Plan.s1 3 [9] (by kernel_rfl) (by kernel_rfl) rfl ?_
                          refine R.ldAt Tryz.isAgg45 Tryz.sizeOf45 rfl rfl .hd rfl hcs3 ?_
                          refine TL.nil (Plan.e1 (HLe.refl _) ?_)
                          refine Plan.v 9 [] (by kernel_rfl) (by kernel_rfl) (by kernel_rfl) (by kernel_rfl) rfl (fun _ _ h_ => R.neP (a := y2) (b := z2) Tryzc_eqP Tryzc_eqG rfl rfl rfl (TL.nil h_)) ?_
                          refine Plan.done (Post.thnN ?_)
                          refine T.condD rfl (fun c44 => ?_) (fun c44 => ?_)
                          · refine T.seq ?_
                            refine T.region ?_
                            refine R.mvE rfl (by conv => lhs; whnf) ?_
                            refine R.mvE rfl (by conv => lhs; whnf) ?_
                            refine R.mvE rfl (by conv => lhs; whnf) ?_
                            refine R.mvE rfl (by conv => lhs; whnf) ?_
                            refine R.ixp Tryz.underlying22 Tryz.sizeOf45 rfl rfl rfl (by omega) ix3' ?_
                            refine R.ldAt Tryz.isAgg45 Tryz.sizeOf45 rfl rfl .hd rfl hcs3 ?_
                            refine R.ixp Tryz.underlying22 Tryz.sizeOf45 rfl rfl rfl (by omega) (by rw [← hcl]; exact ix5) ?_
                            refine R.stEA (y := y2) (l := [.int .i64 y2.1, .int .i64 y2.2]) Tryz.sizeOf45 rfl hw .hd ix5 rfl rfl rfl ?_
                            intro c51 w51
                            refine TL.nil (Post.thnN ?_)
                            refine T.region ?_
                            refine R.mvE rfl (by conv => lhs; whnf) ?_
                            refine R.addI rfl rfl rfl (by omega) ?_
                            refine R.asE rfl (by conv => lhs; whnf) ?_
                            refine TL.nil (Post.blkN ?_)
                            refine id (Post.thnN ?_)
                            refine T.region ?_
                            refine R.mvE rfl (by conv => lhs; whnf) ?_
                            refine R.addI rfl rfl rfl (by omega) ?_
                            refine R.asE rfl (by conv => lhs; whnf) ?_
                            refine TL.nil (Post.thnN ?_)
                            -- round's end, way ny100yy011y
                            exact ⟨(i + 1, j + 1, cur.set i y2, c51), s_4, ⟨⟨by omega, by show k + (j + 1) ≤ _; omega, by show i + 1 + 1 ≤ k + (j + 1); omega, by rw [List.length_set]; exact hcl⟩, rfl, rfl, by rw [List.length_set]; exact w51, by rw [set_take (by omega), htk, hkj, compact_take hz2 hy2', if_neg c44, hkj1], fun q hq => by rw [List.getElem?_set_ne (by omega)]; exact hrest q (by omega)⟩, by show xs.length - (k + (j + 1)) < xs.length - (k + j); omega, ⟨rfl, rfl, rfl, rfl, trivial⟩⟩
                          · refine T.skip (Post.blkN ?_)
                            refine id (Post.thnN ?_)
                            refine T.region ?_
                            refine R.mvE rfl (by conv => lhs; whnf) ?_
                            refine R.addI rfl rfl rfl (by omega) ?_
                            refine R.asE rfl (by conv => lhs; whnf) ?_
                            refine TL.nil (Post.thnN ?_)
                            -- round's end, way ny100yy011n
                            exact ⟨(i, j + 1, cur, [(b3, .cells cs3 45)]), s_4, ⟨⟨by omega, by show k + (j + 1) ≤ _; omega, by show i + 1 ≤ k + (j + 1); omega, hcl⟩, rfl, rfl, hw, by rw [htk, hkj, compact_take hz2 hy2', if_pos (Decidable.of_not_not c44), hkj1], hrest⟩, by show xs.length - (k + (j + 1)) < xs.length - (k + j); omega, ⟨rfl, rfl, rfl, rfl, trivial⟩⟩
                    · refine R.ixp Tryz.underlying22 Tryz.sizeOf45 rfl rfl rfl (by omega) ix4' ?_
                      refine TL.nil (Plan.e1 (HLe.refl _) ?_)
                      refine Plan.s2 2 8 [3, 8, 9] [2, 3, 9] (by kernel_rfl) (by kernel_rfl) (by kernel_rfl) rfl rfl ?_ ?_
                      · refine R.ixp Tryz.underlying22 Tryz.sizeOf45 rfl rfl rfl (by omega) ix3' ?_
                        refine TL.nil (Plan.e1 (HLe.refl _) ?_)
                        refine Plan.s2 3 8 [8, 9] [3, 9] (by kernel_rfl) (by kernel_rfl) (by kernel_rfl) rfl rfl ?_ ?_
                        · refine R.ldAt Tryz.isAgg45 Tryz.sizeOf45 rfl rfl .hd rfl hcs3 ?_
                          refine TL.nil (Plan.e1 (HLe.refl _) ?_)
                          refine Plan.s1 8 [9] (by kernel_rfl) (by kernel_rfl) rfl ?_
                          refine R.ldAt Tryz.isAgg45 Tryz.sizeOf45 rfl rfl .hd rfl hcs4 ?_
                          refine TL.nil (Plan.e1 (HLe.refl _) ?_)
                          refine Plan.v 9 [] (by kernel_rfl) (by kernel_rfl) (by kernel_rfl) (by kernel_rfl) rfl (fun _ _ h_ => R.neP (a := y2) (b := z2) Tryzc_eqP Tryzc_eqG rfl rfl rfl (TL.nil h_)) ?_
                          refine Plan.done (Post.thnN ?_)
                          refine T.condD rfl (fun c44 => ?_) (fun c44 => ?_)
                          · refine T.seq ?_
                            refine T.region ?_
                            refine R.mvE rfl (by conv => lhs; whnf) ?_
                            refine R.mvE rfl (by conv => lhs; whnf) ?_
                            refine R.mvE rfl (by conv => lhs; whnf) ?_
                            refine R.mvE rfl (by conv => lhs; whnf) ?_
                            refine R.ixp Tryz.underlying22 Tryz.sizeOf45 rfl rfl rfl (by omega) ix3' ?_
                            refine R.ldAt Tryz.isAgg45 Tryz.sizeOf45 rfl rfl .hd rfl hcs3 ?_
                            refine R.ixp Tryz.underlying22 Tryz.sizeOf45 rfl rfl rfl (by omega) (by rw [← hcl]; exact ix5) ?_
                            refine R.stEA (y := y2) (l := [.int .i64 y2.1, .int .i64 y2.2]) Tryz.sizeOf45 rfl hw .hd ix5 rfl rfl rfl ?_
                            intro c51 w51
                            refine TL.nil (Post.thnN ?_)
                            refine T.region ?_
                            refine R.mvE rfl (by conv => lhs; whnf) ?_
                            refine R.addI rfl rfl rfl (by omega) ?_
                            refine R.asE rfl (by conv => lhs; whnf) ?_
                            refine TL.nil (Post.blkN ?_)
                            refine id (Post.thnN ?_)
                            refine T.region ?_
                            refine R.mvE rfl (by conv => lhs; whnf) ?_
                            refine R.addI rfl rfl rfl (by omega) ?_
                            refine R.asE rfl (by conv => lhs; whnf) ?_
                            refine TL.nil (Post.thnN ?_)
                            -- round's end, way ny100yy100y
                            exact ⟨(i + 1, j + 1, cur.set i y2, c51), s_4, ⟨⟨by omega, by show k + (j + 1) ≤ _; omega, by show i + 1 + 1 ≤ k + (j + 1); omega, by rw [List.length_set]; exact hcl⟩, rfl, rfl, by rw [List.length_set]; exact w51, by rw [set_take (by omega), htk, hkj, compact_take hz2 hy2', if_neg c44, hkj1], fun q hq => by rw [List.getElem?_set_ne (by omega)]; exact hrest q (by omega)⟩, by show xs.length - (k + (j + 1)) < xs.length - (k + j); omega, ⟨rfl, rfl, rfl, rfl, trivial⟩⟩
                          · refine T.skip (Post.blkN ?_)
                            refine id (Post.thnN ?_)
                            refine T.region ?_
                            refine R.mvE rfl (by conv => lhs; whnf) ?_
                            refine R.addI rfl rfl rfl (by omega) ?_
                            refine R.asE rfl (by conv => lhs; whnf) ?_
                            refine TL.nil (Post.thnN ?_)
                            -- round's end, way ny100yy100n
                            exact ⟨(i, j + 1, cur, [(b3, .cells cs3 45)]), s_4, ⟨⟨by omega, by show k + (j + 1) ≤ _; omega, by show i + 1 ≤ k + (j + 1); omega, hcl⟩, rfl, rfl, hw, by rw [htk, hkj, compact_take hz2 hy2', if_pos (Decidable.of_not_not c44), hkj1], hrest⟩, by show xs.length - (k + (j + 1)) < xs.length - (k + j); omega, ⟨rfl, rfl, rfl, rfl, trivial⟩⟩
                        · refine R.ldAt Tryz.isAgg45 Tryz.sizeOf45 rfl rfl .hd rfl hcs4 ?_
                          refine TL.nil (Plan.e1 (HLe.refl _) ?_)
                          refine Plan.s1 3 [9] (by kernel_rfl) (by kernel_rfl) rfl ?_
                          refine R.ldAt Tryz.isAgg45 Tryz.sizeOf45 rfl rfl .hd rfl hcs3 ?_
                          refine TL.nil (Plan.e1 (HLe.refl _) ?_)
                          refine Plan.v 9 [] (by kernel_rfl) (by kernel_rfl) (by kernel_rfl) (by kernel_rfl) rfl (fun _ _ h_ => R.neP (a := y2) (b := z2) Tryzc_eqP Tryzc_eqG rfl rfl rfl (TL.nil h_)) ?_
                          refine Plan.done (Post.thnN ?_)
                          refine T.condD rfl (fun c44 => ?_) (fun c44 => ?_)
                          · refine T.seq ?_
                            refine T.region ?_
                            refine R.mvE rfl (by conv => lhs; whnf) ?_
                            refine R.mvE rfl (by conv => lhs; whnf) ?_
                            refine R.mvE rfl (by conv => lhs; whnf) ?_
                            refine R.mvE rfl (by conv => lhs; whnf) ?_
                            refine R.ixp Tryz.underlying22 Tryz.sizeOf45 rfl rfl rfl (by omega) ix3' ?_
                            refine R.ldAt Tryz.isAgg45 Tryz.sizeOf45 rfl rfl .hd rfl hcs3 ?_
                            refine R.ixp Tryz.underlying22 Tryz.sizeOf45 rfl rfl rfl (by omega) (by rw [← hcl]; exact ix5) ?_
                            refine R.stEA (y := y2) (l := [.int .i64 y2.1, .int .i64 y2.2]) Tryz.sizeOf45 rfl hw .hd ix5 rfl rfl rfl ?_
                            intro c51 w51
                            refine TL.nil (Post.thnN ?_)
                            refine T.region ?_
                            refine R.mvE rfl (by conv => lhs; whnf) ?_
                            refine R.addI rfl rfl rfl (by omega) ?_
                            refine R.asE rfl (by conv => lhs; whnf) ?_
                            refine TL.nil (Post.blkN ?_)
                            refine id (Post.thnN ?_)
                            refine T.region ?_
                            refine R.mvE rfl (by conv => lhs; whnf) ?_
                            refine R.addI rfl rfl rfl (by omega) ?_
                            refine R.asE rfl (by conv => lhs; whnf) ?_
                            refine TL.nil (Post.thnN ?_)
                            -- round's end, way ny100yy101y
                            exact ⟨(i + 1, j + 1, cur.set i y2, c51), s_4, ⟨⟨by omega, by show k + (j + 1) ≤ _; omega, by show i + 1 + 1 ≤ k + (j + 1); omega, by rw [List.length_set]; exact hcl⟩, rfl, rfl, by rw [List.length_set]; exact w51, by rw [set_take (by omega), htk, hkj, compact_take hz2 hy2', if_neg c44, hkj1], fun q hq => by rw [List.getElem?_set_ne (by omega)]; exact hrest q (by omega)⟩, by show xs.length - (k + (j + 1)) < xs.length - (k + j); omega, ⟨rfl, rfl, rfl, rfl, trivial⟩⟩
                          · refine T.skip (Post.blkN ?_)
                            refine id (Post.thnN ?_)
                            refine T.region ?_
                            refine R.mvE rfl (by conv => lhs; whnf) ?_
                            refine R.addI rfl rfl rfl (by omega) ?_
                            refine R.asE rfl (by conv => lhs; whnf) ?_
                            refine TL.nil (Post.thnN ?_)
                            -- round's end, way ny100yy101n
                            exact ⟨(i, j + 1, cur, [(b3, .cells cs3 45)]), s_4, ⟨⟨by omega, by show k + (j + 1) ≤ _; omega, by show i + 1 ≤ k + (j + 1); omega, hcl⟩, rfl, rfl, hw, by rw [htk, hkj, compact_take hz2 hy2', if_pos (Decidable.of_not_not c44), hkj1], hrest⟩, by show xs.length - (k + (j + 1)) < xs.length - (k + j); omega, ⟨rfl, rfl, rfl, rfl, trivial⟩⟩
                      · refine R.ldAt Tryz.isAgg45 Tryz.sizeOf45 rfl rfl .hd rfl hcs4 ?_
                        refine TL.nil (Plan.e1 (HLe.refl _) ?_)
                        refine Plan.s1 2 [3, 9] (by kernel_rfl) (by kernel_rfl) rfl ?_
                        refine R.ixp Tryz.underlying22 Tryz.sizeOf45 rfl rfl rfl (by omega) ix3' ?_
                        refine TL.nil (Plan.e1 (HLe.refl _) ?_)
                        refine Plan.s1 3 [9] (by kernel_rfl) (by kernel_rfl) rfl ?_
                        refine R.ldAt Tryz.isAgg45 Tryz.sizeOf45 rfl rfl .hd rfl hcs3 ?_
                        refine TL.nil (Plan.e1 (HLe.refl _) ?_)
                        refine Plan.v 9 [] (by kernel_rfl) (by kernel_rfl) (by kernel_rfl) (by kernel_rfl) rfl (fun _ _ h_ => R.neP (a := y2) (b := z2) Tryzc_eqP Tryzc_eqG rfl rfl rfl (TL.nil h_)) ?_
                        refine Plan.done (Post.thnN ?_)
                        refine T.condD rfl (fun c44 => ?_) (fun c44 => ?_)
                        · refine T.seq ?_
                          refine T.region ?_
                          refine R.mvE rfl (by conv => lhs; whnf) ?_
                          refine R.mvE rfl (by conv => lhs; whnf) ?_
                          refine R.mvE rfl (by conv => lhs; whnf) ?_
                          refine R.mvE rfl (by conv => lhs; whnf) ?_
                          refine R.ixp Tryz.underlying22 Tryz.sizeOf45 rfl rfl rfl (by omega) ix3' ?_
                          refine R.ldAt Tryz.isAgg45 Tryz.sizeOf45 rfl rfl .hd rfl hcs3 ?_
                          refine R.ixp Tryz.underlying22 Tryz.sizeOf45 rfl rfl rfl (by omega) (by rw [← hcl]; exact ix5) ?_
                          refine R.stEA (y := y2) (l := [.int .i64 y2.1, .int .i64 y2.2]) Tryz.sizeOf45 rfl hw .hd ix5 rfl rfl rfl ?_
                          intro c51 w51
                          refine TL.nil (Post.thnN ?_)
                          refine T.region ?_
                          refine R.mvE rfl (by conv => lhs; whnf) ?_
                          refine R.addI rfl rfl rfl (by omega) ?_
                          refine R.asE rfl (by conv => lhs; whnf) ?_
                          refine TL.nil (Post.blkN ?_)
                          refine id (Post.thnN ?_)
                          refine T.region ?_
                          refine R.mvE rfl (by conv => lhs; whnf) ?_
                          refine R.addI rfl rfl rfl (by omega) ?_
                          refine R.asE rfl (by conv => lhs; whnf) ?_
                          refine TL.nil (Post.thnN ?_)
                          -- round's end, way ny100yy11y
                          exact ⟨(i + 1, j + 1, cur.set i y2, c51), s_4, ⟨⟨by omega, by show k + (j + 1) ≤ _; omega, by show i + 1 + 1 ≤ k + (j + 1); omega, by rw [List.length_set]; exact hcl⟩, rfl, rfl, by rw [List.length_set]; exact w51, by rw [set_take (by omega), htk, hkj, compact_take hz2 hy2', if_neg c44, hkj1], fun q hq => by rw [List.getElem?_set_ne (by omega)]; exact hrest q (by omega)⟩, by show xs.length - (k + (j + 1)) < xs.length - (k + j); omega, ⟨rfl, rfl, rfl, rfl, trivial⟩⟩
                        · refine T.skip (Post.blkN ?_)
                          refine id (Post.thnN ?_)
                          refine T.region ?_
                          refine R.mvE rfl (by conv => lhs; whnf) ?_
                          refine R.addI rfl rfl rfl (by omega) ?_
                          refine R.asE rfl (by conv => lhs; whnf) ?_
                          refine TL.nil (Post.thnN ?_)
                          -- round's end, way ny100yy11n
                          exact ⟨(i, j + 1, cur, [(b3, .cells cs3 45)]), s_4, ⟨⟨by omega, by show k + (j + 1) ≤ _; omega, by show i + 1 ≤ k + (j + 1); omega, hcl⟩, rfl, rfl, hw, by rw [htk, hkj, compact_take hz2 hy2', if_pos (Decidable.of_not_not c44), hkj1], hrest⟩, by show xs.length - (k + (j + 1)) < xs.length - (k + j); omega, ⟨rfl, rfl, rfl, rfl, trivial⟩⟩
                  · have hje : k + j = xs.length := by omega
                    rw [hje, List.take_length] at htk
                    have hil : (cur.take i).length = i := by simp; omega
                    refine T.exit (Post.thnE (Post.thnE (Post.blkX ?_)))
                    refine id (Post.thnN ?_)
                    refine T.seq ?_
                    refine T.region ?_
                    refine R.mvE rfl (by conv => lhs; whnf) ?_
                    refine R.mvE rfl (by conv => lhs; whnf) ?_
                    refine R.sL Tryz.underlying22 Tryz.sizeOf45 rfl rfl rfl (by omega) (by omega) ?_
                    refine R.clr (dd := none) (xs := cur.take i) Tryz_ty22 (zone_of (z := .agg #[.int .i64 0, .int .i64 0]) (by kernel_rfl) (by intro v hv; simp [Value.cells] at hv; rcases hv with rfl | rfl <;> rfl)) rfl (fun q h => by cases h) (m := xs.length) (by rw [hil]; rfl) (by rw [hil]; exact own_take0 hw (by omega)) .hd (by omega) (by omega) ?_
                    intro c57 w57
                    refine TL.nil (Post.thnN ?_)
                    refine T.seq ?_
                    refine T.region ?_
                    refine R.mvE rfl (by conv => lhs; whnf) ?_
                    refine R.mvE rfl (by conv => lhs; whnf) ?_
                    refine R.sH Tryz.underlying22 Tryz.sizeOf45 rfl rfl rfl (by omega) (by omega) ?_
                    refine R.asE rfl (by conv => lhs; whnf) ?_
                    refine TL.nil (Post.thnN ?_)
                    refine T.ret (Post.blkR (Post.thnR (Post.thnR (Post.blkR (Post.thnR ?_)))))
                    -- way ny100yn
                    refine fin1L [c57] rfl rfl (List.Sublist.refl _) ⟨_, rfl, ?_⟩
                    show OwnS pairE 45 _ (slcV (.slice A xs.length cap) 0 i cap 2) (compactL xs) c57
                    rw [slc_take0, ← htk]
                    rw [hil] at w57
                    exact w57
              · refine T.skip (Post.blkN ?_)
                refine id (Post.thnN ?_)
                refine T.region ?_
                refine R.mvE rfl (by conv => lhs; whnf) ?_
                refine R.addI rfl rfl rfl (by omega) ?_
                refine R.asE rfl (by conv => lhs; whnf) ?_
                refine TL.nil (Post.thnN ?_)
                -- round's end, way ny100n
                exact ⟨k + 1, s_0, ⟨⟨by omega, by omega⟩, rfl, rfl, by rw [show k + 1 = (k - 1) + 2 by omega, compact_take hz hy1, if_neg c25, show k - 1 + 1 = k by omega, hco, show k - 1 + 2 = k + 1 by omega, take_snoc _ _ _ hy]⟩, by omega, ⟨rfl, rfl, trivial⟩⟩
            · refine R.ldAt Tryz.isAgg45 Tryz.sizeOf45 rfl rfl .hd rfl hcs2 ?_
              refine TL.nil (Plan.e1 (HLe.refl _) ?_)
              refine Plan.s1 3 [9] (by kernel_rfl) (by kernel_rfl) rfl ?_
              refine R.ldAt Tryz.isAgg45 Tryz.sizeOf45 rfl rfl .hd rfl hcs1 ?_
              refine TL.nil (Plan.e1 (HLe.refl _) ?_)
              refine Plan.v 9 [] (by kernel_rfl) (by kernel_rfl) (by kernel_rfl) (by kernel_rfl) rfl (fun _ _ h_ => R.eqP (a := y) (b := z) Tryzc_eqP Tryzc_eqG rfl rfl rfl (TL.nil h_)) ?_
              refine Plan.done (Post.thnN ?_)
              refine T.condD rfl (fun c25 => ?_) (fun c25 => ?_)
              · refine T.seq ?_
                refine T.region ?_
                refine R.mvE rfl (by conv => lhs; whnf) ?_
                refine R.mvE rfl (by conv => lhs; whnf) ?_
                refine R.sL Tryz.underlying22 Tryz.sizeOf45 rfl rfl rfl (by omega) (by omega) ?_
                refine R.asE rfl (by conv => lhs; whnf) ?_
                refine TL.nil (Post.thnN ?_)
                refine T.seq ?_
                refine T.seq ?_
                refine T.region ?_
                refine R.asE rfl (by conv => lhs; whnf) ?_
                refine TL.nil (Post.thnN ?_)
                refine T.block ?_
                refine T.loop (ι := Nat × Nat × List Lk × Chunk) (fun ⟨i, j, cur, ch2⟩ H' L' ds' => (1 ≤ j ∧ k + j ≤ xs.length ∧ i + 1 ≤ k + j ∧ cur.length = xs.length) ∧ L' = [ch2] ∧ ds' = [] ∧ OwnS pairE 45 H' (.slice A cur.length cap) cur ch2 ∧ cur.take i = compactL (xs.take (k + j)) ∧ (∀ q, i ≤ q → cur[q]? = xs[q]?)) (fun ⟨i, j, cur, ch2⟩ => [(0, .slice A xs.length cap), (3, .int .i64 i), (4, slcV (.slice A xs.length cap) k xs.length cap 2), (5, .int .i64 j)]) (fun ⟨i, j, cur, ch2⟩ => xs.length - (k + j)) ((k, 1, xs, [(b1, .cells cs1 45)])) ?_ ?_ ?_
                · exact ⟨⟨by omega, by omega, by omega, rfl⟩, rfl, rfl, ho, by rw [hk2, compact_take hz hy1, if_pos c25, show k - 1 + 1 = k by omega, hco], fun q hq => rfl⟩
                · exact ⟨rfl, rfl, rfl, rfl, trivial⟩
                · intro ⟨i, j, cur, ch2⟩ σ5 H_5 L_5 ds_5 s_5 hI_5
                  obtain ⟨⟨hj1, hj2, hij, hcl⟩, rfl, rfl, hw, htk, hrest⟩ := hI_5
                  refine T.seq ?_
                  refine T.seq ?_
                  refine T.region ?_
                  refine R.mvE rfl (by conv => lhs; whnf) ?_
                  refine R.mvE rfl (by conv => lhs; whnf) ?_
                  refine R.len Tryz.underlying22 rfl rfl ?_
                  refine R.lss rfl rfl rfl ?_
                  refine TL.nil (Post.thnN ?_)
                  refine T.condD rfl (fun c32 => ?_) (fun c32 => ?_)
                  · have hlt2 : k + j < xs.length := by omega
                    obtain ⟨y2, hy2⟩ := getk hlt2
                    obtain ⟨z2, hz2⟩ := getk (xs := xs) (k := k + j - 1) (by omega)
                    have hkj : k + (j + 1) = (k + j - 1) + 2 := by omega
                    have hkj1 : k + j - 1 + 1 = k + j := by omega
                    have hy2' : xs[k + j - 1 + 1]? = some y2 := by rw [hkj1]; exact hy2
                    have hcy : cur[k + j]? = some y2 := by rw [hrest _ (by omega)]; exact hy2
                    have hcz : cur[k + ((j : Int) - 1).toNat]? = some z2 := by rw [show k + ((j : Int) - 1).toNat = k + j - 1 by omega, hrest _ (by omega)]; exact hz2
                    obtain ⟨yi, hci⟩ := getk (xs := cur) (k := i) (by omega)
                    obtain ⟨b3, k3, cs3, l3, hce3, hve3, ix3, hR3, hcs3⟩ := hw.elem hcy
                    obtain rfl : l3 = [.int .i64 y2.1, .int .i64 y2.2] := hR3
                    obtain ⟨b4, k4, cs4, l4, hce4, hve4, ix4, hR4, hcs4⟩ := hw.elem hcz
                    obtain rfl : l4 = [.int .i64 z2.1, .int .i64 z2.2] := hR4
                    obtain ⟨b5, k5, cs5, l5, hce5, hve5, ix5, hR5, hcs5⟩ := hw.elem hci
                    subst hce3
                    obtain ⟨rfl, rfl⟩ : b3 = b4 ∧ cs3 = cs4 := by simpa using hce4
                    obtain ⟨rfl, rfl⟩ : b3 = b5 ∧ cs3 = cs5 := by simpa using hce5
                    obtain rfl : cap = k3 := by injection hve3
                    rw [hcl] at hve3
                    have ix3' := ix_off (sz := 2) (k := k) (i := j) hve3 (by omega) (by omega) (by omega)
                    have ix4' := ix_off (sz := 2) (k := k) (i := ((j : Int) - 1).toNat) hve3 (by omega) (by omega) (by omega)
                    refine T.skip (Post.thnN ?_)
                    refine T.seq ?_
                    refine T.block ?_
                    refine T.seq ?_
                    refine T.draw Tryz_mixed (by kernel_rfl) ?_
                    refine Plan.v 0 [1, 2, 3, 4, 5, 6, 7, 8, 9] (by kernel_rfl) (by kernel_rfl) (by kernel_rfl) (by kernel_rfl) rfl (fun _ _ h_ => R.mvE rfl (by conv => lhs; whnf) (TL.nil h_)) ?_
                    refine Plan.v 1 [2, 3, 4, 5, 6, 7, 8, 9] (by kernel_rfl) (by kernel_rfl) (by kernel_rfl) (by kernel_rfl) rfl (fun _ _ h_ => R.mvE rfl (by conv => lhs; whnf) (TL.nil h_)) ?_
                    refine Plan.v 4 [2, 3, 5, 6, 7, 8, 9] (by kernel_rfl) (by kernel_rfl) (by kernel_rfl) (by kernel_rfl) rfl (fun _ _ h_ => R.mvE rfl (by conv => lhs; whnf) (TL.nil h_)) ?_
                    refine Plan.v 5 [2, 3, 6, 7, 8, 9] (by kernel_rfl) (by kernel_rfl) (by kernel_rfl) (by kernel_rfl) rfl (fun _ _ h_ => R.mvE rfl (by conv => lhs; whnf) (TL.nil h_)) ?_
                    refine Plan.v 6 [2, 3, 7, 8, 9] (by kernel_rfl) (by kernel_rfl) (by kernel_rfl) (by kernel_rfl) rfl (fun _ _ h_ => R.subI rfl rfl rfl (by omega) (TL.nil h_)) ?_
                    refine Plan.s2 2 7 [3, 7, 8, 9] [2, 3, 8, 9] (by kernel_rfl) (by kernel_rfl) (by kernel_rfl) rfl rfl ?_ ?_
                    · refine R.ixp Tryz.underlying22 Tryz.sizeOf45 rfl rfl rfl (by omega) ix3' ?_
                      refine TL.nil (Plan.e1 (HLe.refl _) ?_)
                      refine Plan.s2 3 7 [7, 8, 9] [3, 8, 9] (by kernel_rfl) (by kernel_rfl) (by kernel_rfl) rfl rfl ?_ ?_
                      · refine R.ldAt Tryz.isAgg45 Tryz.sizeOf45 rfl rfl .hd rfl hcs3 ?_
                        refine TL.nil (Plan.e1 (HLe.refl _) ?_)
                        refine Plan.s1 7 [8, 9] (by kernel_rfl) (by kernel_rfl) rfl ?_
                        refine R.ixp Tryz.underlying22 Tryz.sizeOf45 rfl rfl rfl (by omega) ix4' ?_
                        refine TL.nil (Plan.e1 (HLe.refl _) ?_)
                        refine Plan.s1 8 [9] (by kernel_rfl) (by kernel_rfl) rfl ?_
                        refine R.ldAt Tryz.isAgg45 Tryz.sizeOf45 rfl rfl .hd rfl hcs4 ?_
                        refine TL.nil (Plan.e1 (HLe.refl _) ?_)
                        refine Plan.v 9 [] (by kernel_rfl) (by kernel_rfl) (by kernel_rfl) (by kernel_rfl) rfl (fun _ _ h_ => R.neP (a := y2) (b := z2) Tryzc_eqP Tryzc_eqG rfl rfl rfl (TL.nil h_)) ?_
                        refine Plan.done (Post.thnN ?_)
                        refine T.condD rfl (fun c44 => ?_) (fun c44 => ?_)
                        · refine T.seq ?_
                          refine T.region ?_
                          refine R.mvE rfl (by conv => lhs; whnf) ?_
                          refine R.mvE rfl (by conv => lhs; whnf) ?_
                          refine R.mvE rfl (by conv => lhs; whnf) ?_
                          refine R.mvE rfl (by conv => lhs; whnf) ?_
                          refine R.ixp Tryz.underlying22 Tryz.sizeOf45 rfl rfl rfl (by omega) ix3' ?_
                          refine R.ldAt Tryz.isAgg45 Tryz.sizeOf45 rfl rfl .hd rfl hcs3 ?_
                          refine R.ixp Tryz.underlying22 Tryz.sizeOf45 rfl rfl rfl (by omega) (by rw [← hcl]; exact ix5) ?_
                          refine R.stEA (y := y2) (l := [.int .i64 y2.1, .int .i64 y2.2]) Tryz.sizeOf45 rfl hw .hd ix5 rfl rfl rfl ?_
                          intro c51 w51
                          refine TL.nil (Post.thnN ?_)
                          refine T.region ?_
                          refine R.mvE rfl (by conv => lhs; whnf) ?_
                          refine R.addI rfl rfl rfl (by omega) ?_
                          refine R.asE rfl (by conv => lhs; whnf) ?_
                          refine TL.nil (Post.blkN ?_)
                          refine id (Post.thnN ?_)
                          refine T.region ?_
                          refine R.mvE rfl (by conv => lhs; whnf) ?_
                          refine R.addI rfl rfl rfl (by omega) ?_
                          refine R.asE rfl (by conv => lhs; whnf) ?_
                          refine TL.nil (Post.thnN ?_)
                          -- round's end, way ny101yy00y
                          exact ⟨(i + 1, j + 1, cur.set i y2, c51), s_5, ⟨⟨by omega, by show k + (j + 1) ≤ _; omega, by show i + 1 + 1 ≤ k + (j + 1); omega, by rw [List.length_set]; exact hcl⟩, rfl, rfl, by rw [List.length_set]; exact w51, by rw [set_take (by omega), htk, hkj, compact_take hz2 hy2', if_neg c44, hkj1], fun q hq => by rw [List.getElem?_set_ne (by omega)]; exact hrest q (by omega)⟩, by show xs.length - (k + (j + 1)) < xs.length - (k + j); omega, ⟨rfl, rfl, rfl, rfl, trivial⟩⟩
                        · refine T.skip (Post.blkN ?_)
                          refine id (Post.thnN ?_)
                          refine T.region ?_
                          refine R.mvE rfl (by conv => lhs; whnf) ?_
                          refine R.addI rfl rfl rfl (by omega) ?_
                          refine R.asE rfl (by conv => lhs; whnf) ?_
                          refine TL.nil (Post.thnN ?_)
                          -- round's end, way ny101yy00n
                          exact ⟨(i, j + 1, cur, [(b3, .cells cs3 45)]), s_5, ⟨⟨by omega, by show k + (j + 1) ≤ _; omega, by show i + 1 ≤ k + (j + 1); omega, hcl⟩, rfl, rfl, hw, by rw [htk, hkj, compact_take hz2 hy2', if_pos (Decidable.of_not_not c44), hkj1], hrest⟩, by show xs.length - (k + (j + 1)) < xs.length - (k + j); omega, ⟨rfl, rfl, rfl, rfl, trivial⟩⟩
                      · refine R.ixp Tryz.underlying22 Tryz.sizeOf45 rfl rfl rfl (by omega) ix4' ?_
                        refine TL.nil (Plan.e1 (HLe.refl _) ?_)
                        refine Plan.s2 3 8 [8, 9] [3, 9] (by kernel_rfl) (by kernel_rfl) (by kernel_rfl) rfl rfl ?_ ?_
                        · refine R.ldAt Tryz.isAgg45 Tryz.sizeOf45 rfl rfl .hd rfl hcs3 ?_
                          refine TL.nil (Plan.e1 (HLe.refl _) ?_)
                          refine Plan.s1 8 [9] (by kernel_rfl) (by kernel_rfl) rfl ?_
                          refine R.ldAt Tryz.isAgg45 Tryz.sizeOf45 rfl rfl .hd rfl hcs4 ?_
                          refine TL.nil (Plan.e1 (HLe.refl _) ?_)
                          refine Plan.v 9 [] (by kernel_rfl) (by kernel_rfl) (by kernel_rfl) (by kernel_rfl) rfl (fun _ _ h_ => R.neP (a := y2) (b := z2) Tryzc_eqP Tryzc_eqG rfl rfl rfl (TL.nil h_)) ?_
                          refine Plan.done (Post.thnN ?_)
                          refine T.condD rfl (fun c44 => ?_) (fun c44 => ?_)
                          · refine T.seq ?_
                            refine T.region ?_
                            refine R.mvE rfl (by conv => lhs; whnf) ?_
                            refine R.mvE rfl (by conv => lhs; whnf) ?_
                            refine R.mvE rfl (by conv => lhs; whnf) ?_
                            refine R.mvE rfl (by conv => lhs; whnf) ?_
                            refine R.ixp Tryz.underlying22 Tryz.sizeOf45 rfl rfl rfl (by omega) ix3' ?_
                            refine R.ldAt Tryz.isAgg45 Tryz.sizeOf45 rfl rfl .hd rfl hcs3 ?_
                            refine R.ixp Tryz.underlying22 Tryz.sizeOf45 rfl rfl rfl (by omega) (by rw [← hcl]; exact ix5) ?_
                            refine R.stEA (y := y2) (l := [.int .i64 y2.1, .int .i64 y2.2]) Tryz.sizeOf45 rfl hw .hd ix5 rfl rfl rfl ?_
                            intro c51 w51
                            refine TL.nil (Post.thnN ?_)
                            refine T.region ?_
                            refine R.mvE rfl (by conv => lhs; whnf) ?_
                            refine R.addI rfl rfl rfl (by omega) ?_
                            refine R.asE rfl (by conv => lhs; whnf) ?_
                            refine TL.nil (Post.blkN ?_)
                            refine id (Post.thnN ?_)
                            refine T.region ?_
                            refine R.mvE rfl (by conv => lhs; whnf) ?_
                            refine R.addI rfl rfl rfl (by omega) ?_
                            refine R.asE rfl (by conv => lhs; whnf) ?_
                            refine TL.nil (Post.thnN ?_)
                            -- round's end, way ny101yy010y
                            exact ⟨(i + 1, j + 1, cur.set i y2, c51), s_5, ⟨⟨by omega, by show k + (j + 1) ≤ _; omega, by show i + 1 + 1 ≤ k + (j + 1); omega, by rw [List.length_set]; exact hcl⟩, rfl, rfl, by rw [List.length_set]; exact w51, by rw [set_take (by omega), htk, hkj, compact_take hz2 hy2', if_neg c44, hkj1], fun q hq => by rw [List.getElem?_set_ne (by omega)]; exact hrest q (by omega)⟩, by show xs.length - (k + (j + 1)) < xs.length - (k + j); omega, ⟨rfl, rfl, rfl, rfl, trivial⟩⟩
                          · refine T.skip (Post.blkN ?_)
                            refine id (Post.thnN ?_)
                            refine T.region ?_
                            refine R.mvE rfl (by conv => lhs; whnf) ?_
                            refine R.addI rfl rfl rfl (by omega) ?_
                            refine R.asE rfl (by conv => lhs; whnf) ?_
                            refine TL.nil (Post.thnN ?_)
                            -- round's end, way ny101yy010n
                            exact ⟨(i, j + 1, cur, [(b3, .cells cs3 45)]), s_5, ⟨⟨by omega, by show k + (j + 1) ≤ _; omega, by show i + 1 ≤ k + (j + 1); omega, hcl⟩, rfl, rfl, hw, by rw [htk, hkj, compact_take hz2 hy2', if_pos (Decidable.of_not_not c44), hkj1], hrest⟩, by show xs.length - (k + (j + 1)) < xs.length - (k + j); omega, ⟨rfl, rfl, rfl, rfl, trivial⟩⟩
                        · refine R.ldAt Tryz.isAgg45 Tryz.sizeOf45 rfl rfl .hd rfl hcs4 ?_
                          refine TL.nil (Plan.e1 (HLe.refl _) ?_)
                          refine Plan.s1 3 [9] (by kernel_rfl) (by kernel_rfl) rfl ?_
                          refine R.ldAt Tryz.isAgg45 Tryz.sizeOf45 rfl rfl .hd rfl hcs3 ?_
                          refine TL.nil (Plan.e1 (HLe.refl _) ?_)
                          refine Plan.v 9 [] (by kernel_rfl) (by kernel_rfl) (by kernel_rfl) (by kernel_rfl) rfl (fun _ _ h_ => R.neP (a := y2) (b := z2) Tryzc_eqP Tryzc_eqG rfl rfl rfl (TL.nil h_)) ?_
                          refine Plan.done (Post.thnN ?_)
                          refine T.condD rfl (fun c44 => ?_) (fun c44 => ?_)
                          · refine T.seq ?_
                            refine T.region ?_
                            refine R.mvE rfl (by conv => lhs; whnf) ?_
                            refine R.mvE rfl (by conv => lhs; whnf) ?_
                            refine R.mvE rfl (by conv => lhs; whnf) ?_
                            refine R.mvE rfl (by conv => lhs; whnf) ?_
                            refine R.ixp Tryz.underlying22 Tryz.sizeOf45 rfl rfl rfl (by omega) ix3' ?_
                            refine R.ldAt Tryz.isAgg45 Tryz.sizeOf45 rfl rfl .hd rfl hcs3 ?_
                            refine R.ixp Tryz.underlying22 Tryz.sizeOf45 rfl rfl rfl (by omega) (by rw [← hcl]; exact ix5) ?_
                            refine R.stEA (y := y2) (l := [.int .i64 y2.1, .int .i64 y2.2]) Tryz.sizeOf45 rfl hw .hd ix5 rfl rfl rfl ?_
                            intro c51 w51
                            refine TL.nil (Post.thnN ?_)
                            refine T.region ?_
                            refine R.mvE rfl (by conv => lhs; whnf) ?_
                            refine R.addI rfl rfl rfl (by omega) ?_
                            refine R.asE rfl (by conv => lhs; whnf) ?_
                            refine TL.nil (Post.blkN ?_)
                            refine id (Post.thnN ?_)
                            refine T.region ?_
                            refine R.mvE rfl (by conv => lhs; whnf) ?_
                            refine R.addI rfl rfl rfl (by omega) ?_
                            refine R.asE rfl (by conv => lhs; whnf) ?_
                            refine TL.nil (Post.thnN ?_)
                            -- round's end, way ny101yy011y
                            exact ⟨(i + 1, j + 1, cur.set i y2, c51), s_5, ⟨⟨by omega, by show k + (j + 1) ≤ _; omega, by show i + 1 + 1 ≤ k + (j + 1); omega, by rw [List.length_set]; exact hcl⟩, rfl, rfl, by rw [List.length_set]; exact w51, by rw [set_take (by omega), htk, hkj, compact_take hz2 hy2', if_neg c44, hkj1], fun q hq => by rw [List.getElem?_set_ne (by omega)]; exact hrest q (by omega)⟩, by show xs.length - (k + (j + 1)) < xs.length - (k + j); omega, ⟨rfl, rfl, rfl, rfl, trivial⟩⟩
                          · refine T.skip (Post.blkN ?_)
                            refine id (Post.thnN ?_)
                            refine T.region ?_
                            refine R.mvE rfl (by conv => lhs; whnf) ?_
                            refine R.addI rfl rfl rfl (by omega) ?_
                            refine R.asE rfl (by conv => lhs; whnf) ?_
                            refine TL.nil (Post.thnN ?_)
                            -- round's end, way ny101yy011n
                            exact ⟨(i, j + 1, cur, [(b3, .cells cs3 45)]), s_5, ⟨⟨by omega, by show k + (j + 1) ≤ _; omega, by show i + 1 ≤ k + (j + 1); omega, hcl⟩, rfl, rfl, hw, by rw [htk, hkj, compact_take hz2 hy2', if_pos (Decidable.of_not_not c44), hkj1], hrest⟩, by show xs.length - (k + (j + 1)) < xs.length - (k + j); omega, ⟨rfl, rfl, rfl, rfl, trivial⟩⟩
                    · refine R.ixp Tryz.underlying22 Tryz.sizeOf45 rfl rfl rfl (by omega) ix4' ?_
                      refine TL.nil (Plan.e1 (HLe.refl _) ?_)
                      refine Plan.s2 2 8 [3, 8, 9] [2, 3, 9] (by kernel_rfl) (by kernel_rfl) (by kernel_rfl) rfl rfl ?_ ?_
                      · refine R.ixp Tryz.underlying22 Tryz.sizeOf45 rfl rfl rfl (by omega) ix3' ?_
                        refine TL.nil (Plan.e1 (HLe.refl _) ?_)
                        refine Plan.s2 3 8 [8, 9] [3, 9] (by kernel_rfl) (by kernel_rfl) (by kernel_rfl) rfl rfl ?_ ?_
                        · refine R.ldAt Tryz.isAgg45 Tryz.sizeOf45 rfl rfl .hd rfl hcs3 ?_
                          refine TL.nil (Plan.e1 (HLe.refl _) ?_)
                          refine Plan.s1 8 [9] (by kernel_rfl) (by kernel_rfl) rfl ?_
                          refine R.ldAt Tryz.isAgg45 Tryz.sizeOf45 rfl rfl .hd rfl hcs4 ?_
                          refine TL.nil (Plan.e1 (HLe.refl _) ?_)
                          refine Plan.v 9 [] (by kernel_rfl) (by kernel_rfl) (by kernel_rfl) (by kernel_rfl) rfl (fun _ _ h_ => R.neP (a := y2) (b := z2) Tryzc_eqP Tryzc_eqG rfl rfl rfl (TL.nil h_)) ?_
                          refine Plan.done (Post.thnN ?_)
                          refine T.condD rfl (fun c44 => ?_) (fun c44 => ?_)
                          · refine T.seq ?_
                            refine T.region ?_
                            refine R.mvE rfl (by conv => lhs; whnf) ?_
                            refine R.mvE rfl (by conv => lhs; whnf) ?_
                            refine R.mvE rfl (by conv => lhs; whnf) ?_
                            refine R.mvE rfl (by conv => lhs; whnf) ?_
                            refine R.ixp Tryz.underlying22 Tryz.sizeOf45 rfl rfl rfl (by omega) ix3' ?_
                            refine R.ldAt Tryz.isAgg45 Tryz.sizeOf45 rfl rfl .hd rfl hcs3 ?_
                            refine R.ixp Tryz.underlying22 Tryz.sizeOf45 rfl rfl rfl (by omega) (by rw [← hcl]; exact ix5) ?_
                            refine R.stEA (y := y2) (l := [.int .i64 y2.1, .int .i64 y2.2]) Tryz.sizeOf45 rfl hw .hd ix5 rfl rfl rfl ?_
                            intro c51 w51
                            refine TL.nil (Post.thnN ?_)
                            refine T.region ?_
                            refine R.mvE rfl (by conv => lhs; whnf) ?_
                            refine R.addI rfl rfl rfl (by omega) ?_
                            refine R.asE rfl (by conv => lhs; whnf) ?_
                            refine TL.nil (Post.blkN ?_)
                            refine id (Post.thnN ?_)
                            refine T.region ?_
                            refine R.mvE rfl (by conv => lhs; whnf) ?_
                            refine R.addI rfl rfl rfl (by omega) ?_
                            refine R.asE rfl (by conv => lhs; whnf) ?_
                            refine TL.nil (Post.thnN ?_)
                            -- round's end, way ny101yy100y
                            exact ⟨(i + 1, j + 1, cur.set i y2, c51), s_5, ⟨⟨by omega, by show k + (j + 1) ≤ _; omega, by show i + 1 + 1 ≤ k + (j + 1); omega, by rw [List.length_set]; exact hcl⟩, rfl, rfl, by rw [List.length_set]; exact w51, by rw [set_take (by omega), htk, hkj, compact_take hz2 hy2', if_neg c44, hkj1], fun q hq => by rw [List.getElem?_set_ne (by omega)]; exact hrest q (by omega)⟩, by show xs.length - (k + (j + 1)) < xs.length - (k + j); omega, ⟨rfl, rfl, rfl, rfl, trivial⟩⟩
                          · refine T.skip (Post.blkN ?_)
                            refine id (Post.thnN ?_)
                            refine T.region ?_
                            refine R.mvE rfl (by conv => lhs; whnf) ?_
                            refine R.addI rfl rfl rfl (by omega) ?_
                            refine R.asE rfl (by conv => lhs; whnf) ?_
                            refine TL.nil (Post.thnN ?_)
                            -- round's end, way ny101yy100n
                            exact ⟨(i, j + 1, cur, [(b3, .cells cs3 45)]), s_5, ⟨⟨by omega, by show k + (j + 1) ≤ _; omega, by show i + 1 ≤ k + (j + 1); omega, hcl⟩, rfl, rfl, hw, by rw [htk, hkj, compact_take hz2 hy2', if_pos (Decidable.of_not_not c44), hkj1], hrest⟩, by show xs.length - (k + (j + 1)) < xs.length - (k + j); omega, ⟨rfl, rfl, rfl, rfl, trivial⟩⟩
                        · refine R.ldAt Tryz.isAgg45 Tryz.sizeOf45 rfl rfl .hd rfl hcs4 ?_
                          refine TL.nil (Plan.e1 (HLe.refl _) ?_)
                          refine Plan.s1 3 [9] (by kernel_rfl) (by kernel_rfl) rfl ?_
                          refine R.ldAt Tryz.isAgg45 Tryz.sizeOf45 rfl rfl .hd rfl hcs3 ?_
                          refine TL.nil (Plan.e1 (HLe.refl _) ?_)
                          refine Plan.v 9 [] (by kernel_rfl) (by kernel_rfl) (by kernel_rfl) (by kernel_rfl) rfl (fun _ _ h_ => R.neP (a := y2) (b := z2) Tryzc_eqP Tryzc_eqG rfl rfl rfl (TL.nil h_)) ?_
                          refine Plan.done (Post.thnN ?_)
                          refine T.condD rfl (fun c44 => ?_) (fun c44 => ?_)
                          · refine T.seq ?_
                            refine T.region ?_
                            refine R.mvE rfl (by conv => lhs; whnf) ?_
                            refine R.mvE rfl (by conv => lhs; whnf) ?_
                            refine R.mvE rfl (by conv => lhs; whnf) ?_
                            refine R.mvE rfl (by conv => lhs; whnf) ?_
                            refine R.ixp Tryz.underlying22 Tryz.sizeOf45 rfl rfl rfl (by omega) ix3' ?_
                            refine R.ldAt Tryz.isAgg45 Tryz.sizeOf45 rfl rfl .hd rfl hcs3 ?_
                            refine R.ixp Tryz.underlying22 Tryz.sizeOf45 rfl rfl rfl (by omega) (by rw [← hcl]; exact ix5) ?_
                            refine R.stEA (y := y2) (l := [.int .i64 y2.1, .int .i64 y2.2]) Tryz.sizeOf45 rfl hw .hd ix5 rfl rfl rfl ?_
                            intro c51 w51
                            refine TL.nil (Post.thnN ?_)
                            refine T.region ?_
                            refine R.mvE rfl (by conv => lhs; whnf) ?_
                            refine R.addI rfl rfl rfl (by omega) ?_
                            refine R.asE rfl (by conv => lhs; whnf) ?_
                            refine TL.nil (Post.blkN ?_)
                            refine id (Post.thnN ?_)
                            refine T.region ?_
                            refine R.mvE rfl (by conv => lhs; whnf) ?_
                            refine R.addI rfl rfl rfl (by omega) ?_
                            refine R.asE rfl (by conv => lhs; whnf) ?_
                            refine TL.nil (Post.thnN ?_)
                            -- round's end, way ny101yy101y
                            exact ⟨(i + 1, j + 1, cur.set i y2, c51), s_5, ⟨⟨by omega, by show k + (j + 1) ≤ _; omega, by show i + 1 + 1 ≤ k + (j + 1); omega, by rw [List.length_set]; exact hcl⟩, rfl, rfl, by rw [List.length_set]; exact w51, by rw [set_take (by omega), htk, hkj, compact_take hz2 hy2', if_neg c44, hkj1], fun q hq => by rw [List.getElem?_set_ne (by omega)]; exact hrest q (by omega)⟩, by show xs.length - (k + (j + 1)) < xs.length - (k + j); omega, ⟨rfl, rfl, rfl, rfl, trivial⟩⟩
                          · refine T.skip (Post.blkN ?_)
                            refine id (Post.thnN ?_)
                            refine T.region ?_
                            refine R.mvE rfl (by conv => lhs; whnf) ?_
                            refine R.addI rfl rfl rfl (by omega) ?_
                            refine R.asE rfl (by conv => lhs; whnf) ?_
                            refine TL.nil (Post.thnN ?_)
                            -- round's end, way ny101yy101n
                            exact ⟨(i, j + 1, cur, [(b3, .cells cs3 45)]), s_5, ⟨⟨by omega, by show k + (j + 1) ≤ _; omega, by show i + 1 ≤ k + (j + 1); omega, hcl⟩, rfl, rfl, hw, by rw [htk, hkj, compact_take hz2 hy2', if_pos (Decidable.of_not_not c44), hkj1], hrest⟩, by show xs.length - (k + (j + 1)) < xs.length - (k + j); omega, ⟨rfl, rfl, rfl, rfl, trivial⟩⟩
                      · refine R.ldAt Tryz.isAgg45 Tryz.sizeOf45 rfl rfl .hd rfl hcs4 ?_
                        refine TL.nil (Plan.e1 (HLe.refl _) ?_)
                        refine Plan.s1 2 [3, 9] (by kernel_rfl) (by kernel_rfl) rfl ?_
                        refine R.ixp Tryz.underlying22 Tryz.sizeOf45 rfl rfl rfl (by omega) ix3' ?_
                        refine TL.nil (Plan.e1 (HLe.refl _) ?_)
                        refine Plan.s1 3 [9] (by kernel_rfl) (by kernel_rfl) rfl ?_
                        refine R.ldAt Tryz.isAgg45 Tryz.sizeOf45 rfl rfl .hd rfl hcs3 ?_
                        refine TL.nil (Plan.e1 (HLe.refl _) ?_)
                        refine Plan.v 9 [] (by kernel_rfl) (by kernel_rfl) (by kernel_rfl) (by kernel_rfl) rfl (fun _ _ h_ => R.neP (a := y2) (b := z2) Tryzc_eqP Tryzc_eqG rfl rfl rfl (TL.nil h_)) ?_
                        refine Plan.done (Post.thnN ?_)
                        refine T.condD rfl (fun c44 => ?_) (fun c44 => ?_)
                        · refine T.seq ?_
                          refine T.region ?_
                          refine R.mvE rfl (by conv => lhs; whnf) ?_
                          refine R.mvE rfl (by conv => lhs; whnf) ?_
                          refine R.mvE rfl (by conv => lhs; whnf) ?_
                          refine R.mvE rfl (by conv => lhs; whnf) ?_
                          refine R.ixp Tryz.underlying22 Tryz.sizeOf45 rfl rfl rfl (by omega) ix3' ?_
                          refine R.ldAt Tryz.isAgg45 Tryz.sizeOf45 rfl rfl .hd rfl hcs3 ?_
                          refine R.ixp Tryz.underlying22 Tryz.sizeOf45 rfl rfl rfl (by omega) (by rw [← hcl]; exact ix5) ?_
                          refine R.stEA (y := y2) (l := [.int .i64 y2.1, .int .i64 y2.2]) Tryz.sizeOf45 rfl hw .hd ix5 rfl rfl rfl ?_
                          intro c51 w51
                          refine TL.nil (Post.thnN ?_)
                          refine T.region ?_
                          refine R.mvE rfl (by conv => lhs; whnf) ?_
                          refine R.addI rfl rfl rfl (by omega) ?_
                          refine R.asE rfl (by conv => lhs; whnf) ?_
                          refine TL.nil (Post.blkN ?_)
                          refine id (Post.thnN ?_)
                          refine T.region ?_
                          refine R.mvE rfl (by conv => lhs; whnf) ?_
                          refine R.addI rfl rfl rfl (by omega) ?_
                          refine R.asE rfl (by conv => lhs; whnf) ?_
                          refine TL.nil (Post.thnN ?_)
                          -- round's end, way ny101yy11y
                          exact ⟨(i + 1, j + 1, cur.set i y2, c51), s_5, ⟨⟨by omega, by show k + (j + 1) ≤ _; omega, by show i + 1 + 1 ≤ k + (j + 1); omega, by rw [List.length_set]; exact hcl⟩, rfl, rfl, by rw [List.length_set]; exact w51, by rw [set_take (by omega), htk, hkj, compact_take hz2 hy2', if_neg c44, hkj1], fun q hq => by rw [List.getElem?_set_ne (by omega)]; exact hrest q (by omega)⟩, by show xs.length - (k + (j + 1)) < xs.length - (k + j); omega, ⟨rfl, rfl, rfl, rfl, trivial⟩⟩
                        · refine T.skip (Post.blkN ?_)
                          refine id (Post.thnN ?_)
                          refine T.region ?_
                          refine R.mvE rfl (by conv => lhs; whnf) ?_
                          refine R.addI rfl rfl rfl (by omega) ?_
                          refine R.asE rfl (by conv => lhs; whnf) ?_
                          refine TL.nil (Post.thnN ?_)
                          -- round's end, way ny101yy11n
                          exact ⟨(i, j + 1, cur, [(b3, .cells cs3 45)]), s_5, ⟨⟨by omega, by show k + (j + 1) ≤ _; omega, by show i + 1 ≤ k + (j + 1); omega, hcl⟩, rfl, rfl, hw, by rw [htk, hkj, compact_take hz2 hy2', if_pos (Decidable.of_not_not c44), hkj1], hrest⟩, by show xs.length - (k + (j + 1)) < xs.length - (k + j); omega, ⟨rfl, rfl, rfl, rfl, trivial⟩⟩
                  · have hje : k + j = xs.length := by omega
                    rw [hje, List.take_length] at htk
                    have hil : (cur.take i).length = i := by simp; omega
                    refine T.exit (Post.thnE (Post.thnE (Post.blkX ?_)))
                    refine id (Post.thnN ?_)
                    refine T.seq ?_
                    refine T.region ?_
                    refine R.mvE rfl (by conv => lhs; whnf) ?_
                    refine R.mvE rfl (by conv => lhs; whnf) ?_
                    refine R.sL Tryz.underlying22 Tryz.sizeOf45 rfl rfl rfl (by omega) (by omega) ?_
                    refine R.clr (dd := none) (xs := cur.take i) Tryz_ty22 (zone_of (z := .agg #[.int .i64 0, .int .i64 0]) (by kernel_rfl) (by intro v hv; simp [Value.cells] at hv; rcases hv with rfl | rfl <;> rfl)) rfl (fun q h => by cases h) (m := xs.length) (by rw [hil]; rfl) (by rw [hil]; exact own_take0 hw (by omega)) .hd (by omega) (by omega) ?_
                    intro c57 w57
                    refine TL.nil (Post.thnN ?_)
                    refine T.seq ?_
                    refine T.region ?_
                    refine R.mvE rfl (by conv => lhs; whnf) ?_
                    refine R.mvE rfl (by conv => lhs; whnf) ?_
                    refine R.sH Tryz.underlying22 Tryz.sizeOf45 rfl rfl rfl (by omega) (by omega) ?_
                    refine R.asE rfl (by conv => lhs; whnf) ?_
                    refine TL.nil (Post.thnN ?_)
                    refine T.ret (Post.blkR (Post.thnR (Post.thnR (Post.blkR (Post.thnR ?_)))))
                    -- way ny101yn
                    refine fin1L [c57] rfl rfl (List.Sublist.refl _) ⟨_, rfl, ?_⟩
                    show OwnS pairE 45 _ (slcV (.slice A xs.length cap) 0 i cap 2) (compactL xs) c57
                    rw [slc_take0, ← htk]
                    rw [hil] at w57
                    exact w57
              · refine T.skip (Post.blkN ?_)
                refine id (Post.thnN ?_)
                refine T.region ?_
                refine R.mvE rfl (by conv => lhs; whnf) ?_
                refine R.addI rfl rfl rfl (by omega) ?_
                refine R.asE rfl (by conv => lhs; whnf) ?_
                refine TL.nil (Post.thnN ?_)
                -- round's end, way ny101n
                exact ⟨k + 1, s_0, ⟨⟨by omega, by omega⟩, rfl, rfl, by rw [show k + 1 = (k - 1) + 2 by omega, compact_take hz hy1, if_neg c25, show k - 1 + 1 = k by omega, hco, show k - 1 + 2 = k + 1 by omega, take_snoc _ _ _ hy]⟩, by omega, ⟨rfl, rfl, trivial⟩⟩
          · refine R.ldAt Tryz.isAgg45 Tryz.sizeOf45 rfl rfl .hd rfl hcs2 ?_
            refine TL.nil (Plan.e1 (HLe.refl _) ?_)
            refine Plan.s1 2 [3, 9] (by kernel_rfl) (by kernel_rfl) rfl ?_
            refine R.ixp Tryz.underlying22 Tryz.sizeOf45 rfl rfl rfl (by omega) ix1 ?_
            refine TL.nil (Plan.e1 (HLe.refl _) ?_)
            refine Plan.s1 3 [9] (by kernel_rfl) (by kernel_rfl) rfl ?_
            refine R.ldAt Tryz.isAgg45 Tryz.sizeOf45 rfl rfl .hd rfl hcs1 ?_
            refine TL.nil (Plan.e1 (HLe.refl _) ?_)
            refine Plan.v 9 [] (by kernel_rfl) (by kernel_rfl) (by kernel_rfl) (by kernel_rfl) rfl (fun _ _ h_ => R.eqP (a := y) (b := z) Tryzc_eqP Tryzc_eqG rfl rfl rfl (TL.nil h_)) ?_
            refine Plan.done (Post.thnN ?_)
            refine T.condD rfl (fun c25 => ?_) (fun c25 => ?_)
            · refine T.seq ?_
              refine T.region ?_
              refine R.mvE rfl (by conv => lhs; whnf) ?_
              refine R.mvE rfl (by conv => lhs; whnf) ?_
              refine R.sL Tryz.underlying22 Tryz.sizeOf45 rfl rfl rfl (by omega) (by omega) ?_
              refine R.asE rfl (by conv => lhs; whnf) ?_
              refine TL.nil (Post.thnN ?_)
              refine T.seq ?_
              refine T.seq ?_
              refine T.region ?_
              refine R.asE rfl (by conv => lhs; whnf) ?_
              refine TL.nil (Post.thnN ?_)
              refine T.block ?_
              refine T.loop (ι := Nat × Nat × List Lk × Chunk) (fun ⟨i, j, cur, ch2⟩ H' L' ds' => (1 ≤ j ∧ k + j ≤ xs.length ∧ i + 1 ≤ k + j ∧ cur.length = xs.length) ∧ L' = [ch2] ∧ ds' = [] ∧ OwnS pairE 45 H' (.slice A cur.length cap) cur ch2 ∧ cur.take i = compactL (xs.take (k + j)) ∧ (∀ q, i ≤ q → cur[q]? = xs[q]?)) (fun ⟨i, j, cur, ch2⟩ => [(0, .slice A xs.length cap), (3, .int .i64 i), (4, slcV (.slice A xs.length cap) k xs.length cap 2), (5, .int .i64 j)]) (fun ⟨i, j, cur, ch2⟩ => xs.length - (k + j)) ((k, 1, xs, [(b1, .cells cs1 45)])) ?_ ?_ ?_
              · exact ⟨⟨by omega, by omega, by omega, rfl⟩, rfl, rfl, ho, by rw [hk2, compact_take hz hy1, if_pos c25, show k - 1 + 1 = k by omega, hco], fun q hq => rfl⟩
              · exact ⟨rfl, rfl, rfl, rfl, trivial⟩
              · intro ⟨i, j, cur, ch2⟩ σ6 H_6 L_6 ds_6 s_6 hI_6
                obtain ⟨⟨hj1, hj2, hij, hcl⟩, rfl, rfl, hw, htk, hrest⟩ := hI_6
                refine T.seq ?_
                refine T.seq ?_
                refine T.region ?_
                refine R.mvE rfl (by conv => lhs; whnf) ?_
                refine R.mvE rfl (by conv => lhs; whnf) ?_
                refine R.len Tryz.underlying22 rfl rfl ?_
                refine R.lss rfl rfl rfl ?_
                refine TL.nil (Post.thnN ?_)
                refine T.condD rfl (fun c32 => ?_) (fun c32 => ?_)
                · have hlt2 : k + j < xs.length := by omega
                  obtain ⟨y2, hy2⟩ := getk hlt2
                  obtain ⟨z2, hz2⟩ := getk (xs := xs) (k := k + j - 1) (by omega)
                  have hkj : k + (j + 1) = (k + j - 1) + 2 := by omega
                  have hkj1 : k + j - 1 + 1 = k + j := by omega
                  have hy2' : xs[k + j - 1 + 1]? = some y2 := by rw [hkj1]; exact hy2
                  have hcy : cur[k + j]? = some y2 := by rw [hrest _ (by omega)]; exact hy2
                  have hcz : cur[k + ((j : Int) - 1).toNat]? = some z2 := by rw [show k + ((j : Int) - 1).toNat = k + j - 1 by omega, hrest _ (by omega)]; exact hz2
                  obtain ⟨yi, hci⟩ := getk (xs := cur) (k := i) (by omega)
                  obtain ⟨b3, k3, cs3, l3, hce3, hve3, ix3, hR3, hcs3⟩ := hw.elem hcy
                  obtain rfl : l3 = [.int .i64 y2.1, .int .i64 y2.2] := hR3
                  obtain ⟨b4, k4, cs4, l4, hce4, hve4, ix4, hR4, hcs4⟩ := hw.elem hcz
                  obtain rfl : l4 = [.int .i64 z2.1, .int .i64 z2.2] := hR4
                  obtain ⟨b5, k5, cs5, l5, hce5, hve5, ix5, hR5, hcs5⟩ := hw.elem hci
                  subst hce3
                  obtain ⟨rfl, rfl⟩ : b3 = b4 ∧ cs3 = cs4 := by simpa using hce4
                  obtain ⟨rfl, rfl⟩ : b3 = b5 ∧ cs3 = cs5 := by simpa using hce5
                  obtain rfl : cap = k3 := by injection hve3
                  rw [hcl] at hve3
                  have ix3' := ix_off (sz := 2) (k := k) (i := j) hve3 (by omega) (by omega) (by omega)
                  have ix4' := ix_off (sz := 2) (k := k) (i := ((j : Int) - 1).toNat) hve3 (by omega) (by omega) (by omega)
                  refine T.skip (Post.thnN ?_)
                  refine T.seq ?_
                  refine T.block ?_
                  refine T.seq ?_
                  refine T.draw Tryz_mixed (by kernel_rfl) ?_
                  refine Plan.v 0 [1, 2, 3, 4, 5, 6, 7, 8, 9] (by kernel_rfl) (by kernel_rfl) (by kernel_rfl) (by kernel_rfl) rfl (fun _ _ h_ => R.mvE rfl (by conv => lhs; whnf) (TL.nil h_)) ?_
                  refine Plan.v 1 [2, 3, 4, 5, 6, 7, 8, 9] (by kernel_rfl) (by kernel_rfl) (by kernel_rfl) (by kernel_rfl) rfl (fun _ _ h_ => R.mvE rfl (by conv => lhs; whnf) (TL.nil h_)) ?_
                  refine Plan.v 4 [2, 3, 5, 6, 7, 8, 9] (by kernel_rfl) (by kernel_rfl) (by kernel_rfl) (by kernel_rfl) rfl (fun _ _ h_ => R.mvE rfl (by conv => lhs; whnf) (TL.nil h_)) ?_
                  refine Plan.v 5 [2, 3, 6, 7, 8, 9] (by kernel_rfl) (by kernel_rfl) (by kernel_rfl) (by kernel_rfl) rfl (fun _ _ h_ => R.mvE rfl (by conv => lhs; whnf) (TL.nil h_)) ?_
                  refine Plan.v 6 [2, 3, 7, 8, 9] (by kernel_rfl) (by kernel_rfl) (by kernel_rfl) (by kernel_rfl) rfl (fun _ _ h_ => R.subI rfl rfl rfl (by omega) (TL.nil h_)) ?_
                  refine Plan.s2 2 7 [3, 7, 8, 9] [2, 3, 8, 9] (by kernel_rfl) (by kernel_rfl) (by kernel_rfl) rfl rfl ?_ ?_
                  · refine R.ixp Tryz.underlying22 Tryz.sizeOf45 rfl rfl rfl (by omega) ix3' ?_
                    refine TL.nil (Plan.e1 (HLe.refl _) ?_)
                    refine Plan.s2 3 7 [7, 8, 9] [3, 8, 9] (by kernel_rfl) (by kernel_rfl) (by kernel_rfl) rfl rfl ?_ ?_
                    · refine R.ldAt Tryz.isAgg45 Tryz.sizeOf45 rfl rfl .hd rfl hcs3 ?_
                      refine TL.nil (Plan.e1 (HLe.refl _) ?_)
                      refine Plan.s1 7 [8, 9] (by kernel_rfl) (by kernel_rfl) rfl ?_
                      refine R.ixp Tryz.underlying22 Tryz.sizeOf45 rfl rfl rfl (by omega) ix4' ?_
                      refine TL.nil (Plan.e1 (HLe.refl _) ?_)
                      refine Plan.s1 8 [9] (by kernel_rfl) (by kernel_rfl) rfl ?_
                      refine R.ldAt Tryz.isAgg45 Tryz.sizeOf45 rfl rfl .hd rfl hcs4 ?_
                      refine TL.nil (Plan.e1 (HLe.refl _) ?_)
                      refine Plan.v 9 [] (by kernel_rfl) (by kernel_rfl) (by kernel_rfl) (by kernel_rfl) rfl (fun _ _ h_ => R.neP (a := y2) (b := z2) Tryzc_eqP Tryzc_eqG rfl rfl rfl (TL.nil h_)) ?_
                      refine Plan.done (Post.thnN ?_)
                      refine T.condD rfl (fun c44 => ?_) (fun c44 => ?_)
                      · refine T.seq ?_
                        refine T.region ?_
                        refine R.mvE rfl (by conv => lhs; whnf) ?_
                        refine R.mvE rfl (by conv => lhs; whnf) ?_
                        refine R.mvE rfl (by conv => lhs; whnf) ?_
                        refine R.mvE rfl (by conv => lhs; whnf) ?_
                        refine R.ixp Tryz.underlying22 Tryz.sizeOf45 rfl rfl rfl (by omega) ix3' ?_
                        refine R.ldAt Tryz.isAgg45 Tryz.sizeOf45 rfl rfl .hd rfl hcs3 ?_
                        refine R.ixp Tryz.underlying22 Tryz.sizeOf45 rfl rfl rfl (by omega) (by rw [← hcl]; exact ix5) ?_
                        refine R.stEA (y := y2) (l := [.int .i64 y2.1, .int .i64 y2.2]) Tryz.sizeOf45 rfl hw .hd ix5 rfl rfl rfl ?_
                        intro c51 w51
                        refine TL.nil (Post.thnN ?_)
                        refine T.region ?_
                        refine R.mvE rfl (by conv => lhs; whnf) ?_
                        refine R.addI rfl rfl rfl (by omega) ?_
                        refine R.asE rfl (by conv => lhs; whnf) ?_
                        refine TL.nil (Post.blkN ?_)
                        refine id (Post.thnN ?_)
                        refine T.region ?_
                        refine R.mvE rfl (by conv => lhs; whnf) ?_
                        refine R.addI rfl rfl rfl (by omega) ?_
                        refine R.asE rfl (by conv => lhs; whnf) ?_
                        refine TL.nil (Post.thnN ?_)
                        -- round's end, way ny11yy00y
                        exact ⟨(i + 1, j + 1, cur.set i y2, c51), s_6, ⟨⟨by omega, by show k + (j + 1) ≤ _; omega, by show i + 1 + 1 ≤ k + (j + 1); omega, by rw [List.length_set]; exact hcl⟩, rfl, rfl, by rw [List.length_set]; exact w51, by rw [set_take (by omega), htk, hkj, compact_take hz2 hy2', if_neg c44, hkj1], fun q hq => by rw [List.getElem?_set_ne (by omega)]; exact hrest q (by omega)⟩, by show xs.length - (k + (j + 1)) < xs.length - (k + j); omega, ⟨rfl, rfl, rfl, rfl, trivial⟩⟩
                      · refine T.skip (Post.blkN ?_)
                        refine id (Post.thnN ?_)
                        refine T.region ?_
                        refine R.mvE rfl (by conv => lhs; whnf) ?_
                        refine R.addI rfl rfl rfl (by omega) ?_
                        refine R.asE rfl (by conv => lhs; whnf) ?_
                        refine TL.nil (Post.thnN ?_)
                        -- round's end, way ny11yy00n
                        exact ⟨(i, j + 1, cur, [(b3, .cells cs3 45)]), s_6, ⟨⟨by omega, by show k + (j + 1) ≤ _; omega, by show i + 1 ≤ k + (j + 1); omega, hcl⟩, rfl, rfl, hw, by rw [htk, hkj, compact_take hz2 hy2', if_pos (Decidable.of_not_not c44), hkj1], hrest⟩, by show xs.length - (k + (j + 1)) < xs.length - (k + j); omega, ⟨rfl, rfl, rfl, rfl, trivial⟩⟩
                    · refine R.ixp Tryz.underlying22 Tryz.sizeOf45 rfl rfl rfl (by omega) ix4' ?_
                      refine TL.nil (Plan.e1 (HLe.refl _) ?_)
                      refine Plan.s2 3 8 [8, 9] [3, 9] (by kernel_rfl) (by kernel_rfl) (by kernel_rfl) rfl rfl ?_ ?_
                      · refine R.ldAt Tryz.isAgg45 Tryz.sizeOf45 rfl rfl .hd rfl hcs3 ?_
                        refine TL.nil (Plan.e1 (HLe.refl _) ?_)
                        refine Plan.s1 8 [9] (by kernel_rfl) (by kernel_rfl) rfl ?_
                        refine R.ldAt Tryz.isAgg45 Tryz.sizeOf45 rfl rfl .hd rfl hcs4 ?_
                        refine TL.nil (Plan.e1 (HLe.refl _) ?_)
                        refine Plan.v 9 [] (by kernel_rfl) (by kernel_rfl) (by kernel_rfl) (by kernel_rfl) rfl (fun _ _ h_ => R.neP (a := y2) (b := z2) Tryzc_eqP Tryzc_eqG rfl rfl rfl (TL.nil h_)) ?_
                        refine Plan.done (Post.thnN ?_)
                        refine T.condD rfl (fun c44 => ?_) (fun c44 => ?_)
                        · refine T.seq ?_
                          refine T.region ?_
                          refine R.mvE rfl (by conv => lhs; whnf) ?_
                          refine R.mvE rfl (by conv => lhs; whnf) ?_
                          refine R.mvE rfl (by conv => lhs; whnf) ?_
                          refine R.mvE rfl (by conv => lhs; whnf) ?_
                          refine R.ixp Tryz.underlying22 Tryz.sizeOf45 rfl rfl rfl (by omega) ix3' ?_
                          refine R.ldAt Tryz.isAgg45 Tryz.sizeOf45 rfl rfl .hd rfl hcs3 ?_
                          refine R.ixp Tryz.underlying22 Tryz.sizeOf45 rfl rfl rfl (by omega) (by rw [← hcl]; exact ix5) ?_
                          refine R.stEA (y := y2) (l := [.int .i64 y2.1, .int .i64 y2.2]) Tryz.sizeOf45 rfl hw .hd ix5 rfl rfl rfl ?_
                          intro c51 w51
                          refine TL.nil (Post.thnN ?_)
                          refine T.region ?_
                          refine R.mvE rfl (by conv => lhs; whnf) ?_
                          refine R.addI rfl rfl rfl (by omega) ?_
                          refine R.asE rfl (by conv => lhs; whnf) ?_
                          refine TL.nil (Post.blkN ?_)
                          refine id (Post.thnN ?_)
                          refine T.region ?_
                          refine R.mvE rfl (by conv => lhs; whnf) ?_
                          refine R.addI rfl rfl rfl (by omega) ?_
                          refine R.asE rfl (by conv => lhs; whnf) ?_
                          refine TL.nil (Post.thnN ?_)
                          -- round's end, way ny11yy010y
                          exact ⟨(i + 1, j + 1, cur.set i y2, c51), s_6, ⟨⟨by omega, by show k + (j + 1) ≤ _; omega, by show i + 1 + 1 ≤ k + (j + 1); omega, by rw [List.length_set]; exact hcl⟩, rfl, rfl, by rw [List.length_set]; exact w51, by rw [set_take (by omega), htk, hkj, compact_take hz2 hy2', if_neg c44, hkj1], fun q hq => by rw [List.getElem?_set_ne (by omega)]; exact hrest q (by omega)⟩, by show xs.length - (k + (j + 1)) < xs.length - (k + j); omega, ⟨rfl, rfl, rfl, rfl, trivial⟩⟩
                        · refine T.skip (Post.blkN ?_)
                          refine id (Post.thnN ?_)
                          refine T.region ?_
                          refine R.mvE rfl (by conv => lhs; whnf) ?_
                          refine R.addI rfl rfl rfl (by omega) ?_
                          refine R.asE rfl (by conv => lhs; whnf) ?_
                          refine TL.nil (Post.thnN ?_)
                          -- round's end, way ny11yy010n
                          exact ⟨(i, j + 1, cur, [(b3, .cells cs3 45)]), s_6, ⟨⟨by omega, by show k + (j + 1) ≤ _; omega, by show i + 1 ≤ k + (j + 1); omega, hcl⟩, rfl, rfl, hw, by rw [htk, hkj, compact_take hz2 hy2', if_pos (Decidable.of_not_not c44), hkj1], hrest⟩, by show xs.length - (k + (j + 1)) < xs.length - (k + j); omega, ⟨rfl, rfl, rfl, rfl, trivial⟩⟩
                      · refine R.ldAt Tryz.isAgg45 Tryz.sizeOf45 rfl rfl .hd rfl hcs4 ?_
                        refine TL.nil (Plan.e1 (HLe.refl _) ?_)
                        refine Plan.s1 3 [9] (by kernel_rfl) (by kernel_rfl) rfl ?_
                        refine R.ldAt Tryz.isAgg45 Tryz.sizeOf45 rfl rfl .hd rfl hcs3 ?_
                        refine TL.nil (Plan.e1 (HLe.refl _) ?_)
                        refine Plan.v 9 [] (by kernel_rfl) (by kernel_rfl) (by kernel_rfl) (by kernel_rfl) rfl (fun _ _ h_ => R.neP (a := y2) (b := z2) Tryzc_eqP Tryzc_eqG rfl rfl rfl (TL.nil h_)) ?_
                        refine Plan.done (Post.thnN ?_)
                        refine T.condD rfl (fun c44 => ?_) (fun c44 => ?_)
                        · refine T.seq ?_
                          refine T.region ?_
                          refine R.mvE rfl (by conv => lhs; whnf) ?_
                          refine R.mvE rfl (by conv => lhs; whnf) ?_
                          refine R.mvE rfl (by conv => lhs; whnf) ?_
                          refine R.mvE rfl (by conv => lhs; whnf) ?_
                          refine R.ixp Tryz.underlying22 Tryz.sizeOf45 rfl rfl rfl (by omega) ix3' ?_
                          refine R.ldAt Tryz.isAgg45 Tryz.sizeOf45 rfl rfl .hd rfl hcs3 ?_
                          refine R.ixp Tryz.underlying22 Tryz.sizeOf45 rfl rfl rfl (by omega) (by rw [← hcl]; exact ix5) ?_
                          refine R.stEA (y := y2) (l := [.int .i64 y2.1, .int .i64 y2.2]) Tryz.sizeOf45 rfl hw .hd ix5 rfl rfl rfl ?_
                          intro c51 w51
                          refine TL.nil (Post.thnN ?_)
                          refine T.region ?_
                          refine R.mvE rfl (by conv => lhs; whnf) ?_
                          refine R.addI rfl rfl rfl (by omega) ?_
                          refine R.asE rfl (by conv => lhs; whnf) ?_
                          refine TL.nil (Post.blkN ?_)
                          refine id (Post.thnN ?_)
                          refine T.region ?_
                          refine R.mvE rfl (by conv => lhs; whnf) ?_
                          refine R.addI rfl rfl rfl (by omega) ?_
                          refine R.asE rfl (by conv => lhs; whnf) ?_
                          refine TL.nil (Post.thnN ?_)
                          -- round's end, way ny11yy011y
                          exact ⟨(i + 1, j + 1, cur.set i y2, c51), s_6, ⟨⟨by omega, by show k + (j + 1) ≤ _; omega, by show i + 1 + 1 ≤ k + (j + 1); omega, by rw [List.length_set]; exact hcl⟩, rfl, rfl, by rw [List.length_set]; exact w51, by rw [set_take (by omega), htk, hkj, compact_take hz2 hy2', if_neg c44, hkj1], fun q hq => by rw [List.getElem?_set_ne (by omega)]; exact hrest q (by omega)⟩, by show xs.length - (k + (j + 1)) < xs.length - (k + j); omega, ⟨rfl, rfl, rfl, rfl, trivial⟩⟩
                        · refine T.skip (Post.blkN ?_)
                          refine id (Post.thnN ?_)
                          refine T.region ?_
                          refine R.mvE rfl (by conv => lhs; whnf) ?_
                          refine R.addI rfl rfl rfl (by omega) ?_
                          refine R.asE rfl (by conv => lhs; whnf) ?_
                          refine TL.nil (Post.thnN ?_)
                          -- round's end, way ny11yy011n
                          exact ⟨(i, j + 1, cur, [(b3, .cells cs3 45)]), s_6, ⟨⟨by omega, by show k + (j + 1) ≤ _; omega, by show i + 1 ≤ k + (j + 1); omega, hcl⟩, rfl, rfl, hw, by rw [htk, hkj, compact_take hz2 hy2', if_pos (Decidable.of_not_not c44), hkj1], hrest⟩, by show xs.length - (k + (j + 1)) < xs.length - (k + j); omega, ⟨rfl, rfl, rfl, rfl, trivial⟩⟩
                  · refine R.ixp Tryz.underlying22 Tryz.sizeOf45 rfl rfl rfl (by omega) ix4' ?_
                    refine TL.nil (Plan.e1 (HLe.refl _) ?_)
                    refine Plan.s2 2 8 [3, 8, 9] [2, 3, 9] (by kernel_rfl) (by kernel_rfl) (by kernel_rfl) rfl rfl ?_ ?_
                    · refine R.ixp Tryz.underlying22 Tryz.sizeOf45 rfl rfl rfl (by omega) ix3' ?_
                      refine TL.nil (Plan.e1 (HLe.refl _) ?_)
                      refine Plan.s2 3 8 [8, 9] [3, 9] (by kernel_rfl) (by kernel_rfl) (by kernel_rfl) rfl rfl ?_ ?_
                      · refine R.ldAt Tryz.isAgg45 Tryz.sizeOf45 rfl rfl .hd rfl hcs3 ?_
                        refine TL.nil (Plan.e1 (HLe.refl _) ?_)
                        refine Plan.s1 8 [9] (by kernel_rfl) (by kernel_rfl) rfl ?_
                        refine R.ldAt Tryz.isAgg45 Tryz.sizeOf45 rfl rfl .hd rfl hcs4 ?_
                        refine TL.nil (Plan.e1 (HLe.refl _) ?_)
                        refine Plan.v 9 [] (by kernel_rfl) (by kernel_rfl) (by kernel_rfl) (by kernel_rfl) rfl (fun _ _ h_ => R.neP (a := y2) (b := z2) Tryzc_eqP Tryzc_eqG rfl rfl rfl (TL.nil h_)) ?_
                        refine Plan.done (Post.thnN ?_)
                        refine T.condD rfl (fun c44 => ?_) (fun c44 => ?_)
                        · refine T.seq ?_
                          refine T.region ?_
                          refine R.mvE rfl (by conv => lhs; whnf) ?_
                          refine R.mvE rfl (by conv => lhs; whnf) ?_
                          refine R.mvE rfl (by conv => lhs; whnf) ?_
                          refine R.mvE rfl (by conv => lhs; whnf) ?_
                          refine R.ixp Tryz.underlying22 Tryz.sizeOf45 rfl rfl rfl (by omega) ix3' ?_
                          refine R.ldAt Tryz.isAgg45 Tryz.sizeOf45 rfl rfl .hd rfl hcs3 ?_
                          refine R.ixp Tryz.underlying22 Tryz.sizeOf45 rfl rfl rfl (by omega) (by rw [← hcl]; exact ix5) ?_
                          refine R.stEA (y := y2) (l := [.int .i64 y2.1, .int .i64 y2.2]) Tryz.sizeOf45 rfl hw .hd ix5 rfl rfl rfl ?_
                          intro c51 w51
                          refine TL.nil (Post.thnN ?_)
                          refine T.region ?_
                          refine R.mvE rfl (by conv => lhs; whnf) ?_
                          refine R.addI rfl rfl rfl (by omega) ?_
                          refine R.asE rfl (by conv => lhs; whnf) ?_
                          refine TL.nil (Post.blkN ?_)
                          refine id (Post.thnN ?_)
                          refine T.region ?_
                          refine R.mvE rfl (by conv => lhs; whnf) ?_
                          refine R.addI rfl rfl rfl (by omega) ?_
                          refine R.asE rfl (by conv => lhs; whnf) ?_
                          refine TL.nil (Post.thnN ?_)
                          -- round's end, way ny11yy100y
                          exact ⟨(i + 1, j + 1, cur.set i y2, c51), s_6, ⟨⟨by omega, by show k + (j + 1) ≤ _; omega, by show i + 1 + 1 ≤ k + (j + 1); omega, by rw [List.length_set]; exact hcl⟩, rfl, rfl, by rw [List.length_set]; exact w51, by rw [set_take (by omega), htk, hkj, compact_take hz2 hy2', if_neg c44, hkj1], fun q hq => by rw [List.getElem?_set_ne (by omega)]; exact hrest q (by omega)⟩, by show xs.length - (k + (j + 1)) < xs.length - (k + j); omega, ⟨rfl, rfl, rfl, rfl, trivial⟩⟩
                        · refine T.skip (Post.blkN ?_)
                          refine id (Post.thnN ?_)
                          refine T.region ?_
                          refine R.mvE rfl (by conv => lhs; whnf) ?_
                          refine R.addI rfl rfl rfl (by omega) ?_
                          refine R.asE rfl (by conv => lhs; whnf) ?_
                          refine TL.nil (Post.thnN ?_)
                          -- round's end, way ny11yy100n
                          exact ⟨(i, j + 1, cur, [(b3, .cells cs3 45)]), s_6, ⟨⟨by omega, by show k + (j + 1) ≤ _; omega, by show i + 1 ≤ k + (j + 1); omega, hcl⟩, rfl, rfl, hw, by rw [htk, hkj, compact_take hz2 hy2', if_pos (Decidable.of_not_not c44), hkj1], hrest⟩, by show xs.length - (k + (j + 1)) < xs.length - (k + j); omega, ⟨rfl, rfl, rfl, rfl, trivial⟩⟩
                      · refine R.ldAt Tryz.isAgg45 Tryz.sizeOf45 rfl rfl .hd rfl hcs4 ?_
                        refine TL.nil (Plan.e1 (HLe.refl _) ?_)
                        refine Plan.s1 3 [9] (by kernel_rfl) (by kernel_rfl) rfl ?_
                        refine R.ldAt Tryz.isAgg45 Tryz.sizeOf45 rfl rfl .hd rfl hcs3 ?_
                        refine TL.nil (Plan.e1 (HLe.refl _) ?_)
                        refine Plan.v 9 [] (by kernel_rfl) (by kernel_rfl) (by kernel_rfl) (by kernel_rfl) rfl (fun _ _ h_ => R.neP (a := y2) (b := z2) Tryzc_eqP Tryzc_eqG rfl rfl rfl (TL.nil h_)) ?_
                        refine Plan.done (Post.thnN ?_)
                        refine T.condD rfl (fun c44 => ?_) (fun c44 => ?_)
                        · refine T.seq ?_
                          refine T.region ?_
                          refine R.mvE rfl (by conv => lhs; whnf) ?_
                          refine R.mvE rfl (by conv => lhs; whnf) ?_
                          refine R.mvE rfl (by conv => lhs; whnf) ?_
                          refine R.mvE rfl (by conv => lhs; whnf) ?_
                          refine R.ixp Tryz.underlying22 Tryz.sizeOf45 rfl rfl rfl (by omega) ix3' ?_
                          refine R.ldAt Tryz.isAgg45 Tryz.sizeOf45 rfl rfl .hd rfl hcs3 ?_
                          refine R.ixp Tryz.underlying22 Tryz.sizeOf45 rfl rfl rfl (by omega) (by rw [← hcl]; exact ix5) ?_
                          refine R.stEA (y := y2) (l := [.int .i64 y2.1, .int .i64 y2.2]) Tryz.sizeOf45 rfl hw .hd ix5 rfl rfl rfl ?_
                          intro c51 w51
                          refine TL.nil (Post.thnN ?_)
                          refine T.region ?_
                          refine R.mvE rfl (by conv => lhs; whnf) ?_
                          refine R.addI rfl rfl rfl (by omega) ?_
                          refine R.asE rfl (by conv => lhs; whnf) ?_
                          refine TL.nil (Post.blkN ?_)
                          refine id (Post.thnN ?_)
                          refine T.region ?_
                          refine R.mvE rfl (by conv => lhs; whnf) ?_
                          refine R.addI rfl rfl rfl (by omega) ?_
                          refine R.asE rfl (by conv => lhs; whnf) ?_
                          refine TL.nil (Post.thnN ?_)
                          -- round's end, way ny11yy101y
                          exact ⟨(i + 1, j + 1, cur.set i y2, c51), s_6, ⟨⟨by omega, by show k + (j + 1) ≤ _; omega, by show i + 1 + 1 ≤ k + (j + 1); omega, by rw [List.length_set]; exact hcl⟩, rfl, rfl, by rw [List.length_set]; exact w51, by rw [set_take (by omega), htk, hkj, compact_take hz2 hy2', if_neg c44, hkj1], fun q hq => by rw [List.getElem?_set_ne (by omega)]; exact hrest q (by omega)⟩, by show xs.length - (k + (j + 1)) < xs.length - (k + j); omega, ⟨rfl, rfl, rfl, rfl, trivial⟩⟩
                        · refine T.skip (Post.blkN ?_)
                          refine id (Post.thnN ?_)
                          refine T.region ?_
                          refine R.mvE rfl (by conv => lhs; whnf) ?_
                          refine R.addI rfl rfl rfl (by omega) ?_
                          refine R.asE rfl (by conv => lhs; whnf) ?_
                          refine TL.nil (Post.thnN ?_)
                          -- round's end, way ny11yy101n
                          exact ⟨(i, j + 1, cur, [(b3, .cells cs3 45)]), s_6, ⟨⟨by omega, by show k + (j + 1) ≤ _; omega, by show i + 1 ≤ k + (j + 1); omega, hcl⟩, rfl, rfl, hw, by rw [htk, hkj, compact_take hz2 hy2', if_pos (Decidable.of_not_not c44), hkj1], hrest⟩, by show xs.length - (k + (j + 1)) < xs.length - (k + j); omega, ⟨rfl, rfl, rfl, rfl, trivial⟩⟩
                    · refine R.ldAt Tryz.isAgg45 Tryz.sizeOf45 rfl rfl .hd rfl hcs4 ?_
                      refine TL.nil (Plan.e1 (HLe.refl _) ?_)
                      refine Plan.s1 2 [3, 9] (by kernel_rfl) (by kernel_rfl) rfl ?_
                      refine R.ixp Tryz.underlying22 Tryz.sizeOf45 rfl rfl rfl (by omega) ix3' ?_
                      refine TL.nil (Plan.e1 (HLe.refl _) ?_)
                      refine Plan.s1 3 [9] (by kernel_rfl) (by kernel_rfl) rfl ?_
                      refine R.ldAt Tryz.isAgg45 Tryz.sizeOf45 rfl rfl .hd rfl hcs3 ?_
                      refine TL.nil (Plan.e1 (HLe.refl _) ?_)
                      refine Plan.v 9 [] (by kernel_rfl) (by kernel_rfl) (by kernel_rfl) (by kernel_rfl) rfl (fun _ _ h_ => R.neP (a := y2) (b := z2) Tryzc_eqP Tryzc_eqG rfl rfl rfl (TL.nil h_)) ?_
                      refine Plan.done (Post.thnN ?_)
                      refine T.condD rfl (fun c44 => ?_) (fun c44 => ?_)
                      · refine T.seq ?_
                        refine T.region ?_
                        refine R.mvE rfl (by conv => lhs; whnf) ?_
                        refine R.mvE rfl (by conv => lhs; whnf) ?_
                        refine R.mvE rfl (by conv => lhs; whnf) ?_
                        refine R.mvE rfl (by conv => lhs; whnf) ?_
                        refine R.ixp Tryz.underlying22 Tryz.sizeOf45 rfl rfl rfl (by omega) ix3' ?_
                        refine R.ldAt Tryz.isAgg45 Tryz.sizeOf45 rfl rfl .hd rfl hcs3 ?_
                        refine R.ixp Tryz.underlying22 Tryz.sizeOf45 rfl rfl rfl (by omega) (by rw [← hcl]; exact ix5) ?_
                        refine R.stEA (y := y2) (l := [.int .i64 y2.1, .int .i64 y2.2]) Tryz.sizeOf45 rfl hw .hd ix5 rfl rfl rfl ?_
                        intro c51 w51
                        refine TL.nil (Post.thnN ?_)
                        refine T.region ?_
                        refine R.mvE rfl (by conv => lhs; whnf) ?_
                        refine R.addI rfl rfl rfl (by omega) ?_
                        refine R.asE rfl (by conv => lhs; whnf) ?_
                        refine TL.nil (Post.blkN ?_)
                        refine id (Post.thnN ?_)
                        refine T.region ?_
                        refine R.mvE rfl (by conv => lhs; whnf) ?_
                        refine R.addI rfl rfl rfl (by omega) ?_
                        refine R.asE rfl (by conv => lhs; whnf) ?_
                        refine TL.nil (Post.thnN ?_)
                        -- round's end, way ny11yy11y
                        exact ⟨(i + 1, j + 1, cur.set i y2, c51), s_6, ⟨⟨by omega, by show k + (j + 1) ≤ _; omega, by show i + 1 + 1 ≤ k + (j + 1); omega, by rw [List.length_set]; exact hcl⟩, rfl, rfl, by rw [List.length_set]; exact w51, by rw [set_take (by omega), htk, hkj, compact_take hz2 hy2', if_neg c44, hkj1], fun q hq => by rw [List.getElem?_set_ne (by omega)]; exact hrest q (by omega)⟩, by show xs.length - (k + (j + 1)) < xs.length - (k + j); omega, ⟨rfl, rfl, rfl, rfl, trivial⟩⟩
                      · refine T.skip (Post.blkN ?_)
                        refine id (Post.thnN ?_)
                        refine T.region ?_
                        refine R.mvE rfl (by conv => lhs; whnf) ?_
                        refine R.addI rfl rfl rfl (by omega) ?_
                        refine R.asE rfl (by conv => lhs; whnf) ?_
                        refine TL.nil (Post.thnN ?_)
                        -- round's end, way ny11yy11n
                        exact ⟨(i, j + 1, cur, [(b3, .cells cs3 45)]), s_6, ⟨⟨by omega, by show k + (j + 1) ≤ _; omega, by show i + 1 ≤ k + (j + 1); omega, hcl⟩, rfl, rfl, hw, by rw [htk, hkj, compact_take hz2 hy2', if_pos (Decidable.of_not_not c44), hkj1], hrest⟩, by show xs.length - (k + (j + 1)) < xs.length - (k + j); omega, ⟨rfl, rfl, rfl, rfl, trivial⟩⟩
                · have hje : k + j = xs.length := by omega
                  rw [hje, List.take_length] at htk
                  have hil : (cur.take i).length = i := by simp; omega
                  refine T.exit (Post.thnE (Post.thnE (Post.blkX ?_)))
                  refine id (Post.thnN ?_)
                  refine T.seq ?_
                  refine T.region ?_
                  refine R.mvE rfl (by conv => lhs; whnf) ?_
                  refine R.mvE rfl (by conv => lhs; whnf) ?_
                  refine R.sL Tryz.underlying22 Tryz.sizeOf45 rfl rfl rfl (by omega) (by omega) ?_
                  refine R.clr (dd := none) (xs := cur.take i) Tryz_ty22 (zone_of (z := .agg #[.int .i64 0, .int .i64 0]) (by kernel_rfl) (by intro v hv; simp [Value.cells] at hv; rcases hv with rfl | rfl <;> rfl)) rfl (fun q h => by cases h) (m := xs.length) (by rw [hil]; rfl) (by rw [hil]; exact own_take0 hw (by omega)) .hd (by omega) (by omega) ?_
                  intro c57 w57
                  refine TL.nil (Post.thnN ?_)
                  refine T.seq ?_
                  refine T.region ?_
                  refine R.mvE rfl (by conv => lhs; whnf) ?_
                  refine R.mvE rfl (by conv => lhs; whnf) ?_
                  refine R.sH Tryz.underlying22 Tryz.sizeOf45 rfl rfl rfl (by omega) (by omega) ?_
                  refine R.asE rfl (by conv => lhs; whnf) ?_
                  refine TL.nil (Post.thnN ?_)
                  refine T.ret (Post.blkR (Post.thnR (Post.thnR (Post.blkR (Post.thnR ?_)))))
                  -- way ny11yn
                  refine fin1L [c57] rfl rfl (List.Sublist.refl _) ⟨_, rfl, ?_⟩
                  show OwnS pairE 45 _ (slcV (.slice A xs.length cap) 0 i cap 2) (compactL xs) c57
                  rw [slc_take0, ← htk]
                  rw [hil] at w57
                  exact w57
            · refine T.skip (Post.blkN ?_)
              refine id (Post.thnN ?_)
              refine T.region ?_
              refine R.mvE rfl (by conv => lhs; whnf) ?_
              refine R.addI rfl rfl rfl (by omega) ?_
              refine R.asE rfl (by conv => lhs; whnf) ?_
              refine TL.nil (Post.thnN ?_)
              -- round's end, way ny11n
              exact ⟨k + 1, s_0, ⟨⟨by omega, by omega⟩, rfl, rfl, by rw [show k + 1 = (k - 1) + 2 by omega, compact_take hz hy1, if_neg c25, show k - 1 + 1 = k by omega, hco, show k - 1 + 2 = k + 1 by omega, take_snoc _ _ _ hy]⟩, by omega, ⟨rfl, rfl, trivial⟩⟩
      · have hkx : k = xs.length := by omega
        rw [hkx, List.take_length] at hco
        refine T.exit (Post.thnE (Post.thnE (Post.blkX ?_)))
        refine id (Post.thnN ?_)
        refine T.seq ?_
        refine T.region ?_
        refine R.mvE rfl (by conv => lhs; whnf) ?_
        refine R.asE rfl (by conv => lhs; whnf) ?_
        refine TL.nil (Post.thnN ?_)
        refine T.ret ?_
        -- way nn
        exact fin1L [ch] rfl rfl (List.Sublist.refl _) ⟨_, rfl, by rw [hco]; exact ho⟩


set_option maxHeartbeats 1600000 in
theorem indexFP_c (H : Heap) (v fv : Value) (xs : List Lk) (p : Lk → Bool) (hr : RdS pairE H v xs) (hp : ∀ H', HLe H H' → ∀ y : Lk, Fv Tryz.prog fv [.agg #[.int .i64 y.1, .int .i64 y.2]] H' (.bool (p y))) : Fv Tryz.prog (fnv 75) [v, fv] H (.int .i64 (fidxI p xs)) := by
  refine Fc.of_body (N := 19) Tryz.func75 rfl (by kernel_rfl) rfl rfl ?_
  intro w0
  obtain ⟨A, c, rfl, hc1, hc2, hr⟩ := hr.shape
  refine T.seq ?_
  refine T.region ?_
  refine R.asE rfl (by conv => lhs; whnf) ?_
  refine TL.nil (Post.thnN ?_)
  refine T.seq ?_
  refine T.seq ?_
  refine T.region ?_
  refine R.mvE rfl (by conv => lhs; whnf) ?_
  refine R.len Tryz.underlying22 rfl rfl ?_
  refine R.mvE rfl (by conv => lhs; whnf) ?_
  refine TL.nil (Post.thnN ?_)
  refine T.block ?_
  refine T.loop (ι := Nat) (fun k H' L' ds' => k ≤ xs.length ∧ ∀ (j : Nat) z, j < k → xs[j]? = some z → p z = false) (fun k => [(0, .slice A xs.length c), (1, fv), (7, .int .i64 xs.length), (8, .int .i64 k)]) (fun k => xs.length - k) (0) ?_ ?_ ?_
  · exact ⟨Nat.zero_le _, fun j z h => absurd h (by omega)⟩
  · exact ⟨rfl, rfl, rfl, rfl, trivial⟩
  · intro k σ0 H_0 L_0 ds_0 s_0 hI_0
    obtain ⟨hk, hw⟩ := hI_0
    refine T.seq ?_
    refine T.region ?_
    refine R.lss rfl rfl rfl ?_
    refine TL.nil (Post.thnN ?_)
    refine T.seq ?_
    refine T.condD rfl (fun c9 => ?_) (fun c9 => ?_)
    · have hlt : k < xs.length := by omega
      obtain ⟨a, hx⟩ := getk hlt
      refine T.skip (Post.thnN ?_)
      refine T.seq ?_
      refine T.block ?_
      refine T.seq ?_
      refine T.region ?_
      refine R.mvE rfl (by conv => lhs; whnf) ?_
      refine R.asE rfl (by conv => lhs; whnf) ?_
      refine TL.nil (Post.thnN ?_)
      refine T.seq ?_
      refine T.region ?_
      refine R.mvE rfl (by conv => lhs; whnf) ?_
      refine R.mvE rfl (by conv => lhs; whnf) ?_
      refine R.mvE rfl (by conv => lhs; whnf) ?_
      obtain ⟨b14, o14, i14, e14⟩ := (hr.mono s_0).elem (hx)
      refine R.ixp Tryz.underlying22 Tryz.sizeOf45 rfl rfl rfl (by omega) i14 ?_
      refine R.ldP Tryz.isAgg45 Tryz.sizeOf45 rfl rfl (e14) ?_
      refine R.callv rfl rfl rfl (hp _ s_0 a) ?_
      refine TL.nil (Post.thnN ?_)
      refine T.cond rfl (fun c16 => ?_) (fun c16 => ?_)
      · refine T.seq ?_
        refine T.region ?_
        refine R.mvE rfl (by conv => lhs; whnf) ?_
        refine R.asE rfl (by conv => lhs; whnf) ?_
        refine TL.nil (Post.thnN ?_)
        refine T.ret (Post.blkR (Post.thnR (Post.thnR (Post.blkR (Post.thnR ?_)))))
        -- way yy
        exact fin1 rfl rfl ⟨rfl, congrArg (Value.int .i64) (fidxI_at (p := p) hx c16 hw).symm⟩
      · refine T.skip (Post.blkN ?_)
        refine id (Post.thnN ?_)
        refine T.region ?_
        refine R.addI rfl rfl rfl (by omega) ?_
        refine R.mvE rfl (by conv => lhs; whnf) ?_
        refine TL.nil (Post.thnN ?_)
        -- round's end, way yn
        exact ⟨k + 1, s_0, ⟨by omega, fun j z h1 h2 => if e : j = k then by subst e; rw [hx] at h2; injection h2 with h2; subst h2; exact c16 else hw j z (by omega) h2⟩, by omega, ⟨rfl, rfl, rfl, rfl, trivial⟩⟩
    · refine T.exit (Post.thnE (Post.thnE (Post.blkX ?_)))
      refine id (Post.thnN ?_)
      refine T.seq ?_
      refine T.region ?_
      refine R.asE rfl (by conv => lhs; whnf) ?_
      refine TL.nil (Post.thnN ?_)
      refine T.ret ?_
      -- way n
      exact fin1 rfl rfl ⟨rfl, congrArg (Value.int .i64) (fidxI_none (p := p) (fun j z h => hw j z (by have := (List.getElem?_eq_some_iff.1 h).1; omega) h)).symm⟩


set_option maxHeartbeats 1600000 in
theorem containsFP_c (H : Heap) (v fv : Value) (xs : List Lk) (p : Lk → Bool) (hr : RdS pairE H v xs) (hp : ∀ H', HLe H H' → ∀ y : Lk, Fv Tryz.prog fv [.agg #[.int .i64 y.1, .int .i64 y.2]] H' (.bool (p y))) : Fv Tryz.prog (fnv 28) [v, fv] H (.bool (xs.any p)) := by
  refine Fc.of_body (N := 9) Tryz.func28 rfl (by kernel_rfl) rfl rfl ?_
  intro w0
  refine T.seq ?_
  refine T.region ?_
  refine R.asE rfl (by conv => lhs; whnf) ?_
  refine TL.nil (Post.thnN ?_)
  refine T.seq ?_
  refine T.region ?_
  refine R.mvE rfl (by conv => lhs; whnf) ?_
  refine R.mvE rfl (by conv => lhs; whnf) ?_
  refine R.callv rfl rfl rfl (indexFP_c _ _ _ _ p hr hp) ?_
  refine R.geq rfl rfl rfl ?_
  refine R.asE rfl (by conv => lhs; whnf) ?_
  refine TL.nil (Post.thnN ?_)
  refine T.ret ?_
  exact fin1 rfl rfl ⟨rfl, congrArg Value.bool (by rw [Bool.eq_iff_iff, decide_eq_true_eq]; exact fidxI_ge)⟩


set_option maxHeartbeats 1600000 in
theorem indexP_c (H : Heap) (v : Value) (xs : List Lk) (z : Lk) (hr : RdS pairE H v xs) : Fv Tryz.prog (fnv 84) [v, .agg #[.int .i64 z.1, .int .i64 z.2]] H (.int .i64 (fidxI (fun y => decide (z = y)) xs)) := by
  refine Fc.of_body (N := 19) Tryz.func84 rfl (by kernel_rfl) rfl rfl ?_
  intro w0
  obtain ⟨A, c, rfl, hc1, hc2, hr⟩ := hr.shape
  refine T.seq ?_
  refine T.region ?_
  refine R.box rfl (by conv => lhs; whnf) ?_
  intro b3
  refine R.asE rfl (by conv => lhs; whnf) ?_
  refine TL.nil (Post.thnN ?_)
  refine T.seq ?_
  refine T.seq ?_
  refine T.shut .hd ?_
  intro H3 s3 q3
  have h3 : H3 b3 = some (.cells #[.int .i64 z.1, .int .i64 z.2] 45) := shut1 q3
  refine T.region ?_
  refine R.mvE rfl (by conv => lhs; whnf) ?_
  refine R.len Tryz.underlying22 rfl rfl ?_
  refine R.mvE rfl (by conv => lhs; whnf) ?_
  refine TL.nil (Post.thnN ?_)
  refine T.block ?_
  refine T.loop (ι := Nat) (fun k H' L' ds' => k ≤ xs.length ∧ L' = [] ∧ ds' = [] ∧ ∀ (j : Nat) y, j < k → xs[j]? = some y → decide (z = y) = false) (fun k => [(0, .slice A xs.length c), (3, .pointer (some ⟨b3, 0, none⟩)), (7, .int .i64 xs.length), (8, .int .i64 k)]) (fun k => xs.length - k) (0) ?_ ?_ ?_
  · exact ⟨Nat.zero_le _, rfl, rfl, fun j z h => absurd h (by omega)⟩
  · exact ⟨rfl, rfl, rfl, rfl, trivial⟩
  · intro k σ0 H_0 L_0 ds_0 s_0 hI_0
    obtain ⟨hk, rfl, rfl, hw⟩ := hI_0
    refine T.seq ?_
    refine T.region ?_
    refine R.lss rfl rfl rfl ?_
    refine TL.nil (Post.thnN ?_)
    refine T.seq ?_
    refine T.condD rfl (fun c9 => ?_) (fun c9 => ?_)
    · have hlt : k < xs.length := by omega
      obtain ⟨a, hx⟩ := getk hlt
      refine T.skip (Post.thnN ?_)
      refine T.seq ?_
      refine T.block ?_
      refine T.seq ?_
      refine T.region ?_
      refine R.mvE rfl (by conv => lhs; whnf) ?_
      refine R.asE rfl (by conv => lhs; whnf) ?_
      refine TL.nil (Post.thnN ?_)
      refine T.seq ?_
      refine T.draw Tryz_mixed (by kernel_rfl) ?_
      refine Plan.v 0 [1, 2, 3, 4, 5] (by kernel_rfl) (by kernel_rfl) (by kernel_rfl) (by kernel_rfl) rfl (fun _ _ h_ => R.ldAH Tryz.isAgg45 Tryz.sizeOf45 rfl rfl rfl (s_0 _ _ h3) (TL.nil h_)) ?_
      refine Plan.v 1 [2, 3, 4, 5] (by kernel_rfl) (by kernel_rfl) (by kernel_rfl) (by kernel_rfl) rfl (fun _ _ h_ => R.mvE rfl (by conv => lhs; whnf) (TL.nil h_)) ?_
      refine Plan.v 2 [3, 4, 5] (by kernel_rfl) (by kernel_rfl) (by kernel_rfl) (by kernel_rfl) rfl (fun _ _ h_ => R.mvE rfl (by conv => lhs; whnf) (TL.nil h_)) ?_
      obtain ⟨b14, o14, i14, e14⟩ := ((hr.mono s3).mono s_0).elem (hx)
      refine Plan.v 3 [4, 5] (by kernel_rfl) (by kernel_rfl) (by kernel_rfl) (by kernel_rfl) rfl (fun _ _ h_ => R.ixp Tryz.underlying22 Tryz.sizeOf45 rfl rfl rfl (by omega) i14 (TL.nil h_)) ?_
      refine Plan.v 4 [5] (by kernel_rfl) (by kernel_rfl) (by kernel_rfl) (by kernel_rfl) rfl (fun _ _ h_ => R.ldP Tryz.isAgg45 Tryz.sizeOf45 rfl rfl (e14) (TL.nil h_)) ?_
      refine Plan.v 5 [] (by kernel_rfl) (by kernel_rfl) (by kernel_rfl) (by kernel_rfl) rfl (fun _ _ h_ => R.eqP (a := z) (b := a) Tryzc_eqP Tryzc_eqG rfl rfl rfl (TL.nil h_)) ?_
      refine Plan.done (Post.thnN ?_)
      refine T.condD rfl (fun c16 => ?_) (fun c16 => ?_)
      · refine T.seq ?_
        refine T.region ?_
        refine R.mvE rfl (by conv => lhs; whnf) ?_
        refine R.asE rfl (by conv => lhs; whnf) ?_
        refine TL.nil (Post.thnN ?_)
        refine T.ret (Post.blkR (Post.thnR (Post.thnR (Post.blkR (Post.thnR ?_)))))
        -- way yy
        exact fin1 rfl rfl ⟨rfl, congrArg (Value.int .i64) (fidxI_at (p := fun y => decide (z = y)) hx (decide_eq_true c16) hw).symm⟩
      · refine T.skip (Post.blkN ?_)
        refine id (Post.thnN ?_)
        refine T.region ?_
        refine R.addI rfl rfl rfl (by omega) ?_
        refine R.mvE rfl (by conv => lhs; whnf) ?_
        refine TL.nil (Post.thnN ?_)
        -- round's end, way yn
        exact ⟨k + 1, s_0, ⟨by omega, rfl, rfl, fun j z h1 h2 => if e : j = k then by subst e; rw [hx] at h2; injection h2 with h2; subst h2; exact decide_eq_false c16 else hw j z (by omega) h2⟩, by omega, ⟨rfl, rfl, rfl, rfl, trivial⟩⟩
    · refine T.exit (Post.thnE (Post.thnE (Post.blkX ?_)))
      refine id (Post.thnN ?_)
      refine T.seq ?_
      refine T.region ?_
      refine R.asE rfl (by conv => lhs; whnf) ?_
      refine TL.nil (Post.thnN ?_)
      refine T.ret ?_
      -- way n
      exact fin1 rfl rfl ⟨rfl, congrArg (Value.int .i64) (fidxI_none (p := fun y => decide (z = y)) (fun j z h => hw j z (by have := (List.getElem?_eq_some_iff.1 h).1; omega) h)).symm⟩


set_option maxHeartbeats 1600000 in
theorem containsP_c (H : Heap) (v : Value) (xs : List Lk) (z : Lk) (hr : RdS pairE H v xs) : Fv Tryz.prog (fnv 34) [v, .agg #[.int .i64 z.1, .int .i64 z.2]] H (.bool (xs.any (fun y => decide (z = y)))) := by
  refine Fc.of_body (N := 9) Tryz.func34 rfl (by kernel_rfl) rfl rfl ?_
  intro w0
  refine T.seq ?_
  refine T.region ?_
  refine R.box rfl (by conv => lhs; whnf) ?_
  intro b3
  refine R.asE rfl (by conv => lhs; whnf) ?_
  refine TL.nil (Post.thnN ?_)
  refine T.seq ?_
  refine T.shut .hd ?_
  intro H3 s3 q3
  have h3 : H3 b3 = some (.cells #[.int .i64 z.1, .int .i64 z.2] 45) := shut1 q3
  refine T.region ?_
  refine R.mvE rfl (by conv => lhs; whnf) ?_
  refine R.ldAH Tryz.isAgg45 Tryz.sizeOf45 rfl rfl rfl h3 ?_
  refine R.callv rfl rfl rfl (indexP_c _ _ _ z (hr.mono s3)) ?_
  refine R.geq rfl rfl rfl ?_
  refine R.asE rfl (by conv => lhs; whnf) ?_
  refine TL.nil (Post.thnN ?_)
  refine T.ret ?_
  exact fin1 rfl rfl ⟨rfl, congrArg Value.bool (by rw [Bool.eq_iff_iff, decide_eq_true_eq]; exact fidxI_ge)⟩


set_option maxHeartbeats 1600000 in
theorem of_c (H : Heap) (v : Value) (xs : List Lk) (hr : RdS pairE H v xs) (hl : xs.length ≤ 100000) : Fp Tryz.prog (fnv 42) [v] H (fun v' H' => ∃ w, v' = .tuple #[w, .int .i64 (ofR xs).2] ∧ RdS pairE H' w (ofR xs).1) := by
  refine Fc.of_body (N := 15) Tryz.func42 rfl (by kernel_rfl) rfl rfl ?_
  intro w0
  obtain ⟨A, c, rfl, hc1, hc2, hr⟩ := hr.shape
  have hol := ofP_len xs
  refine T.seq ?_
  refine T.region ?_
  refine R.asE rfl (by conv => lhs; whnf) ?_
  refine R.asE rfl (by conv => lhs; whnf) ?_
  refine TL.nil (Post.thnN ?_)
  refine T.seq ?_
  refine T.seq ?_
  refine T.region ?_
  refine R.mvE rfl (by conv => lhs; whnf) ?_
  refine R.callv rfl rfl rfl (containsFP_c _ _ _ _ (fun y => !linkB y) hr (fun H2 h2 y => of1_c H2 y)) ?_
  refine TL.nil (Post.thnN ?_)
  refine T.cond rfl (fun c6 => ?_) (fun c6 => ?_)
  · have hal : xs.all linkB = false := by have := not_all (xs := xs); rw [c6] at this; unfold allLink at this; cases h : xs.all linkB with
      | false => rfl
      | true => rw [h] at this; cases this
    have hR : ofR xs = ([], 2) := by unfold ofR; rw [if_neg (by rw [hal]; simp)]
    refine T.seq ?_
    refine T.region ?_
    refine R.asE rfl (by conv => lhs; whnf) ?_
    refine R.asE rfl (by conv => lhs; whnf) ?_
    refine TL.nil (Post.thnN ?_)
    refine T.ret (Post.thnR ?_)
    -- way y
    exact fin2 rfl rfl rfl ⟨rfl, _, by rw [hR]; rfl, by rw [hR]; exact RdS.nil⟩
  · have hal : xs.all linkB = true := by have := not_all (xs := xs); rw [c6] at this; unfold allLink at this; cases h : xs.all linkB with
      | true => rfl
      | false => rw [h] at this; cases this
    have hR : ofR xs = (ofP xs, 0) := by unfold ofR; rw [if_pos hal, if_pos (by omega)]
    refine T.skip (Post.thnN ?_)
    refine T.seq ?_
    refine T.region ?_
    refine R.mvE rfl (by conv => lhs; whnf) ?_
    refine R.callp rfl rfl rfl (values_c _ _ _ hr) ?_
    intro v8 H8 s8 q8
    obtain ⟨lb, rfl, hit⟩ := q8
    refine TL.call [] rfl rfl rfl (sortedF_c _ _ lb xs (enters_of Tryz.func158 (by kernel_rfl) rfl) hl hit) ?_
    intro v9 H9 L9 s9 q9
    obtain ⟨c9, rfl, w9⟩ := q9
    refine TL.call [true] rfl rfl rfl (compactP_c _ _ _ c9 w9) ?_
    intro v10 H10 L10 s10 q10
    obtain ⟨c10, rfl, w10⟩ := q10
    rw [of_eq] at w10
    refine TL.shut .hd ?_
    intro HW sW qW
    have hw := w10.read sW qW
    obtain ⟨Aw, kw, rfl, mw, nw, hw⟩ := hw.shape
    refine R.asE rfl (by conv => lhs; whnf) ?_
    refine TL.nil (Post.thnN ?_)
    refine T.seq ?_
    refine T.seq ?_
    refine T.region ?_
    refine R.mvE rfl (by conv => lhs; whnf) ?_
    refine R.len Tryz.underlying22 rfl rfl ?_
    refine R.gtr rfl rfl rfl ?_
    refine TL.nil (Post.thnN ?_)
    refine T.set 13 (.bool false) (congrArg Value.bool (decide_eq_false (by omega))) ?_
    refine T.condN rfl ?_
    refine T.skip (Post.thnN ?_)
    refine T.seq ?_
    refine T.region ?_
    refine R.mvE rfl (by conv => lhs; whnf) ?_
    refine R.asE rfl (by conv => lhs; whnf) ?_
    refine R.asE rfl (by conv => lhs; whnf) ?_
    refine TL.nil (Post.thnN ?_)
    refine T.ret ?_
    -- way n
    exact fin2 rfl rfl rfl ⟨rfl, _, by rw [hR]; rfl, by rw [hR]; exact hw⟩

end Go.SX

set_option linter.unusedVariables false
set_option linter.unusedSimpArgs false
namespace Go.SX
open Go Go.Proofs

set_option maxHeartbeats 1600000 in
theorem wavesIt_c (H : Heap) (bf bn : Nat) (u fv : Value) (first uni : List Int) (f : Int → List Int) (hbf : H bf = some (.cells #[u] 24)) (hbn : H bn = some (.cells #[fv] 100)) (hr : RdS (intE .i64) H u first) (hfv : StepF Tryz.prog fv f H) (huni : ∀ v, ∀ w ∈ f v, w ∈ uni) (hl : uni.length ≤ 2000) (hl2 : first.length ≤ 2000) : Iter Tryz.prog (.func (.func 139) #[] ([.pointer (some ⟨bf, 0, none⟩), .pointer (some ⟨bn, 0, none⟩)] : List Value).toArray) YV H (wavesW f uni.length first) := by
  obtain ⟨A, c, rfl, hc1, hc2, hr⟩ := hr.shape
  intro l J Jx H1 Lc hle hJ hJx hY h0
  refine Fc.of_body (N := 55) Tryz.func139 rfl (by kernel_rfl) rfl rfl ?_
  intro w0
  refine T.seq ?_
  refine T.region ?_
  refine R.mkm rfl ?_
  intro b14
  refine R.alloc Tryz.zeroValue157 rfl ?_
  intro b4
  refine R.st Tryz.sizeOf157 rfl rfl (by conv => lhs; whnf) rfl (by first | exact .hd | exact .tl .hd | exact .tl (.tl .hd) | exact .tl (.tl (.tl .hd)) | exact .tl (.tl (.tl (.tl .hd))) | exact .tl (.tl (.tl (.tl (.tl .hd)))) | exact .tl (.tl (.tl (.tl (.tl (.tl .hd))))) | exact .tl (.tl (.tl (.tl (.tl (.tl (.tl .hd)))))) | exact .tl (.tl (.tl (.tl (.tl (.tl (.tl (.tl .hd))))))) | exact .tl (.tl (.tl (.tl (.tl (.tl (.tl (.tl (.tl .hd))))))))) ?_
  refine TL.nil (Post.thnN ?_)
  refine T.seq ?_
  refine T.region ?_
  refine R.alloc Tryz.zeroValue24 rfl ?_
  intro b5
  refine TL.nil (Post.thnN ?_)
  refine T.seq ?_
  refine T.shut (.tl .hd) ?_
  intro H4 s4 q4
  have h4 : H4 b4 = some (.cells #[.map (some b14)] 157) := shut1 q4
  refine T.permL (L' := [(b5, .cells #[.slice none 0 0] 24)] :: [] :: [(b14, .map #[] 0)] :: Lc) (List.Perm.refl _) ?_
  refine T.region ?_
  refine R.mkf (cs := [_, _]) rfl rfl ?_
  refine R.asE rfl (by conv => lhs; whnf) ?_
  refine TL.nil (Post.thnN ?_)
  refine T.seq ?_
  refine T.seq ?_
  refine T.region ?_
  refine R.ldH Tryz.isAgg24 rfl rfl (s4 _ _ (hle _ _ hbf)) rfl ?_
  refine R.len Tryz.underlying24 rfl rfl ?_
  refine R.mvE rfl (by conv => lhs; whnf) ?_
  refine TL.nil (Post.thnN ?_)
  refine T.block ?_
  refine T.loop (ι := Nat × Value × Chunk × Array MapEntry × Nat × MapL) (fun ⟨k, vw, cw, es, ck, m⟩ H' L' ds' => k ≤ first.length ∧ ds' = [] ∧ L' = [(b5, .cells #[vw] 24)] :: cw :: [(b14, .map es ck)] :: Lc ∧ MapIs .i64 es m ∧ MetIs m (meetL (first.take k) ([], [])).1 ∧ OwnS (intE .i64) 3 H' vw (meetL (first.take k) ([], [])).2 cw ∧ J [] H' Lc) (fun ⟨k, vw, cw, es, ck, m⟩ => [(0, yieldv l), (2, .pointer (some ⟨bn, 0, none⟩)), (5, .pointer (some ⟨b5, 0, none⟩)), (6, (.func (.func 140) #[] ([.pointer (some ⟨b4, 0, none⟩), .pointer (some ⟨b5, 0, none⟩)] : List Value).toArray)), (16, .slice A first.length c), (17, .int .i64 first.length), (18, .int .i64 k)]) (fun ⟨k, vw, cw, es, ck, m⟩ => first.length - k) ((0, .slice none 0 0, [], #[], 0, [])) ?_ ?_ ?_
  · exact ⟨Nat.zero_le _, rfl, rfl, mapIs_nil _, MetIs.nil, OwnS.nil, hJ _ _ _ _ s4 h0⟩
  · exact ⟨rfl, rfl, rfl, rfl, rfl, rfl, rfl, trivial⟩
  · intro ⟨k, vw, cw, es, ck, m⟩ σ0 H_0 L_0 ds_0 s_0 hI_0
    obtain ⟨hk, rfl, rfl, hm, hM, ho, hJ1⟩ := hI_0
    refine T.seq ?_
    refine T.region ?_
    refine R.lss rfl rfl rfl ?_
    refine TL.nil (Post.thnN ?_)
    refine T.seq ?_
    refine T.condD rfl (fun c19 => ?_) (fun c19 => ?_)
    · have hlt : k < first.length := by omega
      obtain ⟨x, hx⟩ := getk hlt
      refine T.skip (Post.thnN ?_)
      refine T.seq ?_
      refine T.block ?_
      refine T.seq ?_
      refine T.region ?_
      obtain ⟨b20, o20, i20, e20⟩ := (((hr.mono hle).mono s4).mono s_0).elem (hx)
      refine R.ixp Tryz.underlying24 Tryz.sizeOf3 rfl rfl rfl (by omega) i20 ?_
      refine R.ldC Tryz.isAgg3 rfl rfl (e20).int ?_
      refine R.asE rfl (by conv => lhs; whnf) ?_
      refine TL.nil (Post.thnN ?_)
      refine T.region ?_
      refine R.mvE rfl (by conv => lhs; whnf) ?_
      refine R.mvE rfl (by conv => lhs; whnf) ?_
      refine TL.call [true, true, true] rfl rfl rfl (meet_c H_0 b4 b5 b14 es ck m (meetL (first.take k) ([], [])) vw cw x (s_0 _ _ h4) hm hM ho (by have := meetL_len (first.take k) ([], []); simp at this; omega)) ?_
      intro v24 H24 L24 s24 q24
      obtain ⟨vw1, cw1, es1, ck1, m1, rfl, hm1, hM1, ho1⟩ := q24
      refine TL.nil (Post.blkN ?_)
      refine id (Post.thnN ?_)
      refine T.region ?_
      refine R.addI rfl rfl rfl (by omega) ?_
      refine R.mvE rfl (by conv => lhs; whnf) ?_
      refine TL.nil (Post.thnN ?_)
      -- round's end, way y
      exact ⟨(k + 1, vw1, cw1, es1, ck1, m1), s_0.trans s24, ⟨by show k + 1 ≤ _; omega, rfl, rfl, hm1, by rw [meetL_snoc hx]; exact hM1, by rw [meetL_snoc hx]; exact ho1, hJ _ _ _ _ s24 hJ1⟩, by show first.length - (k + 1) < first.length - k; omega, ⟨rfl, rfl, rfl, rfl, rfl, rfl, rfl, trivial⟩⟩
    · refine T.exit (Post.thnE (Post.thnE (Post.blkX ?_)))
      refine id (Post.thnN ?_)
      refine T.block ?_
      refine T.loop (ι := Nat × List (List Int) × MS × Value × Chunk × Array MapEntry × Nat × MapL × Own) (fun ⟨n, pre, s, vw, cw, es, ck, m, Lj⟩ H' L' ds' => ds' = [] ∧ L' = [(b5, .cells #[vw] 24)] :: cw :: [(b14, .map es ck)] :: Lj ∧ VInv f uni first n pre s ∧ MapIs .i64 es m ∧ MetIs m s.1 ∧ OwnS (intE .i64) 3 H' vw s.2 cw ∧ J pre H' Lj) (fun ⟨n, pre, s, vw, cw, es, ck, m, Lj⟩ => [(0, yieldv l), (2, .pointer (some ⟨bn, 0, none⟩)), (5, .pointer (some ⟨b5, 0, none⟩)), (6, (.func (.func 140) #[] ([.pointer (some ⟨b4, 0, none⟩), .pointer (some ⟨b5, 0, none⟩)] : List Value).toArray))]) (fun ⟨n, pre, s, vw, cw, es, ck, m, Lj⟩ => n) ((uni.length + first.length + 1, [], meetL first ([], []), vw, cw, es, ck, m, Lc)) ?_ ?_ ?_
      · have hkx : k = first.length := by omega
        rw [hkx, List.take_length] at hM ho
        exact ⟨rfl, rfl, VInv.start f uni first, hm, hM, ho, hJ1⟩
      · exact ⟨rfl, rfl, rfl, rfl, trivial⟩
      · intro ⟨n, pre, s, vw, cw, es, ck, m, Lj⟩ σ1 H_1 L_1 ds_1 s_1 hI_1
        have hh0 : HLe H1 H_0 := s4.trans s_0
        obtain ⟨rfl, rfl, hV, hm, hM, ho, hJ1⟩ := hI_1
        obtain ⟨Aw, kw, hvw, hw1, hw2⟩ := ho.shape
        subst hvw
        refine T.seq ?_
        refine T.seq ?_
        refine T.region ?_
        refine R.ld Tryz.isAgg24 rfl rfl (by repeat (first | exact .hd | refine .tl ?_)) rfl ?_
        refine R.len Tryz.underlying24 rfl rfl ?_
        refine R.gtr rfl rfl rfl ?_
        refine TL.nil (Post.thnN ?_)
        refine T.condD rfl (fun c28 => ?_) (fun c28 => ?_)
        · have hne : s.2 ≠ [] := fun e => by rw [e] at c28; exact absurd c28 (by decide)
          refine T.skip (Post.thnN ?_)
          refine T.block ?_
          refine T.seq ?_
          refine T.region ?_
          refine R.ld Tryz.isAgg24 rfl rfl (by repeat (first | exact .hd | refine .tl ?_)) rfl ?_
          refine TL.call [false, true] rfl rfl rfl (sort_c _ _ s.2 cw ho hne (by have := hV.bnd; omega)) ?_
          intro v30 H30 L30 s30 q30
          obtain ⟨rfl, c30, rfl, w30⟩ := q30
          refine TL.shut .hd ?_
          intro HS sS qS
          have g30 := w30.read sS qS
          have hsl : (sortI s.2).length = s.2.length := (sortI_perm s.2).length_eq
          refine TL.nil (Post.thnN ?_)
          refine T.seq ?_
          refine T.region ?_
          refine R.ld Tryz.isAgg24 rfl rfl (by repeat (first | exact .hd | refine .tl ?_)) rfl ?_
          refine R.asE rfl (by conv => lhs; whnf) ?_
          refine TL.nil (Post.thnN ?_)
          refine T.seq ?_
          refine T.seq ?_
          refine T.region ?_
          refine R.mvE rfl (by conv => lhs; whnf) ?_
          refine R.mvE rfl (by conv => lhs; whnf) ?_
          refine TL.callT 2 rfl rfl rfl (hY pre (sortI s.2) _ HS Lj (hh0.trans (s_1.trans sS)) (hV.hand hne) (hJ _ _ _ _ sS hJ1) ⟨_, rfl, g30⟩) ?_
          intro v34 H34 L34 s34 q34
          rcases q34 with ⟨rfl, hJ2⟩ | ⟨rfl, hJ2⟩
          · refine R.not rfl rfl ?_
            refine TL.nil (Post.thnN ?_)
            refine T.condN rfl ?_
            refine T.skip (Post.thnN ?_)
            refine T.seq ?_
            refine T.region ?_
            refine R.st Tryz.sizeOf24 rfl rfl (by conv => lhs; whnf) rfl (by first | exact .hd | exact .tl .hd | exact .tl (.tl .hd) | exact .tl (.tl (.tl .hd)) | exact .tl (.tl (.tl (.tl .hd))) | exact .tl (.tl (.tl (.tl (.tl .hd)))) | exact .tl (.tl (.tl (.tl (.tl (.tl .hd))))) | exact .tl (.tl (.tl (.tl (.tl (.tl (.tl .hd)))))) | exact .tl (.tl (.tl (.tl (.tl (.tl (.tl (.tl .hd))))))) | exact .tl (.tl (.tl (.tl (.tl (.tl (.tl (.tl (.tl .hd))))))))) ?_
            refine TL.nil (Post.thnN ?_)
            refine T.seq ?_
            refine T.permL (L' := [(b5, .cells #[.slice none 0 0] 24)] :: [] :: [(b14, .map es ck)] :: L34) (List.Perm.refl _) ?_
            refine T.region ?_
            refine R.mvE rfl (by conv => lhs; whnf) ?_
            refine R.len Tryz.underlying24 rfl rfl ?_
            refine R.mvE rfl (by conv => lhs; whnf) ?_
            refine TL.nil (Post.thnN ?_)
            refine T.block ?_
            refine T.loop (ι := Nat × Value × Chunk × Array MapEntry × Nat × MapL) (fun ⟨j, vw, cw, es, ck, m⟩ H' L' ds' => j ≤ (sortI s.2).length ∧ ds' = [] ∧ L' = [(b5, .cells #[vw] 24)] :: cw :: [(b14, .map es ck)] :: L34 ∧ MapIs .i64 es m ∧ MetIs m (meetA f ((sortI s.2).take j) (s.1, [])).1 ∧ OwnS (intE .i64) 3 H' vw (meetA f ((sortI s.2).take j) (s.1, [])).2 cw ∧ J (pre ++ [(sortI s.2)]) H' L34) (fun ⟨j, vw, cw, es, ck, m⟩ => [(0, yieldv l), (2, .pointer (some ⟨bn, 0, none⟩)), (5, .pointer (some ⟨b5, 0, none⟩)), (6, (.func (.func 140) #[] ([.pointer (some ⟨b4, 0, none⟩), .pointer (some ⟨b5, 0, none⟩)] : List Value).toArray)), (36, .slice Aw s.2.length kw), (37, .int .i64 s.2.length), (38, .int .i64 j)]) (fun ⟨j, vw, cw, es, ck, m⟩ => (sortI s.2).length - j) ((0, .slice none 0 0, [], es, ck, m)) ?_ ?_ ?_
            · exact ⟨Nat.zero_le _, rfl, rfl, hm, hM, OwnS.nil, hJ2⟩
            · exact ⟨rfl, rfl, rfl, rfl, rfl, rfl, rfl, trivial⟩
            · intro ⟨j, vw, cw, es, ck, m⟩ σ2 H_2 L_2 ds_2 s_2 hI_2
              obtain ⟨hj, rfl, rfl, hm, hM, ho, hJ3⟩ := hI_2
              have hh2 : HLe H1 H_2 := hh0.trans (s_1.trans (sS.trans (s34.trans s_2)))
              refine T.seq ?_
              refine T.region ?_
              refine R.lss rfl rfl rfl ?_
              refine TL.nil (Post.thnN ?_)
              refine T.seq ?_
              refine T.condD rfl (fun c39 => ?_) (fun c39 => ?_)
              · have hlt2 : j < (sortI s.2).length := by omega
                obtain ⟨y, hy⟩ := getk hlt2
                refine T.skip (Post.thnN ?_)
                refine T.seq ?_
                refine T.block ?_
                refine T.seq ?_
                refine T.region ?_
                obtain ⟨b40, o40, i40, e40⟩ := ((g30.mono s34).mono s_2).elem (hy)
                refine R.ixp Tryz.underlying24 Tryz.sizeOf3 rfl rfl rfl (by omega) i40 ?_
                refine R.ldC Tryz.isAgg3 rfl rfl (e40).int ?_
                refine R.asE rfl (by conv => lhs; whnf) ?_
                refine TL.nil (Post.thnN ?_)
                refine T.seq ?_
                refine T.region ?_
                refine R.ldH Tryz.isAgg100 rfl rfl (hh2 _ _ (hle _ _ hbn)) rfl ?_
                refine R.mvE rfl (by conv => lhs; whnf) ?_
                refine R.callp rfl rfl rfl (hfv _ (hle.trans hh2) y) ?_
                intro v44 H44 s44 q44
                obtain ⟨A44, c44, rfl, m44, n44, g44⟩ := q44.shape
                refine R.len Tryz.underlying24 rfl rfl ?_
                refine R.mvE rfl (by conv => lhs; whnf) ?_
                refine TL.nil (Post.thnN ?_)
                refine T.block ?_
                refine T.loop (ι := Nat × Value × Chunk × Array MapEntry × Nat × MapL) (fun ⟨i, vw, cw, es, ck, m⟩ H' L' ds' => i ≤ (f y).length ∧ ds' = [] ∧ L' = [(b5, .cells #[vw] 24)] :: cw :: [(b14, .map es ck)] :: L34 ∧ MapIs .i64 es m ∧ MetIs m (meetL ((f y).take i) (meetA f ((sortI s.2).take j) (s.1, []))).1 ∧ OwnS (intE .i64) 3 H' vw (meetL ((f y).take i) (meetA f ((sortI s.2).take j) (s.1, []))).2 cw ∧ J (pre ++ [(sortI s.2)]) H' L34) (fun ⟨i, vw, cw, es, ck, m⟩ => [(0, yieldv l), (2, .pointer (some ⟨bn, 0, none⟩)), (5, .pointer (some ⟨b5, 0, none⟩)), (6, (.func (.func 140) #[] ([.pointer (some ⟨b4, 0, none⟩), .pointer (some ⟨b5, 0, none⟩)] : List Value).toArray)), (36, .slice Aw s.2.length kw), (37, .int .i64 s.2.length), (38, .int .i64 j), (44, .slice A44 (f y).length c44), (45, .int .i64 (f y).length), (46, .int .i64 i)]) (fun ⟨i, vw, cw, es, ck, m⟩ => (f y).length - i) ((0, vw, cw, es, ck, m)) ?_ ?_ ?_
                · exact ⟨Nat.zero_le _, rfl, rfl, hm, hM, ho.mono s44, hJ _ _ _ _ s44 hJ3⟩
                · exact ⟨rfl, rfl, rfl, rfl, rfl, rfl, rfl, rfl, rfl, rfl, trivial⟩
                · intro ⟨i, vw, cw, es, ck, m⟩ σ3 H_3 L_3 ds_3 s_3 hI_3
                  obtain ⟨hi, rfl, rfl, hm, hM, ho, hJ4⟩ := hI_3
                  have hh3 : HLe H4 H_3 := s_0.trans (s_1.trans (sS.trans (s34.trans (s_2.trans (s44.trans s_3)))))
                  refine T.seq ?_
                  refine T.region ?_
                  refine R.lss rfl rfl rfl ?_
                  refine TL.nil (Post.thnN ?_)
                  refine T.seq ?_
                  refine T.condD rfl (fun c47 => ?_) (fun c47 => ?_)
                  · have hlt3 : i < (f y).length := by omega
                    obtain ⟨z, hz⟩ := getk hlt3
                    refine T.skip (Post.thnN ?_)
                    refine T.seq ?_
                    refine T.block ?_
                    refine T.seq ?_
                    refine T.region ?_
                    obtain ⟨b48, o48, i48, e48⟩ := (g44.mono s_3).elem (hz)
                    refine R.ixp Tryz.underlying24 Tryz.sizeOf3 rfl rfl rfl (by omega) i48 ?_
                    refine R.ldC Tryz.isAgg3 rfl rfl (e48).int ?_
                    refine R.asE rfl (by conv => lhs; whnf) ?_
                    refine TL.nil (Post.thnN ?_)
                    refine T.region ?_
                    refine R.mvE rfl (by conv => lhs; whnf) ?_
                    refine R.mvE rfl (by conv => lhs; whnf) ?_
                    refine TL.call [true, true, true] rfl rfl rfl (meet_c H_3 b4 b5 b14 es ck m (meetL ((f y).take i) (meetA f ((sortI s.2).take j) (s.1, []))) vw cw z (hh3 _ _ h4) hm hM ho (by have := meet_len huni (here := (sortI s.2).take j) (ws := (f y).take i) (met := s.1) (fun w hw => huni y w (List.mem_of_mem_take hw)); omega)) ?_
                    intro v52 H52 L52 s52 q52
                    obtain ⟨vw1, cw1, es1, ck1, m1, rfl, hm1, hM1, ho1⟩ := q52
                    refine TL.nil (Post.blkN ?_)
                    refine id (Post.thnN ?_)
                    refine T.region ?_
                    refine R.addI rfl rfl rfl (by omega) ?_
                    refine R.mvE rfl (by conv => lhs; whnf) ?_
                    refine TL.nil (Post.thnN ?_)
                    -- round's end, way nyyyy
                    exact ⟨(i + 1, vw1, cw1, es1, ck1, m1), s_3.trans s52, ⟨by show i + 1 ≤ _; omega, rfl, rfl, hm1, by rw [meetL_snoc hz]; exact hM1, by rw [meetL_snoc hz]; exact ho1, hJ _ _ _ _ s52 hJ4⟩, by show (f y).length - (i + 1) < (f y).length - i; omega, ⟨rfl, rfl, rfl, rfl, rfl, rfl, rfl, rfl, rfl, rfl, trivial⟩⟩
                  · refine T.exit (Post.thnE (Post.thnE (Post.blkX ?_)))
                    refine id (Post.blkN ?_)
                    refine id (Post.thnN ?_)
                    refine T.region ?_
                    refine R.addI rfl rfl rfl (by omega) ?_
                    refine R.mvE rfl (by conv => lhs; whnf) ?_
                    refine TL.nil (Post.thnN ?_)
                    -- round's end, way nyyyn
                    have hix : i = (f y).length := by omega
                    rw [hix, List.take_length] at hM ho
                    exact ⟨(j + 1, vw, cw, es, ck, m), s_2.trans (s44.trans s_3), ⟨by show j + 1 ≤ _; omega, rfl, rfl, hm, by rw [meetA_snoc hy]; exact hM, by rw [meetA_snoc hy]; exact ho, hJ4⟩, by show (sortI s.2).length - (j + 1) < (sortI s.2).length - j; omega, ⟨rfl, rfl, rfl, rfl, rfl, rfl, rfl, trivial⟩⟩
              · refine T.exit (Post.thnE (Post.thnE (Post.blkX ?_)))
                refine id (Post.blkN ?_)
                refine id (Post.thnN ?_)
                -- round's end, way nyyn
                have hjx : j = (sortI s.2).length := by omega
                rw [hjx, List.take_length] at hM ho
                exact ⟨(n - 1, pre ++ [(sortI s.2)], meetA f (sortI s.2) (s.1, []), vw, cw, es, ck, m, L34), s_1.trans (sS.trans (s34.trans s_2)), ⟨rfl, rfl, (hV.go huni hne).1, hm, hM, ho, hJ3⟩, by show n - 1 < n; have := (hV.go huni hne).2; omega, ⟨rfl, rfl, rfl, rfl, trivial⟩⟩
          · refine R.not rfl rfl ?_
            refine TL.nil (Post.thnN ?_)
            refine T.condY rfl ?_
            refine T.ret (Post.thnR (Post.blkR (Post.thnR (Post.blkR ?_))))
            -- way nyn
            exact fin0L L34 rfl ((List.sublist_cons_self _ _).trans (List.sublist_cons_self _ _)) (.inr ⟨_, _, hV.hand hne, hJ2⟩)
        · have hs0 : s.2 = [] := List.length_eq_zero_iff.1 (by omega)
          have hst := hV.stop hs0
          refine T.exit (Post.thnE (Post.thnE (Post.blkX ?_)))
          refine id ?_
          -- way nn
          exact fin0N Lj rfl ((List.sublist_cons_self _ _).trans ((List.sublist_cons_self _ _).trans (List.sublist_cons_self _ _))) (.inl (by rw [hst]; exact hJ1))

end Go.SX

set_option linter.unusedVariables false
set_option linter.unusedSimpArgs false
namespace Go.SX
open Go Go.Proofs

set_option maxHeartbeats 1600000 in
theorem waves_it (H : Heap) (u fv : Value) (first uni : List Int) (f : Int → List Int) (hcf : fv.cells = #[fv]) (hr : RdS (intE .i64) H u first) (hfv : StepF Tryz.prog fv f H) (huni : ∀ v, ∀ w ∈ f v, w ∈ uni) (hl : uni.length ≤ 2000) (hl2 : first.length ≤ 2000) : Fp Tryz.prog (fnv 76) [fv, u] H (fun v' H' => ∃ lb, v' = .func (.func 139) #[] lb ∧ Iter Tryz.prog v' YV H' (wavesW f uni.length first)) := by
  refine Fc.of_body (N := 6) Tryz.func76 rfl (by kernel_rfl) rfl rfl ?_
  intro w0
  have hcf2 := hcf
  obtain ⟨A, c, rfl, hc1, hc2, hr⟩ := hr.shape
  refine T.seq ?_
  refine T.region ?_
  refine R.box (v := fv) rfl rfl ?_
  intro b2
  refine R.box rfl (by conv => lhs; whnf) ?_
  intro b3
  refine R.asE rfl (by conv => lhs; whnf) ?_
  refine TL.nil (Post.thnN ?_)
  refine T.seq ?_
  refine T.shut .hd ?_
  intro H3 s3 q3
  refine T.shut .hd ?_
  intro H2 s2 q2
  refine T.region ?_
  refine R.mkf (cs := [_, _]) rfl rfl ?_
  refine R.asE rfl (by conv => lhs; whnf) ?_
  refine TL.nil (Post.thnN ?_)
  refine T.ret ?_
  exact fin1 rfl rfl ⟨rfl, _, rfl, wavesIt_c H2 b3 b2 _ fv first uni f (s2 _ _ (shut1 q3)) (by rw [← hcf2]; exact shut1 q2) ((hr.mono s3).mono s2) ((hfv.mono s3).mono s2) huni hl hl2⟩


set_option maxHeartbeats 1600000 in
theorem appseq_c (H : Heap) (gf : Nat) (lb : Array Value) (ws : List (List Int)) (hen : Enters Tryz.prog gf) (hl : ws.length ≤ 100000) (hit : Iter Tryz.prog (.func (.func gf) #[] lb) YV H ws) : Fp Tryz.prog (fnv 211) [.slice none 0 0, .func (.func gf) #[] lb] H (fun v' H' => RdS (slE (intE .i64)) H' v' ws) := by
  refine Fc.of_body (N := 13) Tryz.func211 rfl (by kernel_rfl) rfl rfl ?_
  intro w0
  refine T.seq ?_
  refine T.region ?_
  refine R.box rfl (by conv => lhs; whnf) ?_
  intro b2
  refine R.asE rfl (by conv => lhs; whnf) ?_
  refine TL.nil (Post.thnN ?_)
  refine T.seq ?_
  refine T.seq ?_
  refine T.nilc ?_
  refine T.region ?_
  refine R.mvE rfl (by conv => lhs; whnf) ?_
  refine TL.nil (Post.thnN ?_)
  refine T.block ?_
  refine T.rangeFunc rfl rfl hen hit (fun _ _ _ h => by obtain ⟨w, rfl, _⟩ := h; rfl) rfl (fun pre H' L' => ∃ v c, L' = [c, [(b2, .cells #[v] 114)]] ∧ OwnS (slE (intE .i64)) 24 H' v pre c) (fun c pre H' L' => False) (fun pre H H' L hle ⟨v, c, h1, h2⟩ => ⟨v, c, h1, h2.mono hle⟩) (fun _ _ _ _ _ _ h => h) ?_ ?_ ?_ ?_
  · exact ⟨_, _, rfl, OwnS.nil⟩
  · intro l0 r0 w0 pre y vs Hr0 Lr0 sr0 hp0 hI0 hY0
    obtain ⟨v, c, rfl, ho⟩ := hI0
    obtain ⟨w, rfl, hwy⟩ := hY0
    have hpl := hp0.length_le
    simp at hpl
    refine T.region ?_
    refine R.asE rfl (by conv => lhs; whnf) ?_
    refine TL.nil ?_
    refine onlyN.mk ?_
    refine T.block ?_
    refine T.region ?_
    refine R.ld Tryz.isAgg114 rfl rfl (by repeat (first | exact .hd | refine .tl ?_)) rfl ?_
    refine R.mvE rfl (by conv => lhs; whnf) ?_
    refine R.bs rfl (run_buildSlice1 Tryz.underlying114 Tryz.sizeOf24 Tryz.zeroValue24 rfl (by obtain ⟨_, _, e, _⟩ := hwy.shape; subst e; rfl)) ?_
    intro b10
    refine R.app (ys := [y]) Tryz_ty114 rfl rfl rfl ho (.tl .hd) (Src.lit (vs := [w]) .hd) ⟨[_], [], rfl, ⟨_, rfl, hwy⟩, rfl⟩ (by simp; omega) (by simp; omega) ?_
    intro v11 c11 w11
    refine R.st Tryz.sizeOf114 rfl rfl rfl (by obtain ⟨_, _, e, _⟩ := w11.shape; subst e; rfl) (by first | exact .hd | exact .tl .hd | exact .tl (.tl .hd) | exact .tl (.tl (.tl .hd)) | exact .tl (.tl (.tl (.tl .hd))) | exact .tl (.tl (.tl (.tl (.tl .hd)))) | exact .tl (.tl (.tl (.tl (.tl (.tl .hd))))) | exact .tl (.tl (.tl (.tl (.tl (.tl (.tl .hd)))))) | exact .tl (.tl (.tl (.tl (.tl (.tl (.tl (.tl .hd))))))) | exact .tl (.tl (.tl (.tl (.tl (.tl (.tl (.tl (.tl .hd))))))))) ?_
    refine TL.del (.tl .hd) ?_
    refine TL.nil (Post.blkN ?_)
    refine id ?_
    -- way b
    exact ⟨v11, c11, rfl, w11⟩
  · intro D0 Hr0 Lr0 sr0 hI0
    obtain ⟨v, c, rfl, ho⟩ := hI0
    refine id (Post.blkN ?_)
    refine id (Post.thnN ?_)
    refine T.seq ?_
    refine T.shut .hd ?_
    intro HW sW qW
    have hw := ho.read sW qW
    refine T.region ?_
    refine R.ld Tryz.isAgg114 rfl rfl (by repeat (first | exact .hd | refine .tl ?_)) rfl ?_
    refine R.asE rfl (by conv => lhs; whnf) ?_
    refine TL.nil (Post.thnN ?_)
    refine T.ret ?_
    -- way d
    exact fin1 rfl rfl ⟨rfl, hw⟩
  · intro D0 c0 pre y Hr0 Lr0 sr0 hp0 hI0
    exact hI0.elim


set_option maxHeartbeats 1600000 in
theorem collect_c (H : Heap) (gf : Nat) (lb : Array Value) (ws : List (List Int)) (hen : Enters Tryz.prog gf) (hl : ws.length ≤ 100000) (hit : Iter Tryz.prog (.func (.func gf) #[] lb) YV H ws) : Fp Tryz.prog (fnv 194) [.func (.func gf) #[] lb] H (fun v' H' => RdS (slE (intE .i64)) H' v' ws) := by
  refine Fc.of_body (N := 5) Tryz.func194 rfl (by kernel_rfl) rfl rfl ?_
  intro w0
  refine T.seq ?_
  refine T.region ?_
  refine R.asE rfl (by conv => lhs; whnf) ?_
  refine TL.nil (Post.thnN ?_)
  refine T.seq ?_
  refine T.region ?_
  refine R.mvE rfl (by conv => lhs; whnf) ?_
  refine R.callp rfl rfl rfl (appseq_c _ gf lb ws hen hl hit) ?_
  intro v4 H4 s4 q4
  refine R.asE rfl (by conv => lhs; whnf) ?_
  refine TL.nil (Post.thnN ?_)
  refine T.ret ?_
  exact fin1 rfl rfl ⟨rfl, q4⟩


set_option maxHeartbeats 1600000 in
theorem cwaves_c (H : Heap) (v : Value) (xs : List Lk) (a : Int) (hr : RdS pairE H v xs) (hl : xs.length ≤ 1000) (b : Bool) : Fp Tryz.prog (fnv 153) [v, .int .i64 a, .bool b] H (fun v' H' => RdS (slE (intE .i64)) H' v' (wavesL b xs a)) := by
  refine Fc.of_body (N := 14) Tryz.func153 rfl (by kernel_rfl) rfl rfl ?_
  intro w0
  obtain ⟨A, c, rfl, hc1, hc2, hr⟩ := hr.shape
  have hwl := wavesW_len (tbL b xs) xs.length [a]
  refine T.seq ?_
  refine T.region ?_
  refine R.asE rfl (by conv => lhs; whnf) ?_
  refine TL.nil (Post.thnN ?_)
  refine T.seq ?_
  refine T.region ?_
  refine R.mvE rfl (by conv => lhs; whnf) ?_
  refine R.mvE rfl (by conv => lhs; whnf) ?_
  refine R.callp rfl rfl rfl (steps_c _ _ xs b hr hl) ?_
  intro v9 H9 s9 q9
  obtain ⟨hcf, hst⟩ := q9
  refine R.mvE rfl (by conv => lhs; whnf) ?_
  refine R.bs rfl (run_buildSlice1 Tryz.underlying24 Tryz.sizeOf3 Tryz.zeroValue3 rfl rfl) ?_
  intro b11
  refine TL.shut .hd ?_
  intro H11 s11 q11
  refine R.callp rfl rfl rfl (waves_it _ _ _ [a] (endsL b xs) (tbL b xs) hcf (RdS.lit1 q11) (hst.mono s11) (fun v w hw => tb_mem hw) (by rw [ends_len]; omega) (by simp)) ?_
  intro v12 H12 s12 q12
  obtain ⟨lb, rfl, hit⟩ := q12
  rw [ends_len] at hit
  refine R.callp rfl rfl rfl (collect_c _ _ lb _ (enters_of Tryz.func139 (by kernel_rfl) rfl) (by simp at hwl; omega) hit) ?_
  intro v13 H13 s13 q13
  refine R.asE rfl (by conv => lhs; whnf) ?_
  refine TL.nil (Post.thnN ?_)
  refine T.ret ?_
  exact fin1 rfl rfl ⟨rfl, by rw [← wavesW_eq]; exact q13⟩


set_option maxHeartbeats 1600000 in
theorem leads_c (H : Heap) (v : Value) (xs : List Lk) (a : Int) (hr : RdS pairE H v xs) (hl : xs.length ≤ 1000) (z : Int) : Fv Tryz.prog (fnv 30) [v, .int .i64 a, .int .i64 z] H (.bool (leadsR xs a z)) := by
  refine Fc.of_body (N := 20) Tryz.func30 rfl (by kernel_rfl) rfl rfl ?_
  intro w0
  obtain ⟨A, c, rfl, hc1, hc2, hr⟩ := hr.shape
  refine T.seq ?_
  refine T.region ?_
  refine R.box rfl (by conv => lhs; whnf) ?_
  intro b5
  refine R.alloc Tryz.zeroValue4 rfl ?_
  intro b6
  refine TL.nil (Post.thnN ?_)
  refine T.seq ?_
  refine T.shut (.tl .hd) ?_
  intro H5 s5 q5
  refine T.region ?_
  refine R.mvE rfl (by conv => lhs; whnf) ?_
  refine R.callp rfl rfl rfl (steps_c _ _ xs false (hr.mono s5) hl) ?_
  intro v10 H10 s10 q10
  obtain ⟨hcf, hst⟩ := q10
  refine R.asE rfl (by conv => lhs; whnf) ?_
  refine TL.nil (Post.thnN ?_)
  refine T.seq ?_
  refine T.seq ?_
  refine T.region ?_
  refine R.mvE rfl (by conv => lhs; whnf) ?_
  refine R.mvE rfl (by conv => lhs; whnf) ?_
  refine R.mvE rfl (by conv => lhs; whnf) ?_
  refine R.callp rfl rfl rfl (hst _ (HLe.refl _) a) ?_
  intro v14 H14 s14 q14
  refine R.callp rfl rfl rfl (waves_it _ _ _ (toL xs a) (endsL false xs) (toL xs) hcf q14 (hst.mono s14) (fun v w hw => to_mem hw) (by rw [ends_len]; omega) (by have := toL_len xs a; omega)) ?_
  intro v15 H15 s15 q15
  obtain ⟨lb, rfl, hit⟩ := q15
  rw [ends_len] at hit
  refine TL.nil (Post.thnN ?_)
  refine T.block ?_
  refine T.rangeFunc rfl rfl (enters_of Tryz.func139 (by kernel_rfl) rfl) hit (fun _ _ _ h => by obtain ⟨w, rfl, _⟩ := h; rfl) rfl (fun pre H' L' => (∀ w ∈ pre, w.any (fun y => decide (z = y)) = false) ∧ L' = [[(b6, .cells #[.bool false] 4)]]) (fun c pre H' L' => c = .ret ∧ (∃ w ∈ pre, w.any (fun y => decide (z = y)) = true) ∧ L' = [[(b6, .cells #[.bool true] 4)]]) (fun _ _ _ _ _ h => h) (fun _ _ _ _ _ _ h => h) ?_ ?_ ?_ ?_
  · exact ⟨fun w h => (by cases h), rfl⟩
  · intro l0 r0 w0 pre y vs Hr0 Lr0 sr0 hp0 hI0 hY0
    obtain ⟨hno, rfl⟩ := hI0
    obtain ⟨w, rfl, hwy⟩ := hY0
    obtain ⟨Ay, cy, rfl, my, ny, hwy⟩ := hwy.shape
    refine T.region ?_
    refine R.asE rfl (by conv => lhs; whnf) ?_
    refine TL.nil ?_
    refine onlyN.mk ?_
    refine T.block ?_
    refine T.seq ?_
    refine T.region ?_
    refine R.mvE rfl (by conv => lhs; whnf) ?_
    refine R.ldH Tryz.isAgg3 rfl rfl ((s10.trans (s14.trans (s15.trans sr0))) _ _ (shut1 q5)) rfl ?_
    refine R.callv rfl rfl rfl (containsI24_c _ _ _ z hwy) ?_
    refine TL.nil (Post.thnN ?_)
    refine T.cond rfl (fun c19 => ?_) (fun c19 => ?_)
    · refine T.seq ?_
      refine T.region ?_
      refine R.st Tryz.sizeOf4 rfl rfl (by conv => lhs; whnf) rfl (by first | exact .hd | exact .tl .hd | exact .tl (.tl .hd) | exact .tl (.tl (.tl .hd)) | exact .tl (.tl (.tl (.tl .hd))) | exact .tl (.tl (.tl (.tl (.tl .hd)))) | exact .tl (.tl (.tl (.tl (.tl (.tl .hd))))) | exact .tl (.tl (.tl (.tl (.tl (.tl (.tl .hd)))))) | exact .tl (.tl (.tl (.tl (.tl (.tl (.tl (.tl .hd))))))) | exact .tl (.tl (.tl (.tl (.tl (.tl (.tl (.tl (.tl .hd))))))))) ?_
      refine TL.nil (Post.thnN ?_)
      refine T.ret (Post.blkR ?_)
      -- way by
      exact ⟨rfl, ⟨y, by simp, c19⟩, rfl⟩
    · refine T.skip (Post.blkN ?_)
      refine id ?_
      -- way bn
      refine ⟨fun w hw => ?_, rfl⟩
      rcases List.mem_append.1 hw with hw | hw
      · exact hno w hw
      · simp at hw; rw [hw]; exact c19
  · intro D0 Hr0 Lr0 sr0 hI0
    obtain ⟨hno, rfl⟩ := hI0
    refine id (Post.blkN ?_)
    refine id (Post.thnN ?_)
    refine T.seq ?_
    refine T.region ?_
    refine R.st Tryz.sizeOf4 rfl rfl (by conv => lhs; whnf) rfl (by first | exact .hd | exact .tl .hd | exact .tl (.tl .hd) | exact .tl (.tl (.tl .hd)) | exact .tl (.tl (.tl (.tl .hd))) | exact .tl (.tl (.tl (.tl (.tl .hd)))) | exact .tl (.tl (.tl (.tl (.tl (.tl .hd))))) | exact .tl (.tl (.tl (.tl (.tl (.tl (.tl .hd)))))) | exact .tl (.tl (.tl (.tl (.tl (.tl (.tl (.tl .hd))))))) | exact .tl (.tl (.tl (.tl (.tl (.tl (.tl (.tl (.tl .hd))))))))) ?_
    refine TL.nil (Post.thnN ?_)
    refine T.ret ?_
    -- way d
    exact fin1C [] rfl Tryz.isAgg4 rfl .hd rfl (List.nil_sublist _) ⟨rfl, congrArg Value.bool (leads_no hno).symm⟩
  · intro D0 c0 pre y Hr0 Lr0 sr0 hp0 hI0
    obtain ⟨rfl, ⟨w, hw, hyes⟩, rfl⟩ := hI0
    have hwm := hp0.subset hw
    refine T.ret (Post.blkR (Post.thnR ?_))
    -- way s
    exact fin1C [] rfl Tryz.isAgg4 rfl .hd rfl (List.nil_sublist _) ⟨rfl, congrArg Value.bool (leads_yes hwm hyes).symm⟩


set_option maxHeartbeats 1600000 in
theorem closes_c (H : Heap) (v : Value) (xs : List Lk) (a : Int) (hr : RdS pairE H v xs) (hl : xs.length ≤ 1000) (z : Int) : Fv Tryz.prog (fnv 81) [v, .int .i64 a, .int .i64 z] H (.bool (decide (a = z) || leadsR xs z a)) := by
  refine Fc.of_body (N := 16) Tryz.func81 rfl (by kernel_rfl) rfl rfl ?_
  intro w0
  obtain ⟨A, c, rfl, hc1, hc2, hr⟩ := hr.shape
  refine T.seq ?_
  refine T.region ?_
  refine R.asE rfl (by conv => lhs; whnf) ?_
  refine TL.nil (Post.thnN ?_)
  refine T.seq ?_
  refine T.region ?_
  refine R.mvE rfl (by conv => lhs; whnf) ?_
  refine R.mvE rfl (by conv => lhs; whnf) ?_
  refine R.eql rfl rfl rfl ?_
  refine R.mvE rfl (by conv => lhs; whnf) ?_
  refine TL.gsplitD 10 rfl (fun g10 => ?_) (fun g10 => ?_)
  · refine TL.off rfl rfl rfl ?_
    refine TL.off rfl rfl rfl ?_
    refine TL.off rfl rfl rfl ?_
    refine TL.off rfl rfl rfl ?_
    refine R.pkTE rfl rfl (by conv => lhs; whnf) ?_
    refine R.asE rfl (by conv => lhs; whnf) ?_
    refine TL.nil (Post.thnN ?_)
    refine T.ret ?_
    -- way y
    exact fin1 rfl rfl ⟨rfl, congrArg Value.bool (by simp [g10])⟩
  · refine R.mvE rfl (by conv => lhs; whnf) ?_
    refine R.mvE rfl (by conv => lhs; whnf) ?_
    refine R.mvE rfl (by conv => lhs; whnf) ?_
    refine R.callv rfl rfl rfl (leads_c _ _ xs z hr hl a) ?_
    refine R.pkFE rfl rfl (by conv => lhs; whnf) ?_
    refine R.asE rfl (by conv => lhs; whnf) ?_
    refine TL.nil (Post.thnN ?_)
    refine T.ret ?_
    -- way n
    exact fin1 rfl rfl ⟨rfl, congrArg Value.bool (by simp [g10])⟩




end Go.SX

set_option linter.unusedVariables false
set_option linter.unusedSimpArgs false
namespace Go.SX
open Go Go.Proofs

end Go.SX

set_option linter.unusedVariables false
set_option linter.unusedSimpArgs false
namespace Go.SX
open Go Go.Proofs

end Go.SX

set_option linter.unusedVariables false
set_option linter.unusedSimpArgs false
namespace Go.SX
open Go Go.Proofs

set_option maxHeartbeats 1600000 in
theorem round_c (H : Heap) (v : Value) (xs : List Lk) (hr : RdS pairE H v xs) (hl : xs.length ≤ 1000) : Fv Tryz.prog (fnv 27) [v] H (.bool (roundR xs)) := by
  refine Fc.of_body (N := 91) Tryz.func27 rfl (by kernel_rfl) rfl rfl ?_
  intro w0
  obtain ⟨A, c, rfl, hc1, hc2, hr⟩ := hr.shape
  refine T.seq ?_
  refine T.region ?_
  refine R.asE rfl (by conv => lhs; whnf) ?_
  refine TL.nil (Post.thnN ?_)
  refine T.seq ?_
  refine T.seq ?_
  refine T.region ?_
  refine R.mvE rfl (by conv => lhs; whnf) ?_
  refine R.callv rfl rfl rfl (ccheck_c _ _ _ hr) ?_
  refine R.neq rfl rfl rfl ?_
  refine TL.nil (Post.thnN ?_)
  refine T.condD rfl (fun c16 => ?_) (fun c16 => ?_)
  · have hcb : chainB xs = false := by
      cases h : chainB xs with
      | false => rfl
      | true => rw [h] at c16; exact absurd rfl c16
    refine T.seq ?_
    refine T.region ?_
    refine R.asE rfl (by conv => lhs; whnf) ?_
    refine TL.nil (Post.thnN ?_)
    refine T.ret (Post.thnR ?_)
    -- way y
    exact fin1 rfl rfl ⟨rfl, congrArg Value.bool (round_bad hcb).symm⟩
  · have hc : chainB xs = true := by
      cases h : chainB xs with
      | true => rfl
      | false => rw [h] at c16; exact absurd (by decide) c16
    refine T.skip (Post.thnN ?_)
    refine T.seq ?_
    refine T.region ?_
    refine R.mkm rfl ?_
    intro b17
    refine R.asE rfl (by conv => lhs; whnf) ?_
    refine TL.nil (Post.thnN ?_)
    refine T.seq ?_
    refine T.region ?_
    refine R.mvE rfl (by conv => lhs; whnf) ?_
    refine R.callp rfl rfl rfl (steps_c _ _ xs true hr hl) ?_
    intro v19 H19 s19 q19
    obtain ⟨hcf, hst⟩ := q19
    refine R.asE rfl (by conv => lhs; whnf) ?_
    refine TL.nil (Post.thnN ?_)
    refine T.seq ?_
    refine T.seq ?_
    refine T.region ?_
    refine R.mvE rfl (by conv => lhs; whnf) ?_
    refine R.len Tryz.underlying22 rfl rfl ?_
    refine R.mvE rfl (by conv => lhs; whnf) ?_
    refine TL.nil (Post.thnN ?_)
    refine T.block ?_
    refine T.loop (ι := Nat × MapL × Array MapEntry × Nat) (fun ⟨k, m, es, ck⟩ H' L' ds' => k ≤ xs.length ∧ ds' = [] ∧ L' = [[(b17, .map es ck)]] ∧ MapK .i64 es ck m ∧ CntIs m (cntN xs k) (isV (xs.take k))) (fun ⟨k, m, es, ck⟩ => [(3, .map (some b17)), (4, v19), (20, .slice A xs.length c), (21, .int .i64 xs.length), (22, .int .i64 k)]) (fun ⟨k, m, es, ck⟩ => xs.length - k) ((0, [], #[], 0)) ?_ ?_ ?_
    · exact ⟨Nat.zero_le _, rfl, rfl, MapK.nil _, CntIs.nil.congr (fun k => by simp [cntN]) (fun k => by simp [isV])⟩
    · exact ⟨rfl, rfl, rfl, rfl, rfl, trivial⟩
    · intro ⟨k, m, es, ck⟩ σ0 H_0 L_0 ds_0 s_0 hI_0
      obtain ⟨hk, rfl, rfl, hi, hC⟩ := hI_0
      have hcb := cntN_le xs k
      refine T.seq ?_
      refine T.region ?_
      refine R.lss rfl rfl rfl ?_
      refine TL.nil (Post.thnN ?_)
      refine T.seq ?_
      refine T.condD rfl (fun c23 => ?_) (fun c23 => ?_)
      · have hlt : k < xs.length := by omega
        obtain ⟨y, hy⟩ := getk hlt
        have hcb1 := hcb y.1
        have hcb2 := hcb y.2
        have hC1 := hC.put y.1 (cntN xs k y.1 + 1)
        refine T.skip (Post.thnN ?_)
        refine T.seq ?_
        refine T.block ?_
        refine T.seq ?_
        refine T.region ?_
        obtain ⟨b24, o24, i24, e24⟩ := ((hr.mono s19).mono s_0).elem (hy)
        refine R.ixp Tryz.underlying22 Tryz.sizeOf45 rfl rfl rfl (by omega) i24 ?_
        refine R.ldP Tryz.isAgg45 Tryz.sizeOf45 rfl rfl (e24) ?_
        refine R.alloc Tryz.zeroValue45 rfl ?_
        intro b6
        refine R.stA (old := [.int .i64 0, .int .i64 0]) Tryz.sizeOf45 rfl rfl rfl rfl rfl (by intro v hv; simp at hv; rcases hv with rfl | rfl <;> rfl) .hd ?_
        refine TL.nil (Post.thnN ?_)
        refine T.seq ?_
        refine T.shut .hd ?_
        intro H6 s6 q6
        have h6 : H6 b6 = some (.cells #[.int .i64 y.1, .int .i64 y.2] 45) := shut1 q6
        refine T.region ?_
        refine R.mvE rfl (by conv => lhs; whnf) ?_
        refine R.fldA Tryz.underlying45 rfl Tryz.sizeOf3 (by decide) rfl rfl ?_
        refine R.ldH Tryz.isAgg3 rfl rfl (h6) rfl ?_
        refine R.lku Tryz.underlying93 Tryz.underlying3 Tryz.zeroValue3 rfl rfl rfl .hd hi.1 ?_
        refine TL.set 29 (.int .i64 (cntN xs k y.1)) (hC.2.2 y.1) ?_
        refine R.addI rfl rfl rfl (by omega) ?_
        refine R.mupK Tryz.underlying93 Tryz.underlying3 rfl rfl rfl rfl .hd hi ?_
        intro es30 ck30 i30
        refine TL.nil (Post.thnN ?_)
        refine T.region ?_
        refine R.mvE rfl (by conv => lhs; whnf) ?_
        refine R.fldA Tryz.underlying45 rfl Tryz.sizeOf3 (by decide) rfl rfl ?_
        refine R.ldH Tryz.isAgg3 rfl rfl (h6) rfl ?_
        refine R.lku Tryz.underlying93 Tryz.underlying3 Tryz.zeroValue3 rfl rfl rfl .hd i30.1 ?_
        refine TL.set 34 (.int .i64 (if y.2 = y.1 then cntN xs k y.1 + 1 else cntN xs k y.2)) (hC1.2.2 y.2) ?_
        refine R.addI rfl rfl rfl (by split <;> omega) ?_
        refine R.mupK Tryz.underlying93 Tryz.underlying3 rfl rfl rfl rfl .hd i30 ?_
        intro es35 ck35 i35
        refine TL.nil (Post.blkN ?_)
        refine id (Post.thnN ?_)
        refine T.region ?_
        refine R.addI rfl rfl rfl (by omega) ?_
        refine R.mvE rfl (by conv => lhs; whnf) ?_
        refine TL.nil (Post.thnN ?_)
        -- round's end, way ny
        exact ⟨(k + 1, _, es35, ck35), s_0.trans s6, ⟨by show k + 1 ≤ _; omega, rfl, rfl, i35, cnt_step hy hC⟩, by show xs.length - (k + 1) < xs.length - k; omega, ⟨rfl, rfl, rfl, rfl, rfl, trivial⟩⟩
      · have hkx : k = xs.length := by omega
        subst hkx
        have hC := cnt_full hC
        refine T.exit (Post.thnE (Post.thnE (Post.blkX ?_)))
        refine id (Post.thnN ?_)
        refine T.seq ?_
        refine T.region ?_
        refine R.asE rfl (by conv => lhs; whnf) ?_
        refine TL.nil (Post.thnN ?_)
        refine T.seq ?_
        refine T.seq ?_
        refine T.region ?_
        refine R.mvE rfl (by conv => lhs; whnf) ?_
        refine R.rng Tryz.underlying93 rfl rfl .hd ?_
        intro b38
        refine TL.nilc ?_
        refine TL.nil (Post.thnN ?_)
        refine T.block ?_
        refine T.loop (ι := Array Nat × List Int × Value × Chunk) (fun ⟨sn, vk, vf, cf⟩ H' L' ds' => ds' = [] ∧ L' = [cf, [(b38, .mapIter (some b17) ck sn ck)], [(b17, .map es ck)]] ∧ Seen es (isV xs) sn vk ∧ OwnS (intE .i64) 3 H' vf (vk.filter (fun k => decide ((dg xs [] k : Int) = 0))) cf) (fun ⟨sn, vk, vf, cf⟩ => [(3, .map (some b17)), (4, v19), (7, vf), (38, .pointer (some ⟨b38, 0, none⟩))]) (fun ⟨sn, vk, vf, cf⟩ => m.length - vk.length) ((#[], [], .slice none 0 0, [])) ?_ ?_ ?_
        · exact ⟨rfl, rfl, Seen.nil _ _, OwnS.nil⟩
        · exact ⟨rfl, rfl, rfl, rfl, trivial⟩
        · intro ⟨sn, vk, vf, cf⟩ σ1 H_1 L_1 ds_1 s_1 hI_1
          obtain ⟨rfl, rfl, hse, ho⟩ := hI_1
          have hvl := hse.len hC
          have hml0 := cnt_len hC
          have hfl0 := List.length_filter_le (fun k => decide ((dg xs [] k : Int) = 0)) vk
          refine T.seq ?_
          refine T.region ?_
          refine R.nxt rfl rfl (.tl .hd) (.tl .hd) hi.2 ?_
          intro v39 sn2 h39
          refine TL.permL (L' := [cf, [(b38, .mapIter (some b17) ck sn2 ck)], [(b17, .map es ck)]]) perm4 ?_
          rcases h39 with ⟨hv39, hs39, hall⟩ | ⟨e, he, hne, hv39, hs39⟩ <;> subst hv39 <;> subst hs39
          · refine R.ext rfl rfl rfl ?_
            refine TL.nil (Post.thnN ?_)
            refine T.seq ?_
            refine T.condN rfl ?_
            refine T.exit (Post.thnE (Post.thnE (Post.blkX ?_)))
            refine id (Post.thnN ?_)
            refine T.seq ?_
            obtain ⟨n0, hn0⟩ : ∃ n, n = m.length := ⟨_, rfl⟩
            have hKI0 := free_start hse.nd (hse.over hi.1 hC hall)
            refine T.region ?_
            refine R.mvE rfl (by conv => lhs; whnf) ?_
            refine R.lenM Tryz.underlying93 rfl rfl (.tl (.tl .hd)) ?_
            refine TL.set 51 (.int .i64 m.length) (by rw [← map_size hi.1]; rfl) ?_
            refine TL.del (.tl .hd) ?_
            refine R.asE rfl (by conv => lhs; whnf) ?_
            refine TL.nil (Post.thnN ?_)
            refine T.seq ?_
            refine T.block ?_
            refine T.loop (ι := List Int × List Int × Value × Chunk × MapL × Array MapEntry × Nat) (fun ⟨RV, Fr, vf, cf, m, es, ck⟩ H' L' ds' => ds' = [] ∧ L' = [cf, [(b17, .map es ck)]] ∧ KI xs RV Fr ∧ MapK .i64 es ck m ∧ CntIs m (fun w => (dg xs RV w : Int)) (isV xs) ∧ OwnS (intE .i64) 3 H' vf Fr cf ∧ m.length = n0) (fun ⟨RV, Fr, vf, cf, m, es, ck⟩ => [(3, .map (some b17)), (4, v19), (7, vf), (10, .int .i64 ((n0 : Int) - (RV.length : Int)))]) (fun ⟨RV, Fr, vf, cf, m, es, ck⟩ => n0 - RV.length) (([], vk.filter (fun k => decide ((dg xs [] k : Int) = 0)), vf, cf, m, es, ck)) ?_ ?_ ?_
            · exact ⟨rfl, rfl, hKI0, hi, hC, ho, hn0.symm⟩
            · exact ⟨rfl, rfl, rfl, congrArg (Value.int .i64) (by rw [hn0]; simp), trivial⟩
            · intro ⟨RV, Fr, vf, cf, m, es, ck⟩ σ2 H_2 L_2 ds_2 s_2 hI_2
              obtain ⟨rfl, rfl, hKI, hi, hC, ho, hml⟩ := hI_2
              have hkl := hKI.len hC
              obtain ⟨Af, pf, hvf, hf1, hf2⟩ := ho.shape
              subst hvf
              refine T.seq ?_
              refine T.seq ?_
              refine T.region ?_
              refine R.mvE rfl (by conv => lhs; whnf) ?_
              refine R.len Tryz.underlying24 rfl rfl ?_
              refine R.gtr rfl rfl rfl ?_
              refine TL.nil (Post.thnN ?_)
              refine T.condD rfl (fun c54 => ?_) (fun c54 => ?_)
              · obtain ⟨F, v, rfl⟩ := last_split (l := Fr) (fun e => by rw [e] at c54; exact absurd c54 (by decide))
                have hfp : (F ++ [v]).length = F.length + 1 := by simp
                refine T.skip (Post.thnN ?_)
                refine T.block ?_
                refine T.seq ?_
                refine T.region ?_
                refine R.mvE rfl (by conv => lhs; whnf) ?_
                refine R.mvE rfl (by conv => lhs; whnf) ?_
                refine R.len Tryz.underlying24 rfl rfl ?_
                refine R.subI rfl rfl rfl (by omega) ?_
                obtain ⟨bo, ko, cso, lo, hce, hve, hix, hR, hcs⟩ := ho.elem (show (F ++ [v])[(((F ++ [v]).length : Int) - 1).toNat]? = some v by rw [show (((F ++ [v]).length : Int) - 1).toNat = F.length by simp]; simp)
                obtain rfl : lo = [.int .i64 v] := hR
                subst hce
                refine R.ixp Tryz.underlying24 Tryz.sizeOf3 rfl rfl rfl (by simp) hix ?_
                refine R.ld Tryz.isAgg3 rfl rfl .hd (hcs 0 _ rfl) ?_
                refine R.asE rfl (by conv => lhs; whnf) ?_
                refine TL.nil (Post.thnN ?_)
                refine T.seq ?_
                refine T.region ?_
                refine R.mvE rfl (by conv => lhs; whnf) ?_
                refine R.mvE rfl (by conv => lhs; whnf) ?_
                refine R.len Tryz.underlying24 rfl rfl ?_
                refine R.subI rfl rfl rfl (by omega) ?_
                refine R.sH Tryz.underlying24 Tryz.sizeOf3 rfl rfl rfl (by simp) (by simp; omega) ?_
                have hfl : (((F ++ [v]).length : Int) - 1).toNat = F.length := by simp
                refine TL.set 65 (.slice Af F.length pf) (by rw [← hfl]; exact slc_take0 (n := (F ++ [v]).length)) ?_
                have w65 := own_take0 ho (i := F.length) (by simp)
                rw [List.take_left] at w65
                refine R.asE rfl (by conv => lhs; whnf) ?_
                refine TL.nil (Post.thnN ?_)
                refine T.seq ?_
                refine T.region ?_
                refine R.mvE rfl (by conv => lhs; whnf) ?_
                refine R.subI rfl rfl rfl (by omega) ?_
                refine R.asE rfl (by conv => lhs; whnf) ?_
                refine TL.nil (Post.thnN ?_)
                refine T.seq ?_
                refine T.region ?_
                refine R.mvE rfl (by conv => lhs; whnf) ?_
                refine R.mvE rfl (by conv => lhs; whnf) ?_
                refine R.callp rfl rfl rfl (hst _ (s_0.trans (s_1.trans s_2)) v) ?_
                intro v70 H70 s70 q70
                have q70 : RdS (intE .i64) H70 v70 (fromL xs v) := q70
                obtain ⟨A70, k70, rfl, m70, n70, g70⟩ := q70.shape
                refine R.len Tryz.underlying24 rfl rfl ?_
                refine R.mvE rfl (by conv => lhs; whnf) ?_
                refine TL.nil (Post.thnN ?_)
                refine T.block ?_
                refine T.loop (ι := Nat × Value × Chunk × MapL × Array MapEntry × Nat) (fun ⟨i, vf, cf, m, es, ck⟩ H' L' ds' => i ≤ (fromL xs v).length ∧ ds' = [] ∧ L' = [cf, [(b17, .map es ck)]] ∧ MapK .i64 es ck m ∧ CntIs m (cI xs RV v i) (isV xs) ∧ OwnS (intE .i64) 3 H' vf (fI xs RV F v i) cf ∧ m.length = n0) (fun ⟨i, vf, cf, m, es, ck⟩ => [(3, .map (some b17)), (4, v19), (7, vf), (10, .int .i64 ((n0 : Int) - (RV.length : Int) - 1)), (70, .slice A70 (fromL xs v).length k70), (71, .int .i64 (fromL xs v).length), (72, .int .i64 i)]) (fun ⟨i, vf, cf, m, es, ck⟩ => (fromL xs v).length - i) ((0, .slice Af F.length pf, [(bo, .cells cso 3)], m, es, ck)) ?_ ?_ ?_
                · exact ⟨Nat.zero_le _, rfl, rfl, hi, hC.congr (fun k => (cI_zero xs RV v k).symm) (fun k => Iff.rfl), by rw [fI_zero]; exact w65.mono s70, hml⟩
                · exact ⟨rfl, rfl, rfl, rfl, rfl, rfl, rfl, trivial⟩
                · intro ⟨i, vf, cf, m, es, ck⟩ σ3 H_3 L_3 ds_3 s_3 hI_3
                  obtain ⟨hiw, rfl, rfl, hi, hC, ho, hml⟩ := hI_3
                  have hfll := fI_len xs RV F v i
                  refine T.seq ?_
                  refine T.region ?_
                  refine R.lss rfl rfl rfl ?_
                  refine TL.nil (Post.thnN ?_)
                  refine T.seq ?_
                  refine T.condD rfl (fun c73 => ?_) (fun c73 => ?_)
                  · have hlt : i < (fromL xs v).length := by omega
                    obtain ⟨w, hw⟩ := getk hlt
                    have hwV := from_isV (List.mem_of_getElem? hw)
                    have hcI := cI_bnd xs RV v i w
                    refine T.skip (Post.thnN ?_)
                    refine T.seq ?_
                    refine T.block ?_
                    refine T.seq ?_
                    refine T.region ?_
                    obtain ⟨b74, o74, i74, e74⟩ := (g70.mono s_3).elem (hw)
                    refine R.ixp Tryz.underlying24 Tryz.sizeOf3 rfl rfl rfl (by omega) i74 ?_
                    refine R.ldC Tryz.isAgg3 rfl rfl (e74).int ?_
                    refine R.asE rfl (by conv => lhs; whnf) ?_
                    refine TL.nil (Post.thnN ?_)
                    refine T.seq ?_
                    refine T.region ?_
                    refine R.mvE rfl (by conv => lhs; whnf) ?_
                    refine R.mvE rfl (by conv => lhs; whnf) ?_
                    refine R.lku Tryz.underlying93 Tryz.underlying3 Tryz.zeroValue3 rfl rfl rfl (.tl .hd) hi.1 ?_
                    refine TL.set 78 (.int .i64 (cI xs RV v i w)) (hC.2.2 w) ?_
                    refine R.subI rfl rfl rfl (by omega) ?_
                    refine R.mupK Tryz.underlying93 Tryz.underlying3 rfl rfl rfl rfl (.tl .hd) hi ?_
                    intro es79 ck79 i79
                    refine TL.permL (L' := [cf, [(b17, .map es79 ck79)]]) permS ?_
                    have hC2 : CntIs _ (cI xs RV v (i + 1)) (isV xs) := (hC.put w (cI xs RV v i w - 1)).congr (congrFun (cI_step hw)) (fun k => ⟨fun h => h.elim (fun e => e ▸ hwV) id, .inr⟩)
                    have hml2 := (mput_len m w (.int .i64 (cI xs RV v i w - 1)) ((hC.2.1 w).2 hwV)).trans hml
                    refine TL.nil (Post.thnN ?_)
                    refine T.seq ?_
                    refine T.region ?_
                    refine R.mvE rfl (by conv => lhs; whnf) ?_
                    refine R.mvE rfl (by conv => lhs; whnf) ?_
                    refine R.lku Tryz.underlying93 Tryz.underlying3 Tryz.zeroValue3 rfl rfl rfl (.tl .hd) i79.1 ?_
                    refine TL.set 82 (.int .i64 (cI xs RV v (i + 1) w)) (hC2.2.2 w) ?_
                    refine R.eql rfl rfl rfl ?_
                    refine TL.nil (Post.thnN ?_)
                    refine T.condD rfl (fun c83 => ?_) (fun c83 => ?_)
                    · refine T.region ?_
                      refine R.mvE rfl (by conv => lhs; whnf) ?_
                      refine R.mvE rfl (by conv => lhs; whnf) ?_
                      refine R.bs rfl (run_buildSlice1 Tryz.underlying24 Tryz.sizeOf3 Tryz.zeroValue3 rfl rfl) ?_
                      intro b86
                      refine R.app (ys := [w]) Tryz_ty24 rfl rfl rfl ho (.tl .hd) (Src.lit (vs := [.int .i64 w]) .hd) ⟨[.int .i64 w], [], rfl, rfl, rfl⟩ (by simp; omega) (by simp; omega) ?_
                      intro v87 c87 w87
                      refine TL.del (.tl .hd) ?_
                      refine R.asE rfl (by conv => lhs; whnf) ?_
                      refine TL.nil (Post.blkN ?_)
                      refine id (Post.thnN ?_)
                      refine T.region ?_
                      refine R.addI rfl rfl rfl (by omega) ?_
                      refine R.mvE rfl (by conv => lhs; whnf) ?_
                      refine TL.nil (Post.thnN ?_)
                      -- round's end, way nnnyyy
                      exact ⟨(i + 1, v87, c87, _, es79, ck79), s_3, ⟨by show i + 1 ≤ _; omega, rfl, rfl, i79, hC2, by rw [fI_yes hw c83]; exact w87, hml2⟩, by show (fromL xs v).length - (i + 1) < (fromL xs v).length - i; omega, ⟨rfl, rfl, rfl, rfl, rfl, rfl, rfl, trivial⟩⟩
                    · refine T.skip (Post.blkN ?_)
                      refine id (Post.thnN ?_)
                      refine T.region ?_
                      refine R.addI rfl rfl rfl (by omega) ?_
                      refine R.mvE rfl (by conv => lhs; whnf) ?_
                      refine TL.nil (Post.thnN ?_)
                      -- round's end, way nnnyyn
                      exact ⟨(i + 1, vf, cf, _, es79, ck79), s_3, ⟨by show i + 1 ≤ _; omega, rfl, rfl, i79, hC2, by rw [fI_no hw c83]; exact ho, hml2⟩, by show (fromL xs v).length - (i + 1) < (fromL xs v).length - i; omega, ⟨rfl, rfl, rfl, rfl, rfl, rfl, rfl, trivial⟩⟩
                  · refine T.exit (Post.thnE (Post.thnE (Post.blkX ?_)))
                    refine id (Post.blkN ?_)
                    refine id (Post.thnN ?_)
                    -- round's end, way nnnyn
                    have hix : i = (fromL xs v).length := by omega
                    have hgo := hKI.go hc
                    have hvR : v ∉ RV := fun hm => (List.nodup_append.1 hKI.nd).2.2 v hm v (by simp) rfl
                    exact ⟨(RV ++ [v], fI xs RV F v i, vf, cf, m, es, ck), s_2.trans (s70.trans s_3), ⟨rfl, rfl, by rw [hix]; exact hgo, hi, hC.congr (fun k => by rw [hix]; exact cI_last hc hvR k) (fun k => Iff.rfl), ho, hml⟩, by show n0 - (RV ++ [v]).length < n0 - RV.length; simp at hkl ⊢; omega, ⟨rfl, rfl, rfl, congrArg (Value.int .i64) (by simp; omega), trivial⟩⟩
              · have hF0 : Fr = [] := List.length_eq_zero_iff.1 (by omega)
                subst hF0
                have hend := round_end hc hKI hC
                rw [hml] at hend
                refine T.exit (Post.thnE (Post.thnE (Post.blkX ?_)))
                refine id (Post.thnN ?_)
                refine T.seq ?_
                refine T.region ?_
                refine R.mvE rfl (by conv => lhs; whnf) ?_
                refine R.gtr rfl rfl rfl ?_
                refine R.asE rfl (by conv => lhs; whnf) ?_
                refine TL.nil (Post.thnN ?_)
                refine T.ret ?_
                -- way nnnn
                exact fin1 rfl rfl ⟨rfl, congrArg Value.bool hend⟩
          · refine R.ext rfl rfl rfl ?_
            refine TL.nil (Post.thnN ?_)
            refine T.seq ?_
            refine T.condY rfl ?_
            refine T.skip (Post.thnN ?_)
            refine T.block ?_
            refine T.seq ?_
            refine T.region ?_
            obtain ⟨kk, hk1, hk2, hK⟩ := cnt_entry hi.1 hC he
            obtain ⟨hse2, hkv⟩ := hse.step hi hC he hne hk1 hK
            refine R.ent rfl rfl (.tl .hd) (.tl (.tl .hd)) hi.2 he ?_
            refine R.ext rfl rfl rfl ?_
            refine TL.set 42 (.int .i64 kk) hk1 ?_
            refine R.ext rfl rfl rfl ?_
            refine TL.set 43 (.int .i64 (dg xs [] kk : Int)) hk2 ?_
            refine R.asE rfl (by conv => lhs; whnf) ?_
            refine R.asE rfl (by conv => lhs; whnf) ?_
            refine TL.nil (Post.thnN ?_)
            refine T.seq ?_
            refine T.region ?_
            refine R.mvE rfl (by conv => lhs; whnf) ?_
            refine R.eql rfl rfl rfl ?_
            refine TL.nil (Post.thnN ?_)
            refine T.condD rfl (fun c45 => ?_) (fun c45 => ?_)
            · refine T.region ?_
              refine R.mvE rfl (by conv => lhs; whnf) ?_
              refine R.mvE rfl (by conv => lhs; whnf) ?_
              refine R.bs rfl (run_buildSlice1 Tryz.underlying24 Tryz.sizeOf3 Tryz.zeroValue3 rfl rfl) ?_
              intro b48
              refine R.app (ys := [kk]) Tryz_ty24 rfl rfl rfl ho (.tl .hd) (Src.lit (vs := [.int .i64 kk]) .hd) ⟨[.int .i64 kk], [], rfl, rfl, rfl⟩ (by simp only [List.length_cons, List.length_nil]; omega) (by simp only [List.length_cons, List.length_nil]; omega) ?_
              intro v49 c49 w49
              refine TL.del (.tl .hd) ?_
              refine R.asE rfl (by conv => lhs; whnf) ?_
              refine TL.nil (Post.blkN ?_)
              refine id (Post.thnN ?_)
              -- round's end, way nnyy
              have hsl := hse2.len hC
              simp at hsl
              exact ⟨(_, vk ++ [kk], v49, c49), s_1, ⟨rfl, rfl, hse2, by rw [filt1_yes (decide_eq_true c45)]; exact w49⟩, by show m.length - (vk ++ [kk]).length < m.length - vk.length; simp; omega, ⟨rfl, rfl, rfl, rfl, trivial⟩⟩
            · refine T.skip (Post.blkN ?_)
              refine id (Post.thnN ?_)
              -- round's end, way nnyn
              have hsl := hse2.len hC
              simp at hsl
              exact ⟨(_, vk ++ [kk], vf, cf), s_1, ⟨rfl, rfl, hse2, by rw [filt1_no (decide_eq_false c45)]; exact ho⟩, by show m.length - (vk ++ [kk]).length < m.length - vk.length; simp; omega, ⟨rfl, rfl, rfl, rfl, trivial⟩⟩


end Go.SX

set_option linter.unusedVariables false
set_option linter.unusedSimpArgs false
namespace Go.SX
open Go
def smallC : List Lk := [(3, 4), (4, 5), (5, 3), (5, 6)]
theorem roundQ (xs : List Lk) : roundR xs = (chainB xs && xs.any (fun y => leadsQ xs y.1 y.1)) := by
  unfold roundR
  congr 2
  funext y
  rw [leadsQ_eq]
/-- A way, gone back. -/
theorem Wy.rev {to fr : Int → List Int} (h : ∀ x y, y ∈ to x → x ∈ fr y) : ∀ {p : List Int} {a z : Int}, Wy to a z p → Wy fr z a p.reverse
  | [], a, z, hp => hp.1.elim
  | x :: p, a, z, hp => by
    rcases hp.un with ⟨e, rfl⟩ | ⟨v, r, e, hv, hr⟩
    · injection e with e1 e2
      subst e1; subst e2
      exact Wy.one _ _
    · injection e with e1 e2
      subst e1; subst e2
      have ih := Wy.rev h hr
      rw [List.reverse_cons]
      exact ih.snoc (h _ _ hv)
theorem Dist.rev {to fr : Int → List Int} (h : ∀ x y, y ∈ to x ↔ x ∈ fr y) {a z : Int} {n : Nat} (hd : Dist to a z n) : Dist fr z a n := by
  obtain ⟨⟨p, h1, h2⟩, h3⟩ := hd
  refine ⟨⟨p.reverse, h1.rev (fun x y => (h x y).1), by simpa using h2⟩, fun q hq => ?_⟩
  have := h3 _ (hq.rev (fun x y hy => (h y x).2 hy))
  simpa using this
theorem to_from {xs : List Lk} (x y : Int) : y ∈ toL xs x ↔ x ∈ fromL xs y := by
  unfold toL fromL
  cases chainB xs with
  | false => simp
  | true =>
    simp only [if_true, List.mem_map, List.mem_filter, decide_eq_true_eq]
    constructor
    · rintro ⟨l, ⟨h1, h2⟩, h3⟩; exact ⟨l, ⟨h1, h3⟩, h2⟩
    · rintro ⟨l, ⟨h1, h2⟩, h3⟩; exact ⟨l, ⟨h1, h3⟩, h2⟩
theorem flat_snoc {ws : List (List Int)} {k i : Nat} {w : List Int} {v : Int} (h : w[i]? = some v) : (ws.take k).flatten ++ w.take (i + 1) = ((ws.take k).flatten ++ w.take i) ++ [v] := by
  rw [take_snoc _ _ _ h, List.append_assoc]
end Go.SX
