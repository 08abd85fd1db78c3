/- links: Compact, ContainsFunc, Contains; Put, Of, of the reference; chain.Of. -/
import Derived.Test.YtkhjpgimjkofcaaCo1
set_option linter.unusedVariables false
set_option linter.unusedSimpArgs false
namespace Go.SX
open Go Go.Proofs

set_option maxHeartbeats 1600000 in
theorem compactP_c (H : Heap) (v : Value) (xs : List Lk) (ch : Chunk) (ho : OwnS pairE 37 H v xs ch) : Fc Try.prog (fnv 76) [v] H [ch] (fun v' H' L' => ∃ c', L' = [c'] ∧ OwnS pairE 37 H' v' (compactL xs) c') := by
  refine Fc.of_body (N := 61) Try.func76 rfl (by kernel_rfl) rfl rfl ?_
  intro w0
  obtain ⟨A, cap, rfl, hc1, hc2⟩ := ho.shape
  refine T.seq ?_
  refine T.region ?_
  refine R.asE rfl (by conv => lhs; whnf) ?_
  refine TL.nil (Post.thnN ?_)
  refine T.seq ?_
  refine T.seq ?_
  refine T.region ?_
  refine R.mvE rfl (by conv => lhs; whnf) ?_
  refine R.len Try.underlying22 rfl rfl ?_
  refine R.lss rfl rfl rfl ?_
  refine TL.nil (Post.thnN ?_)
  refine T.condD rfl (fun c8 => ?_) (fun c8 => ?_)
  · refine T.seq ?_
    refine T.region ?_
    refine R.mvE rfl (by conv => lhs; whnf) ?_
    refine R.asE rfl (by conv => lhs; whnf) ?_
    refine TL.nil (Post.thnN ?_)
    refine T.ret (Post.thnR ?_)
    -- way y
    exact fin1L [ch] rfl rfl (List.Sublist.refl _) ⟨_, rfl, by rw [compact_short (by omega)]; exact ho⟩
  · refine T.skip (Post.thnN ?_)
    refine T.seq ?_
    refine T.seq ?_
    refine T.region ?_
    refine R.asE rfl (by conv => lhs; whnf) ?_
    refine TL.nil (Post.thnN ?_)
    refine T.block ?_
    refine T.loop (ι := Nat) (fun k H' L' ds' => (1 ≤ k ∧ k ≤ xs.length) ∧ L' = [ch] ∧ ds' = [] ∧ compactL (xs.take k) = xs.take k) (fun k => [(0, .slice A xs.length cap), (3, .int .i64 k)]) (fun k => xs.length - k) (1) ?_ ?_ ?_
    · exact ⟨⟨by omega, by omega⟩, rfl, rfl, compact_one xs⟩
    · exact ⟨rfl, rfl, trivial⟩
    · intro k σ0 H_0 L_0 ds_0 s_0 hI_0
      obtain ⟨hk, rfl, rfl, hco⟩ := hI_0
      have ho := ho.mono s_0
      refine T.seq ?_
      refine T.seq ?_
      refine T.region ?_
      refine R.mvE rfl (by conv => lhs; whnf) ?_
      refine R.mvE rfl (by conv => lhs; whnf) ?_
      refine R.len Try.underlying22 rfl rfl ?_
      refine R.lss rfl rfl rfl ?_
      refine TL.nil (Post.thnN ?_)
      refine T.condD rfl (fun c13 => ?_) (fun c13 => ?_)
      · have hlt : k < xs.length := by omega
        obtain ⟨y, hy⟩ := getk hlt
        obtain ⟨z, hz⟩ := getk (xs := xs) (k := k - 1) (by omega)
        have hy1 : xs[k - 1 + 1]? = some y := by rw [show k - 1 + 1 = k by omega]; exact hy
        have hk2 : k + 1 = (k - 1) + 2 := by omega
        obtain ⟨b1, k1, cs1, l1, hce1, hve1, ix1, hR1, hcs1⟩ := ho.elem hy
        obtain rfl : l1 = [.int .i64 y.1, .int .i64 y.2] := hR1
        obtain ⟨b2, k2, cs2, l2, hce2, hve2, ix2, hR2, hcs2⟩ := ho.elem (show xs[((k : Int) - 1).toNat]? = some z by rw [show ((k : Int) - 1).toNat = k - 1 by omega]; exact hz)
        obtain rfl : l2 = [.int .i64 z.1, .int .i64 z.2] := hR2
        subst hce1
        obtain ⟨rfl, rfl⟩ : b1 = b2 ∧ cs1 = cs2 := by simpa using hce2
        refine T.skip (Post.thnN ?_)
        refine T.seq ?_
        refine T.block ?_
        refine T.seq ?_
        refine T.draw Try_mixed (by kernel_rfl) ?_
        refine Plan.v 0 [1, 2, 3, 4, 5, 6, 7, 8, 9] (by kernel_rfl) (by kernel_rfl) (by kernel_rfl) (by kernel_rfl) rfl (fun _ _ h_ => R.mvE rfl (by conv => lhs; whnf) (TL.nil h_)) ?_
        refine Plan.v 1 [2, 3, 4, 5, 6, 7, 8, 9] (by kernel_rfl) (by kernel_rfl) (by kernel_rfl) (by kernel_rfl) rfl (fun _ _ h_ => R.mvE rfl (by conv => lhs; whnf) (TL.nil h_)) ?_
        refine Plan.v 4 [2, 3, 5, 6, 7, 8, 9] (by kernel_rfl) (by kernel_rfl) (by kernel_rfl) (by kernel_rfl) rfl (fun _ _ h_ => R.mvE rfl (by conv => lhs; whnf) (TL.nil h_)) ?_
        refine Plan.v 5 [2, 3, 6, 7, 8, 9] (by kernel_rfl) (by kernel_rfl) (by kernel_rfl) (by kernel_rfl) rfl (fun _ _ h_ => R.mvE rfl (by conv => lhs; whnf) (TL.nil h_)) ?_
        refine Plan.v 6 [2, 3, 7, 8, 9] (by kernel_rfl) (by kernel_rfl) (by kernel_rfl) (by kernel_rfl) rfl (fun _ _ h_ => R.subI rfl rfl rfl (by omega) (TL.nil h_)) ?_
        refine Plan.s2 2 7 [3, 7, 8, 9] [2, 3, 8, 9] (by kernel_rfl) (by kernel_rfl) (by kernel_rfl) rfl rfl ?_ ?_
        · refine R.ixp Try.underlying22 Try.sizeOf37 rfl rfl rfl (by omega) ix1 ?_
          refine TL.nil (Plan.e1 (HLe.refl _) ?_)
          refine Plan.s2 3 7 [7, 8, 9] [3, 8, 9] (by kernel_rfl) (by kernel_rfl) (by kernel_rfl) rfl rfl ?_ ?_
          · refine R.ldAt Try.isAgg37 Try.sizeOf37 rfl rfl .hd rfl hcs1 ?_
            refine TL.nil (Plan.e1 (HLe.refl _) ?_)
            refine Plan.s1 7 [8, 9] (by kernel_rfl) (by kernel_rfl) rfl ?_
            refine R.ixp Try.underlying22 Try.sizeOf37 rfl rfl rfl (by omega) ix2 ?_
            refine TL.nil (Plan.e1 (HLe.refl _) ?_)
            refine Plan.s1 8 [9] (by kernel_rfl) (by kernel_rfl) rfl ?_
            refine R.ldAt Try.isAgg37 Try.sizeOf37 rfl rfl .hd rfl hcs2 ?_
            refine TL.nil (Plan.e1 (HLe.refl _) ?_)
            refine Plan.v 9 [] (by kernel_rfl) (by kernel_rfl) (by kernel_rfl) (by kernel_rfl) rfl (fun _ _ h_ => R.eqP (a := y) (b := z) Tryc_eqP Tryc_eqG rfl rfl rfl (TL.nil h_)) ?_
            refine Plan.done (Post.thnN ?_)
            refine T.condD rfl (fun c25 => ?_) (fun c25 => ?_)
            · refine T.seq ?_
              refine T.region ?_
              refine R.mvE rfl (by conv => lhs; whnf) ?_
              refine R.mvE rfl (by conv => lhs; whnf) ?_
              refine R.sL Try.underlying22 Try.sizeOf37 rfl rfl rfl (by omega) (by omega) ?_
              refine R.asE rfl (by conv => lhs; whnf) ?_
              refine TL.nil (Post.thnN ?_)
              refine T.seq ?_
              refine T.seq ?_
              refine T.region ?_
              refine R.asE rfl (by conv => lhs; whnf) ?_
              refine TL.nil (Post.thnN ?_)
              refine T.block ?_
              refine T.loop (ι := Nat × Nat × List Lk × Chunk) (fun ⟨i, j, cur, ch2⟩ H' L' ds' => (1 ≤ j ∧ k + j ≤ xs.length ∧ i + 1 ≤ k + j ∧ cur.length = xs.length) ∧ L' = [ch2] ∧ ds' = [] ∧ OwnS pairE 37 H' (.slice A cur.length cap) cur ch2 ∧ cur.take i = compactL (xs.take (k + j)) ∧ (∀ q, i ≤ q → cur[q]? = xs[q]?)) (fun ⟨i, j, cur, ch2⟩ => [(0, .slice A xs.length cap), (3, .int .i64 i), (4, slcV (.slice A xs.length cap) k xs.length cap 2), (5, .int .i64 j)]) (fun ⟨i, j, cur, ch2⟩ => xs.length - (k + j)) ((k, 1, xs, [(b1, .cells cs1 37)])) ?_ ?_ ?_
              · exact ⟨⟨by omega, by omega, by omega, rfl⟩, rfl, rfl, ho, by rw [hk2, compact_take hz hy1, if_pos c25, show k - 1 + 1 = k by omega, hco], fun q hq => rfl⟩
              · exact ⟨rfl, rfl, rfl, rfl, trivial⟩
              · intro ⟨i, j, cur, ch2⟩ σ1 H_1 L_1 ds_1 s_1 hI_1
                obtain ⟨⟨hj1, hj2, hij, hcl⟩, rfl, rfl, hw, htk, hrest⟩ := hI_1
                refine T.seq ?_
                refine T.seq ?_
                refine T.region ?_
                refine R.mvE rfl (by conv => lhs; whnf) ?_
                refine R.mvE rfl (by conv => lhs; whnf) ?_
                refine R.len Try.underlying22 rfl rfl ?_
                refine R.lss rfl rfl rfl ?_
                refine TL.nil (Post.thnN ?_)
                refine T.condD rfl (fun c32 => ?_) (fun c32 => ?_)
                · have hlt2 : k + j < xs.length := by omega
                  obtain ⟨y2, hy2⟩ := getk hlt2
                  obtain ⟨z2, hz2⟩ := getk (xs := xs) (k := k + j - 1) (by omega)
                  have hkj : k + (j + 1) = (k + j - 1) + 2 := by omega
                  have hkj1 : k + j - 1 + 1 = k + j := by omega
                  have hy2' : xs[k + j - 1 + 1]? = some y2 := by rw [hkj1]; exact hy2
                  have hcy : cur[k + j]? = some y2 := by rw [hrest _ (by omega)]; exact hy2
                  have hcz : cur[k + ((j : Int) - 1).toNat]? = some z2 := by rw [show k + ((j : Int) - 1).toNat = k + j - 1 by omega, hrest _ (by omega)]; exact hz2
                  obtain ⟨yi, hci⟩ := getk (xs := cur) (k := i) (by omega)
                  obtain ⟨b3, k3, cs3, l3, hce3, hve3, ix3, hR3, hcs3⟩ := hw.elem hcy
                  obtain rfl : l3 = [.int .i64 y2.1, .int .i64 y2.2] := hR3
                  obtain ⟨b4, k4, cs4, l4, hce4, hve4, ix4, hR4, hcs4⟩ := hw.elem hcz
                  obtain rfl : l4 = [.int .i64 z2.1, .int .i64 z2.2] := hR4
                  obtain ⟨b5, k5, cs5, l5, hce5, hve5, ix5, hR5, hcs5⟩ := hw.elem hci
                  subst hce3
                  obtain ⟨rfl, rfl⟩ : b3 = b4 ∧ cs3 = cs4 := by simpa using hce4
                  obtain ⟨rfl, rfl⟩ : b3 = b5 ∧ cs3 = cs5 := by simpa using hce5
                  obtain rfl : cap = k3 := by injection hve3
                  rw [hcl] at hve3
                  have ix3' := ix_off (sz := 2) (k := k) (i := j) hve3 (by omega) (by omega) (by omega)
                  have ix4' := ix_off (sz := 2) (k := k) (i := ((j : Int) - 1).toNat) hve3 (by omega) (by omega) (by omega)
                  refine T.skip (Post.thnN ?_)
                  refine T.seq ?_
                  refine T.block ?_
                  refine T.seq ?_
                  refine T.draw Try_mixed (by kernel_rfl) ?_
                  refine Plan.v 0 [1, 2, 3, 4, 5, 6, 7, 8, 9] (by kernel_rfl) (by kernel_rfl) (by kernel_rfl) (by kernel_rfl) rfl (fun _ _ h_ => R.mvE rfl (by conv => lhs; whnf) (TL.nil h_)) ?_
                  refine Plan.v 1 [2, 3, 4, 5, 6, 7, 8, 9] (by kernel_rfl) (by kernel_rfl) (by kernel_rfl) (by kernel_rfl) rfl (fun _ _ h_ => R.mvE rfl (by conv => lhs; whnf) (TL.nil h_)) ?_
                  refine Plan.v 4 [2, 3, 5, 6, 7, 8, 9] (by kernel_rfl) (by kernel_rfl) (by kernel_rfl) (by kernel_rfl) rfl (fun _ _ h_ => R.mvE rfl (by conv => lhs; whnf) (TL.nil h_)) ?_
                  refine Plan.v 5 [2, 3, 6, 7, 8, 9] (by kernel_rfl) (by kernel_rfl) (by kernel_rfl) (by kernel_rfl) rfl (fun _ _ h_ => R.mvE rfl (by conv => lhs; whnf) (TL.nil h_)) ?_
                  refine Plan.v 6 [2, 3, 7, 8, 9] (by kernel_rfl) (by kernel_rfl) (by kernel_rfl) (by kernel_rfl) rfl (fun _ _ h_ => R.subI rfl rfl rfl (by omega) (TL.nil h_)) ?_
                  refine Plan.s2 2 7 [3, 7, 8, 9] [2, 3, 8, 9] (by kernel_rfl) (by kernel_rfl) (by kernel_rfl) rfl rfl ?_ ?_
                  · refine R.ixp Try.underlying22 Try.sizeOf37 rfl rfl rfl (by omega) ix3' ?_
                    refine TL.nil (Plan.e1 (HLe.refl _) ?_)
                    refine Plan.s2 3 7 [7, 8, 9] [3, 8, 9] (by kernel_rfl) (by kernel_rfl) (by kernel_rfl) rfl rfl ?_ ?_
                    · refine R.ldAt Try.isAgg37 Try.sizeOf37 rfl rfl .hd rfl hcs3 ?_
                      refine TL.nil (Plan.e1 (HLe.refl _) ?_)
                      refine Plan.s1 7 [8, 9] (by kernel_rfl) (by kernel_rfl) rfl ?_
                      refine R.ixp Try.underlying22 Try.sizeOf37 rfl rfl rfl (by omega) ix4' ?_
                      refine TL.nil (Plan.e1 (HLe.refl _) ?_)
                      refine Plan.s1 8 [9] (by kernel_rfl) (by kernel_rfl) rfl ?_
                      refine R.ldAt Try.isAgg37 Try.sizeOf37 rfl rfl .hd rfl hcs4 ?_
                      refine TL.nil (Plan.e1 (HLe.refl _) ?_)
                      refine Plan.v 9 [] (by kernel_rfl) (by kernel_rfl) (by kernel_rfl) (by kernel_rfl) rfl (fun _ _ h_ => R.neP (a := y2) (b := z2) Tryc_eqP Tryc_eqG rfl rfl rfl (TL.nil h_)) ?_
                      refine Plan.done (Post.thnN ?_)
                      refine T.condD rfl (fun c44 => ?_) (fun c44 => ?_)
                      · refine T.seq ?_
                        refine T.region ?_
                        refine R.mvE rfl (by conv => lhs; whnf) ?_
                        refine R.mvE rfl (by conv => lhs; whnf) ?_
                        refine R.mvE rfl (by conv => lhs; whnf) ?_
                        refine R.mvE rfl (by conv => lhs; whnf) ?_
                        refine R.ixp Try.underlying22 Try.sizeOf37 rfl rfl rfl (by omega) ix3' ?_
                        refine R.ldAt Try.isAgg37 Try.sizeOf37 rfl rfl .hd rfl hcs3 ?_
                        refine R.ixp Try.underlying22 Try.sizeOf37 rfl rfl rfl (by omega) (by rw [← hcl]; exact ix5) ?_
                        refine R.stEA (y := y2) (l := [.int .i64 y2.1, .int .i64 y2.2]) Try.sizeOf37 rfl hw .hd ix5 rfl rfl rfl ?_
                        intro c51 w51
                        refine TL.nil (Post.thnN ?_)
                        refine T.region ?_
                        refine R.mvE rfl (by conv => lhs; whnf) ?_
                        refine R.addI rfl rfl rfl (by omega) ?_
                        refine R.asE rfl (by conv => lhs; whnf) ?_
                        refine TL.nil (Post.blkN ?_)
                        refine id (Post.thnN ?_)
                        refine T.region ?_
                        refine R.mvE rfl (by conv => lhs; whnf) ?_
                        refine R.addI rfl rfl rfl (by omega) ?_
                        refine R.asE rfl (by conv => lhs; whnf) ?_
                        refine TL.nil (Post.thnN ?_)
                        -- round's end, way ny00yy00y
                        exact ⟨(i + 1, j + 1, cur.set i y2, c51), s_1, ⟨⟨by omega, by show k + (j + 1) ≤ _; omega, by show i + 1 + 1 ≤ k + (j + 1); omega, by rw [List.length_set]; exact hcl⟩, rfl, rfl, by rw [List.length_set]; exact w51, by rw [set_take (by omega), htk, hkj, compact_take hz2 hy2', if_neg c44, hkj1], fun q hq => by rw [List.getElem?_set_ne (by omega)]; exact hrest q (by omega)⟩, by show xs.length - (k + (j + 1)) < xs.length - (k + j); omega, ⟨rfl, rfl, rfl, rfl, trivial⟩⟩
                      · refine T.skip (Post.blkN ?_)
                        refine id (Post.thnN ?_)
                        refine T.region ?_
                        refine R.mvE rfl (by conv => lhs; whnf) ?_
                        refine R.addI rfl rfl rfl (by omega) ?_
                        refine R.asE rfl (by conv => lhs; whnf) ?_
                        refine TL.nil (Post.thnN ?_)
                        -- round's end, way ny00yy00n
                        exact ⟨(i, j + 1, cur, [(b3, .cells cs3 37)]), s_1, ⟨⟨by omega, by show k + (j + 1) ≤ _; omega, by show i + 1 ≤ k + (j + 1); omega, hcl⟩, rfl, rfl, hw, by rw [htk, hkj, compact_take hz2 hy2', if_pos (Decidable.of_not_not c44), hkj1], hrest⟩, by show xs.length - (k + (j + 1)) < xs.length - (k + j); omega, ⟨rfl, rfl, rfl, rfl, trivial⟩⟩
                    · refine R.ixp Try.underlying22 Try.sizeOf37 rfl rfl rfl (by omega) ix4' ?_
                      refine TL.nil (Plan.e1 (HLe.refl _) ?_)
                      refine Plan.s2 3 8 [8, 9] [3, 9] (by kernel_rfl) (by kernel_rfl) (by kernel_rfl) rfl rfl ?_ ?_
                      · refine R.ldAt Try.isAgg37 Try.sizeOf37 rfl rfl .hd rfl hcs3 ?_
                        refine TL.nil (Plan.e1 (HLe.refl _) ?_)
                        refine Plan.s1 8 [9] (by kernel_rfl) (by kernel_rfl) rfl ?_
                        refine R.ldAt Try.isAgg37 Try.sizeOf37 rfl rfl .hd rfl hcs4 ?_
                        refine TL.nil (Plan.e1 (HLe.refl _) ?_)
                        refine Plan.v 9 [] (by kernel_rfl) (by kernel_rfl) (by kernel_rfl) (by kernel_rfl) rfl (fun _ _ h_ => R.neP (a := y2) (b := z2) Tryc_eqP Tryc_eqG rfl rfl rfl (TL.nil h_)) ?_
                        refine Plan.done (Post.thnN ?_)
                        refine T.condD rfl (fun c44 => ?_) (fun c44 => ?_)
                        · refine T.seq ?_
                          refine T.region ?_
                          refine R.mvE rfl (by conv => lhs; whnf) ?_
                          refine R.mvE rfl (by conv => lhs; whnf) ?_
                          refine R.mvE rfl (by conv => lhs; whnf) ?_
                          refine R.mvE rfl (by conv => lhs; whnf) ?_
                          refine R.ixp Try.underlying22 Try.sizeOf37 rfl rfl rfl (by omega) ix3' ?_
                          refine R.ldAt Try.isAgg37 Try.sizeOf37 rfl rfl .hd rfl hcs3 ?_
                          refine R.ixp Try.underlying22 Try.sizeOf37 rfl rfl rfl (by omega) (by rw [← hcl]; exact ix5) ?_
                          refine R.stEA (y := y2) (l := [.int .i64 y2.1, .int .i64 y2.2]) Try.sizeOf37 rfl hw .hd ix5 rfl rfl rfl ?_
                          intro c51 w51
                          refine TL.nil (Post.thnN ?_)
                          refine T.region ?_
                          refine R.mvE rfl (by conv => lhs; whnf) ?_
                          refine R.addI rfl rfl rfl (by omega) ?_
                          refine R.asE rfl (by conv => lhs; whnf) ?_
                          refine TL.nil (Post.blkN ?_)
                          refine id (Post.thnN ?_)
                          refine T.region ?_
                          refine R.mvE rfl (by conv => lhs; whnf) ?_
                          refine R.addI rfl rfl rfl (by omega) ?_
                          refine R.asE rfl (by conv => lhs; whnf) ?_
                          refine TL.nil (Post.thnN ?_)
                          -- round's end, way ny00yy010y
                          exact ⟨(i + 1, j + 1, cur.set i y2, c51), s_1, ⟨⟨by omega, by show k + (j + 1) ≤ _; omega, by show i + 1 + 1 ≤ k + (j + 1); omega, by rw [List.length_set]; exact hcl⟩, rfl, rfl, by rw [List.length_set]; exact w51, by rw [set_take (by omega), htk, hkj, compact_take hz2 hy2', if_neg c44, hkj1], fun q hq => by rw [List.getElem?_set_ne (by omega)]; exact hrest q (by omega)⟩, by show xs.length - (k + (j + 1)) < xs.length - (k + j); omega, ⟨rfl, rfl, rfl, rfl, trivial⟩⟩
                        · refine T.skip (Post.blkN ?_)
                          refine id (Post.thnN ?_)
                          refine T.region ?_
                          refine R.mvE rfl (by conv => lhs; whnf) ?_
                          refine R.addI rfl rfl rfl (by omega) ?_
                          refine R.asE rfl (by conv => lhs; whnf) ?_
                          refine TL.nil (Post.thnN ?_)
                          -- round's end, way ny00yy010n
                          exact ⟨(i, j + 1, cur, [(b3, .cells cs3 37)]), s_1, ⟨⟨by omega, by show k + (j + 1) ≤ _; omega, by show i + 1 ≤ k + (j + 1); omega, hcl⟩, rfl, rfl, hw, by rw [htk, hkj, compact_take hz2 hy2', if_pos (Decidable.of_not_not c44), hkj1], hrest⟩, by show xs.length - (k + (j + 1)) < xs.length - (k + j); omega, ⟨rfl, rfl, rfl, rfl, trivial⟩⟩
                      · refine R.ldAt Try.isAgg37 Try.sizeOf37 rfl rfl .hd rfl hcs4 ?_
                        refine TL.nil (Plan.e1 (HLe.refl _) ?_)
                        refine Plan.s1 3 [9] (by kernel_rfl) (by kernel_rfl) rfl ?_
                        refine R.ldAt Try.isAgg37 Try.sizeOf37 rfl rfl .hd rfl hcs3 ?_
                        refine TL.nil (Plan.e1 (HLe.refl _) ?_)
                        refine Plan.v 9 [] (by kernel_rfl) (by kernel_rfl) (by kernel_rfl) (by kernel_rfl) rfl (fun _ _ h_ => R.neP (a := y2) (b := z2) Tryc_eqP Tryc_eqG rfl rfl rfl (TL.nil h_)) ?_
                        refine Plan.done (Post.thnN ?_)
                        refine T.condD rfl (fun c44 => ?_) (fun c44 => ?_)
                        · refine T.seq ?_
                          refine T.region ?_
                          refine R.mvE rfl (by conv => lhs; whnf) ?_
                          refine R.mvE rfl (by conv => lhs; whnf) ?_
                          refine R.mvE rfl (by conv => lhs; whnf) ?_
                          refine R.mvE rfl (by conv => lhs; whnf) ?_
                          refine R.ixp Try.underlying22 Try.sizeOf37 rfl rfl rfl (by omega) ix3' ?_
                          refine R.ldAt Try.isAgg37 Try.sizeOf37 rfl rfl .hd rfl hcs3 ?_
                          refine R.ixp Try.underlying22 Try.sizeOf37 rfl rfl rfl (by omega) (by rw [← hcl]; exact ix5) ?_
                          refine R.stEA (y := y2) (l := [.int .i64 y2.1, .int .i64 y2.2]) Try.sizeOf37 rfl hw .hd ix5 rfl rfl rfl ?_
                          intro c51 w51
                          refine TL.nil (Post.thnN ?_)
                          refine T.region ?_
                          refine R.mvE rfl (by conv => lhs; whnf) ?_
                          refine R.addI rfl rfl rfl (by omega) ?_
                          refine R.asE rfl (by conv => lhs; whnf) ?_
                          refine TL.nil (Post.blkN ?_)
                          refine id (Post.thnN ?_)
                          refine T.region ?_
                          refine R.mvE rfl (by conv => lhs; whnf) ?_
                          refine R.addI rfl rfl rfl (by omega) ?_
                          refine R.asE rfl (by conv => lhs; whnf) ?_
                          refine TL.nil (Post.thnN ?_)
                          -- round's end, way ny00yy011y
                          exact ⟨(i + 1, j + 1, cur.set i y2, c51), s_1, ⟨⟨by omega, by show k + (j + 1) ≤ _; omega, by show i + 1 + 1 ≤ k + (j + 1); omega, by rw [List.length_set]; exact hcl⟩, rfl, rfl, by rw [List.length_set]; exact w51, by rw [set_take (by omega), htk, hkj, compact_take hz2 hy2', if_neg c44, hkj1], fun q hq => by rw [List.getElem?_set_ne (by omega)]; exact hrest q (by omega)⟩, by show xs.length - (k + (j + 1)) < xs.length - (k + j); omega, ⟨rfl, rfl, rfl, rfl, trivial⟩⟩
                        · refine T.skip (Post.blkN ?_)
                          refine id (Post.thnN ?_)
                          refine T.region ?_
                          refine R.mvE rfl (by conv => lhs; whnf) ?_
                          refine R.addI rfl rfl rfl (by omega) ?_
                          refine R.asE rfl (by conv => lhs; whnf) ?_
                          refine TL.nil (Post.thnN ?_)
                          -- round's end, way ny00yy011n
                          exact ⟨(i, j + 1, cur, [(b3, .cells cs3 37)]), s_1, ⟨⟨by omega, by show k + (j + 1) ≤ _; omega, by show i + 1 ≤ k + (j + 1); omega, hcl⟩, rfl, rfl, hw, by rw [htk, hkj, compact_take hz2 hy2', if_pos (Decidable.of_not_not c44), hkj1], hrest⟩, by show xs.length - (k + (j + 1)) < xs.length - (k + j); omega, ⟨rfl, rfl, rfl, rfl, trivial⟩⟩
                  · refine R.ixp Try.underlying22 Try.sizeOf37 rfl rfl rfl (by omega) ix4' ?_
                    refine TL.nil (Plan.e1 (HLe.refl _) ?_)
                    refine Plan.s2 2 8 [3, 8, 9] [2, 3, 9] (by kernel_rfl) (by kernel_rfl) (by kernel_rfl) rfl rfl ?_ ?_
                    · refine R.ixp Try.underlying22 Try.sizeOf37 rfl rfl rfl (by omega) ix3' ?_
                      refine TL.nil (Plan.e1 (HLe.refl _) ?_)
                      refine Plan.s2 3 8 [8, 9] [3, 9] (by kernel_rfl) (by kernel_rfl) (by kernel_rfl) rfl rfl ?_ ?_
                      · refine R.ldAt Try.isAgg37 Try.sizeOf37 rfl rfl .hd rfl hcs3 ?_
                        refine TL.nil (Plan.e1 (HLe.refl _) ?_)
                        refine Plan.s1 8 [9] (by kernel_rfl) (by kernel_rfl) rfl ?_
                        refine R.ldAt Try.isAgg37 Try.sizeOf37 rfl rfl .hd rfl hcs4 ?_
                        refine TL.nil (Plan.e1 (HLe.refl _) ?_)
                        refine Plan.v 9 [] (by kernel_rfl) (by kernel_rfl) (by kernel_rfl) (by kernel_rfl) rfl (fun _ _ h_ => R.neP (a := y2) (b := z2) Tryc_eqP Tryc_eqG rfl rfl rfl (TL.nil h_)) ?_
                        refine Plan.done (Post.thnN ?_)
                        refine T.condD rfl (fun c44 => ?_) (fun c44 => ?_)
                        · refine T.seq ?_
                          refine T.region ?_
                          refine R.mvE rfl (by conv => lhs; whnf) ?_
                          refine R.mvE rfl (by conv => lhs; whnf) ?_
                          refine R.mvE rfl (by conv => lhs; whnf) ?_
                          refine R.mvE rfl (by conv => lhs; whnf) ?_
                          refine R.ixp Try.underlying22 Try.sizeOf37 rfl rfl rfl (by omega) ix3' ?_
                          refine R.ldAt Try.isAgg37 Try.sizeOf37 rfl rfl .hd rfl hcs3 ?_
                          refine R.ixp Try.underlying22 Try.sizeOf37 rfl rfl rfl (by omega) (by rw [← hcl]; exact ix5) ?_
                          refine R.stEA (y := y2) (l := [.int .i64 y2.1, .int .i64 y2.2]) Try.sizeOf37 rfl hw .hd ix5 rfl rfl rfl ?_
                          intro c51 w51
                          refine TL.nil (Post.thnN ?_)
                          refine T.region ?_
                          refine R.mvE rfl (by conv => lhs; whnf) ?_
                          refine R.addI rfl rfl rfl (by omega) ?_
                          refine R.asE rfl (by conv => lhs; whnf) ?_
                          refine TL.nil (Post.blkN ?_)
                          refine id (Post.thnN ?_)
                          refine T.region ?_
                          refine R.mvE rfl (by conv => lhs; whnf) ?_
                          refine R.addI rfl rfl rfl (by omega) ?_
                          refine R.asE rfl (by conv => lhs; whnf) ?_
                          refine TL.nil (Post.thnN ?_)
                          -- round's end, way ny00yy100y
                          exact ⟨(i + 1, j + 1, cur.set i y2, c51), s_1, ⟨⟨by omega, by show k + (j + 1) ≤ _; omega, by show i + 1 + 1 ≤ k + (j + 1); omega, by rw [List.length_set]; exact hcl⟩, rfl, rfl, by rw [List.length_set]; exact w51, by rw [set_take (by omega), htk, hkj, compact_take hz2 hy2', if_neg c44, hkj1], fun q hq => by rw [List.getElem?_set_ne (by omega)]; exact hrest q (by omega)⟩, by show xs.length - (k + (j + 1)) < xs.length - (k + j); omega, ⟨rfl, rfl, rfl, rfl, trivial⟩⟩
                        · refine T.skip (Post.blkN ?_)
                          refine id (Post.thnN ?_)
                          refine T.region ?_
                          refine R.mvE rfl (by conv => lhs; whnf) ?_
                          refine R.addI rfl rfl rfl (by omega) ?_
                          refine R.asE rfl (by conv => lhs; whnf) ?_
                          refine TL.nil (Post.thnN ?_)
                          -- round's end, way ny00yy100n
                          exact ⟨(i, j + 1, cur, [(b3, .cells cs3 37)]), s_1, ⟨⟨by omega, by show k + (j + 1) ≤ _; omega, by show i + 1 ≤ k + (j + 1); omega, hcl⟩, rfl, rfl, hw, by rw [htk, hkj, compact_take hz2 hy2', if_pos (Decidable.of_not_not c44), hkj1], hrest⟩, by show xs.length - (k + (j + 1)) < xs.length - (k + j); omega, ⟨rfl, rfl, rfl, rfl, trivial⟩⟩
                      · refine R.ldAt Try.isAgg37 Try.sizeOf37 rfl rfl .hd rfl hcs4 ?_
                        refine TL.nil (Plan.e1 (HLe.refl _) ?_)
                        refine Plan.s1 3 [9] (by kernel_rfl) (by kernel_rfl) rfl ?_
                        refine R.ldAt Try.isAgg37 Try.sizeOf37 rfl rfl .hd rfl hcs3 ?_
                        refine TL.nil (Plan.e1 (HLe.refl _) ?_)
                        refine Plan.v 9 [] (by kernel_rfl) (by kernel_rfl) (by kernel_rfl) (by kernel_rfl) rfl (fun _ _ h_ => R.neP (a := y2) (b := z2) Tryc_eqP Tryc_eqG rfl rfl rfl (TL.nil h_)) ?_
                        refine Plan.done (Post.thnN ?_)
                        refine T.condD rfl (fun c44 => ?_) (fun c44 => ?_)
                        · refine T.seq ?_
                          refine T.region ?_
                          refine R.mvE rfl (by conv => lhs; whnf) ?_
                          refine R.mvE rfl (by conv => lhs; whnf) ?_
                          refine R.mvE rfl (by conv => lhs; whnf) ?_
                          refine R.mvE rfl (by conv => lhs; whnf) ?_
                          refine R.ixp Try.underlying22 Try.sizeOf37 rfl rfl rfl (by omega) ix3' ?_
                          refine R.ldAt Try.isAgg37 Try.sizeOf37 rfl rfl .hd rfl hcs3 ?_
                          refine R.ixp Try.underlying22 Try.sizeOf37 rfl rfl rfl (by omega) (by rw [← hcl]; exact ix5) ?_
                          refine R.stEA (y := y2) (l := [.int .i64 y2.1, .int .i64 y2.2]) Try.sizeOf37 rfl hw .hd ix5 rfl rfl rfl ?_
                          intro c51 w51
                          refine TL.nil (Post.thnN ?_)
                          refine T.region ?_
                          refine R.mvE rfl (by conv => lhs; whnf) ?_
                          refine R.addI rfl rfl rfl (by omega) ?_
                          refine R.asE rfl (by conv => lhs; whnf) ?_
                          refine TL.nil (Post.blkN ?_)
                          refine id (Post.thnN ?_)
                          refine T.region ?_
                          refine R.mvE rfl (by conv => lhs; whnf) ?_
                          refine R.addI rfl rfl rfl (by omega) ?_
                          refine R.asE rfl (by conv => lhs; whnf) ?_
                          refine TL.nil (Post.thnN ?_)
                          -- round's end, way ny00yy101y
                          exact ⟨(i + 1, j + 1, cur.set i y2, c51), s_1, ⟨⟨by omega, by show k + (j + 1) ≤ _; omega, by show i + 1 + 1 ≤ k + (j + 1); omega, by rw [List.length_set]; exact hcl⟩, rfl, rfl, by rw [List.length_set]; exact w51, by rw [set_take (by omega), htk, hkj, compact_take hz2 hy2', if_neg c44, hkj1], fun q hq => by rw [List.getElem?_set_ne (by omega)]; exact hrest q (by omega)⟩, by show xs.length - (k + (j + 1)) < xs.length - (k + j); omega, ⟨rfl, rfl, rfl, rfl, trivial⟩⟩
                        · refine T.skip (Post.blkN ?_)
                          refine id (Post.thnN ?_)
                          refine T.region ?_
                          refine R.mvE rfl (by conv => lhs; whnf) ?_
                          refine R.addI rfl rfl rfl (by omega) ?_
                          refine R.asE rfl (by conv => lhs; whnf) ?_
                          refine TL.nil (Post.thnN ?_)
                          -- round's end, way ny00yy101n
                          exact ⟨(i, j + 1, cur, [(b3, .cells cs3 37)]), s_1, ⟨⟨by omega, by show k + (j + 1) ≤ _; omega, by show i + 1 ≤ k + (j + 1); omega, hcl⟩, rfl, rfl, hw, by rw [htk, hkj, compact_take hz2 hy2', if_pos (Decidable.of_not_not c44), hkj1], hrest⟩, by show xs.length - (k + (j + 1)) < xs.length - (k + j); omega, ⟨rfl, rfl, rfl, rfl, trivial⟩⟩
                    · refine R.ldAt Try.isAgg37 Try.sizeOf37 rfl rfl .hd rfl hcs4 ?_
                      refine TL.nil (Plan.e1 (HLe.refl _) ?_)
                      refine Plan.s1 2 [3, 9] (by kernel_rfl) (by kernel_rfl) rfl ?_
                      refine R.ixp Try.underlying22 Try.sizeOf37 rfl rfl rfl (by omega) ix3' ?_
                      refine TL.nil (Plan.e1 (HLe.refl _) ?_)
                      refine Plan.s1 3 [9] (by kernel_rfl) (by kernel_rfl) rfl ?_
                      refine R.ldAt Try.isAgg37 Try.sizeOf37 rfl rfl .hd rfl hcs3 ?_
                      refine TL.nil (Plan.e1 (HLe.refl _) ?_)
                      refine Plan.v 9 [] (by kernel_rfl) (by kernel_rfl) (by kernel_rfl) (by kernel_rfl) rfl (fun _ _ h_ => R.neP (a := y2) (b := z2) Tryc_eqP Tryc_eqG rfl rfl rfl (TL.nil h_)) ?_
                      refine Plan.done (Post.thnN ?_)
                      refine T.condD rfl (fun c44 => ?_) (fun c44 => ?_)
                      · refine T.seq ?_
                        refine T.region ?_
                        refine R.mvE rfl (by conv => lhs; whnf) ?_
                        refine R.mvE rfl (by conv => lhs; whnf) ?_
                        refine R.mvE rfl (by conv => lhs; whnf) ?_
                        refine R.mvE rfl (by conv => lhs; whnf) ?_
                        refine R.ixp Try.underlying22 Try.sizeOf37 rfl rfl rfl (by omega) ix3' ?_
                        refine R.ldAt Try.isAgg37 Try.sizeOf37 rfl rfl .hd rfl hcs3 ?_
                        refine R.ixp Try.underlying22 Try.sizeOf37 rfl rfl rfl (by omega) (by rw [← hcl]; exact ix5) ?_
                        refine R.stEA (y := y2) (l := [.int .i64 y2.1, .int .i64 y2.2]) Try.sizeOf37 rfl hw .hd ix5 rfl rfl rfl ?_
                        intro c51 w51
                        refine TL.nil (Post.thnN ?_)
                        refine T.region ?_
                        refine R.mvE rfl (by conv => lhs; whnf) ?_
                        refine R.addI rfl rfl rfl (by omega) ?_
                        refine R.asE rfl (by conv => lhs; whnf) ?_
                        refine TL.nil (Post.blkN ?_)
                        refine id (Post.thnN ?_)
                        refine T.region ?_
                        refine R.mvE rfl (by conv => lhs; whnf) ?_
                        refine R.addI rfl rfl rfl (by omega) ?_
                        refine R.asE rfl (by conv => lhs; whnf) ?_
                        refine TL.nil (Post.thnN ?_)
                        -- round's end, way ny00yy11y
                        exact ⟨(i + 1, j + 1, cur.set i y2, c51), s_1, ⟨⟨by omega, by show k + (j + 1) ≤ _; omega, by show i + 1 + 1 ≤ k + (j + 1); omega, by rw [List.length_set]; exact hcl⟩, rfl, rfl, by rw [List.length_set]; exact w51, by rw [set_take (by omega), htk, hkj, compact_take hz2 hy2', if_neg c44, hkj1], fun q hq => by rw [List.getElem?_set_ne (by omega)]; exact hrest q (by omega)⟩, by show xs.length - (k + (j + 1)) < xs.length - (k + j); omega, ⟨rfl, rfl, rfl, rfl, trivial⟩⟩
                      · refine T.skip (Post.blkN ?_)
                        refine id (Post.thnN ?_)
                        refine T.region ?_
                        refine R.mvE rfl (by conv => lhs; whnf) ?_
                        refine R.addI rfl rfl rfl (by omega) ?_
                        refine R.asE rfl (by conv => lhs; whnf) ?_
                        refine TL.nil (Post.thnN ?_)
                        -- round's end, way ny00yy11n
                        exact ⟨(i, j + 1, cur, [(b3, .cells cs3 37)]), s_1, ⟨⟨by omega, by show k + (j + 1) ≤ _; omega, by show i + 1 ≤ k + (j + 1); omega, hcl⟩, rfl, rfl, hw, by rw [htk, hkj, compact_take hz2 hy2', if_pos (Decidable.of_not_not c44), hkj1], hrest⟩, by show xs.length - (k + (j + 1)) < xs.length - (k + j); omega, ⟨rfl, rfl, rfl, rfl, trivial⟩⟩
                · have hje : k + j = xs.length := by omega
                  rw [hje, List.take_length] at htk
                  have hil : (cur.take i).length = i := by simp; omega
                  refine T.exit (Post.thnE (Post.thnE (Post.blkX ?_)))
                  refine id (Post.thnN ?_)
                  refine T.seq ?_
                  refine T.region ?_
                  refine R.mvE rfl (by conv => lhs; whnf) ?_
                  refine R.mvE rfl (by conv => lhs; whnf) ?_
                  refine R.sL Try.underlying22 Try.sizeOf37 rfl rfl rfl (by omega) (by omega) ?_
                  refine R.clr (dd := none) (xs := cur.take i) Try_ty22 (zone_of (z := .agg #[.int .i64 0, .int .i64 0]) (by kernel_rfl) (by intro v hv; simp [Value.cells] at hv; rcases hv with rfl | rfl <;> rfl)) rfl (fun q h => by cases h) (m := xs.length) (by rw [hil]; rfl) (by rw [hil]; exact own_take0 hw (by omega)) .hd (by omega) (by omega) ?_
                  intro c57 w57
                  refine TL.nil (Post.thnN ?_)
                  refine T.seq ?_
                  refine T.region ?_
                  refine R.mvE rfl (by conv => lhs; whnf) ?_
                  refine R.mvE rfl (by conv => lhs; whnf) ?_
                  refine R.sH Try.underlying22 Try.sizeOf37 rfl rfl rfl (by omega) (by omega) ?_
                  refine R.asE rfl (by conv => lhs; whnf) ?_
                  refine TL.nil (Post.thnN ?_)
                  refine T.ret (Post.blkR (Post.thnR (Post.thnR (Post.blkR (Post.thnR ?_)))))
                  -- way ny00yn
                  refine fin1L [c57] rfl rfl (List.Sublist.refl _) ⟨_, rfl, ?_⟩
                  show OwnS pairE 37 _ (slcV (.slice A xs.length cap) 0 i cap 2) (compactL xs) c57
                  rw [slc_take0, ← htk]
                  rw [hil] at w57
                  exact w57
            · refine T.skip (Post.blkN ?_)
              refine id (Post.thnN ?_)
              refine T.region ?_
              refine R.mvE rfl (by conv => lhs; whnf) ?_
              refine R.addI rfl rfl rfl (by omega) ?_
              refine R.asE rfl (by conv => lhs; whnf) ?_
              refine TL.nil (Post.thnN ?_)
              -- round's end, way ny00n
              exact ⟨k + 1, s_0, ⟨⟨by omega, by omega⟩, rfl, rfl, by rw [show k + 1 = (k - 1) + 2 by omega, compact_take hz hy1, if_neg c25, show k - 1 + 1 = k by omega, hco, show k - 1 + 2 = k + 1 by omega, take_snoc _ _ _ hy]⟩, by omega, ⟨rfl, rfl, trivial⟩⟩
          · refine R.ixp Try.underlying22 Try.sizeOf37 rfl rfl rfl (by omega) ix2 ?_
            refine TL.nil (Plan.e1 (HLe.refl _) ?_)
            refine Plan.s2 3 8 [8, 9] [3, 9] (by kernel_rfl) (by kernel_rfl) (by kernel_rfl) rfl rfl ?_ ?_
            · refine R.ldAt Try.isAgg37 Try.sizeOf37 rfl rfl .hd rfl hcs1 ?_
              refine TL.nil (Plan.e1 (HLe.refl _) ?_)
              refine Plan.s1 8 [9] (by kernel_rfl) (by kernel_rfl) rfl ?_
              refine R.ldAt Try.isAgg37 Try.sizeOf37 rfl rfl .hd rfl hcs2 ?_
              refine TL.nil (Plan.e1 (HLe.refl _) ?_)
              refine Plan.v 9 [] (by kernel_rfl) (by kernel_rfl) (by kernel_rfl) (by kernel_rfl) rfl (fun _ _ h_ => R.eqP (a := y) (b := z) Tryc_eqP Tryc_eqG rfl rfl rfl (TL.nil h_)) ?_
              refine Plan.done (Post.thnN ?_)
              refine T.condD rfl (fun c25 => ?_) (fun c25 => ?_)
              · refine T.seq ?_
                refine T.region ?_
                refine R.mvE rfl (by conv => lhs; whnf) ?_
                refine R.mvE rfl (by conv => lhs; whnf) ?_
                refine R.sL Try.underlying22 Try.sizeOf37 rfl rfl rfl (by omega) (by omega) ?_
                refine R.asE rfl (by conv => lhs; whnf) ?_
                refine TL.nil (Post.thnN ?_)
                refine T.seq ?_
                refine T.seq ?_
                refine T.region ?_
                refine R.asE rfl (by conv => lhs; whnf) ?_
                refine TL.nil (Post.thnN ?_)
                refine T.block ?_
                refine T.loop (ι := Nat × Nat × List Lk × Chunk) (fun ⟨i, j, cur, ch2⟩ H' L' ds' => (1 ≤ j ∧ k + j ≤ xs.length ∧ i + 1 ≤ k + j ∧ cur.length = xs.length) ∧ L' = [ch2] ∧ ds' = [] ∧ OwnS pairE 37 H' (.slice A cur.length cap) cur ch2 ∧ cur.take i = compactL (xs.take (k + j)) ∧ (∀ q, i ≤ q → cur[q]? = xs[q]?)) (fun ⟨i, j, cur, ch2⟩ => [(0, .slice A xs.length cap), (3, .int .i64 i), (4, slcV (.slice A xs.length cap) k xs.length cap 2), (5, .int .i64 j)]) (fun ⟨i, j, cur, ch2⟩ => xs.length - (k + j)) ((k, 1, xs, [(b1, .cells cs1 37)])) ?_ ?_ ?_
                · exact ⟨⟨by omega, by omega, by omega, rfl⟩, rfl, rfl, ho, by rw [hk2, compact_take hz hy1, if_pos c25, show k - 1 + 1 = k by omega, hco], fun q hq => rfl⟩
                · exact ⟨rfl, rfl, rfl, rfl, trivial⟩
                · intro ⟨i, j, cur, ch2⟩ σ2 H_2 L_2 ds_2 s_2 hI_2
                  obtain ⟨⟨hj1, hj2, hij, hcl⟩, rfl, rfl, hw, htk, hrest⟩ := hI_2
                  refine T.seq ?_
                  refine T.seq ?_
                  refine T.region ?_
                  refine R.mvE rfl (by conv => lhs; whnf) ?_
                  refine R.mvE rfl (by conv => lhs; whnf) ?_
                  refine R.len Try.underlying22 rfl rfl ?_
                  refine R.lss rfl rfl rfl ?_
                  refine TL.nil (Post.thnN ?_)
                  refine T.condD rfl (fun c32 => ?_) (fun c32 => ?_)
                  · have hlt2 : k + j < xs.length := by omega
                    obtain ⟨y2, hy2⟩ := getk hlt2
                    obtain ⟨z2, hz2⟩ := getk (xs := xs) (k := k + j - 1) (by omega)
                    have hkj : k + (j + 1) = (k + j - 1) + 2 := by omega
                    have hkj1 : k + j - 1 + 1 = k + j := by omega
                    have hy2' : xs[k + j - 1 + 1]? = some y2 := by rw [hkj1]; exact hy2
                    have hcy : cur[k + j]? = some y2 := by rw [hrest _ (by omega)]; exact hy2
                    have hcz : cur[k + ((j : Int) - 1).toNat]? = some z2 := by rw [show k + ((j : Int) - 1).toNat = k + j - 1 by omega, hrest _ (by omega)]; exact hz2
                    obtain ⟨yi, hci⟩ := getk (xs := cur) (k := i) (by omega)
                    obtain ⟨b3, k3, cs3, l3, hce3, hve3, ix3, hR3, hcs3⟩ := hw.elem hcy
                    obtain rfl : l3 = [.int .i64 y2.1, .int .i64 y2.2] := hR3
                    obtain ⟨b4, k4, cs4, l4, hce4, hve4, ix4, hR4, hcs4⟩ := hw.elem hcz
                    obtain rfl : l4 = [.int .i64 z2.1, .int .i64 z2.2] := hR4
                    obtain ⟨b5, k5, cs5, l5, hce5, hve5, ix5, hR5, hcs5⟩ := hw.elem hci
                    subst hce3
                    obtain ⟨rfl, rfl⟩ : b3 = b4 ∧ cs3 = cs4 := by simpa using hce4
                    obtain ⟨rfl, rfl⟩ : b3 = b5 ∧ cs3 = cs5 := by simpa using hce5
                    obtain rfl : cap = k3 := by injection hve3
                    rw [hcl] at hve3
                    have ix3' := ix_off (sz := 2) (k := k) (i := j) hve3 (by omega) (by omega) (by omega)
                    have ix4' := ix_off (sz := 2) (k := k) (i := ((j : Int) - 1).toNat) hve3 (by omega) (by omega) (by omega)
                    refine T.skip (Post.thnN ?_)
                    refine T.seq ?_
                    refine T.block ?_
                    refine T.seq ?_
                    refine T.draw Try_mixed (by kernel_rfl) ?_
                    refine Plan.v 0 [1, 2, 3, 4, 5, 6, 7, 8, 9] (by kernel_rfl) (by kernel_rfl) (by kernel_rfl) (by kernel_rfl) rfl (fun _ _ h_ => R.mvE rfl (by conv => lhs; whnf) (TL.nil h_)) ?_
                    refine Plan.v 1 [2, 3, 4, 5, 6, 7, 8, 9] (by kernel_rfl) (by kernel_rfl) (by kernel_rfl) (by kernel_rfl) rfl (fun _ _ h_ => R.mvE rfl (by conv => lhs; whnf) (TL.nil h_)) ?_
                    refine Plan.v 4 [2, 3, 5, 6, 7, 8, 9] (by kernel_rfl) (by kernel_rfl) (by kernel_rfl) (by kernel_rfl) rfl (fun _ _ h_ => R.mvE rfl (by conv => lhs; whnf) (TL.nil h_)) ?_
                    refine Plan.v 5 [2, 3, 6, 7, 8, 9] (by kernel_rfl) (by kernel_rfl) (by kernel_rfl) (by kernel_rfl) rfl (fun _ _ h_ => R.mvE rfl (by conv => lhs; whnf) (TL.nil h_)) ?_
                    refine Plan.v 6 [2, 3, 7, 8, 9] (by kernel_rfl) (by kernel_rfl) (by kernel_rfl) (by kernel_rfl) rfl (fun _ _ h_ => R.subI rfl rfl rfl (by omega) (TL.nil h_)) ?_
                    refine Plan.s2 2 7 [3, 7, 8, 9] [2, 3, 8, 9] (by kernel_rfl) (by kernel_rfl) (by kernel_rfl) rfl rfl ?_ ?_
                    · refine R.ixp Try.underlying22 Try.sizeOf37 rfl rfl rfl (by omega) ix3' ?_
                      refine TL.nil (Plan.e1 (HLe.refl _) ?_)
                      refine Plan.s2 3 7 [7, 8, 9] [3, 8, 9] (by kernel_rfl) (by kernel_rfl) (by kernel_rfl) rfl rfl ?_ ?_
                      · refine R.ldAt Try.isAgg37 Try.sizeOf37 rfl rfl .hd rfl hcs3 ?_
                        refine TL.nil (Plan.e1 (HLe.refl _) ?_)
                        refine Plan.s1 7 [8, 9] (by kernel_rfl) (by kernel_rfl) rfl ?_
                        refine R.ixp Try.underlying22 Try.sizeOf37 rfl rfl rfl (by omega) ix4' ?_
                        refine TL.nil (Plan.e1 (HLe.refl _) ?_)
                        refine Plan.s1 8 [9] (by kernel_rfl) (by kernel_rfl) rfl ?_
                        refine R.ldAt Try.isAgg37 Try.sizeOf37 rfl rfl .hd rfl hcs4 ?_
                        refine TL.nil (Plan.e1 (HLe.refl _) ?_)
                        refine Plan.v 9 [] (by kernel_rfl) (by kernel_rfl) (by kernel_rfl) (by kernel_rfl) rfl (fun _ _ h_ => R.neP (a := y2) (b := z2) Tryc_eqP Tryc_eqG rfl rfl rfl (TL.nil h_)) ?_
                        refine Plan.done (Post.thnN ?_)
                        refine T.condD rfl (fun c44 => ?_) (fun c44 => ?_)
                        · refine T.seq ?_
                          refine T.region ?_
                          refine R.mvE rfl (by conv => lhs; whnf) ?_
                          refine R.mvE rfl (by conv => lhs; whnf) ?_
                          refine R.mvE rfl (by conv => lhs; whnf) ?_
                          refine R.mvE rfl (by conv => lhs; whnf) ?_
                          refine R.ixp Try.underlying22 Try.sizeOf37 rfl rfl rfl (by omega) ix3' ?_
                          refine R.ldAt Try.isAgg37 Try.sizeOf37 rfl rfl .hd rfl hcs3 ?_
                          refine R.ixp Try.underlying22 Try.sizeOf37 rfl rfl rfl (by omega) (by rw [← hcl]; exact ix5) ?_
                          refine R.stEA (y := y2) (l := [.int .i64 y2.1, .int .i64 y2.2]) Try.sizeOf37 rfl hw .hd ix5 rfl rfl rfl ?_
                          intro c51 w51
                          refine TL.nil (Post.thnN ?_)
                          refine T.region ?_
                          refine R.mvE rfl (by conv => lhs; whnf) ?_
                          refine R.addI rfl rfl rfl (by omega) ?_
                          refine R.asE rfl (by conv => lhs; whnf) ?_
                          refine TL.nil (Post.blkN ?_)
                          refine id (Post.thnN ?_)
                          refine T.region ?_
                          refine R.mvE rfl (by conv => lhs; whnf) ?_
                          refine R.addI rfl rfl rfl (by omega) ?_
                          refine R.asE rfl (by conv => lhs; whnf) ?_
                          refine TL.nil (Post.thnN ?_)
                          -- round's end, way ny010yy00y
                          exact ⟨(i + 1, j + 1, cur.set i y2, c51), s_2, ⟨⟨by omega, by show k + (j + 1) ≤ _; omega, by show i + 1 + 1 ≤ k + (j + 1); omega, by rw [List.length_set]; exact hcl⟩, rfl, rfl, by rw [List.length_set]; exact w51, by rw [set_take (by omega), htk, hkj, compact_take hz2 hy2', if_neg c44, hkj1], fun q hq => by rw [List.getElem?_set_ne (by omega)]; exact hrest q (by omega)⟩, by show xs.length - (k + (j + 1)) < xs.length - (k + j); omega, ⟨rfl, rfl, rfl, rfl, trivial⟩⟩
                        · refine T.skip (Post.blkN ?_)
                          refine id (Post.thnN ?_)
                          refine T.region ?_
                          refine R.mvE rfl (by conv => lhs; whnf) ?_
                          refine R.addI rfl rfl rfl (by omega) ?_
                          refine R.asE rfl (by conv => lhs; whnf) ?_
                          refine TL.nil (Post.thnN ?_)
                          -- round's end, way ny010yy00n
                          exact ⟨(i, j + 1, cur, [(b3, .cells cs3 37)]), s_2, ⟨⟨by omega, by show k + (j + 1) ≤ _; omega, by show i + 1 ≤ k + (j + 1); omega, hcl⟩, rfl, rfl, hw, by rw [htk, hkj, compact_take hz2 hy2', if_pos (Decidable.of_not_not c44), hkj1], hrest⟩, by show xs.length - (k + (j + 1)) < xs.length - (k + j); omega, ⟨rfl, rfl, rfl, rfl, trivial⟩⟩
                      · refine R.ixp Try.underlying22 Try.sizeOf37 rfl rfl rfl (by omega) ix4' ?_
                        refine TL.nil (Plan.e1 (HLe.refl _) ?_)
                        refine Plan.s2 3 8 [8, 9] [3, 9] (by kernel_rfl) (by kernel_rfl) (by kernel_rfl) rfl rfl ?_ ?_
                        · refine R.ldAt Try.isAgg37 Try.sizeOf37 rfl rfl .hd rfl hcs3 ?_
                          refine TL.nil (Plan.e1 (HLe.refl _) ?_)
                          refine Plan.s1 8 [9] (by kernel_rfl) (by kernel_rfl) rfl ?_
                          refine R.ldAt Try.isAgg37 Try.sizeOf37 rfl rfl .hd rfl hcs4 ?_
                          refine TL.nil (Plan.e1 (HLe.refl _) ?_)
                          refine Plan.v 9 [] (by kernel_rfl) (by kernel_rfl) (by kernel_rfl) (by kernel_rfl) rfl (fun _ _ h_ => R.neP (a := y2) (b := z2) Tryc_eqP Tryc_eqG rfl rfl rfl (TL.nil h_)) ?_
                          refine Plan.done (Post.thnN ?_)
                          refine T.condD rfl (fun c44 => ?_) (fun c44 => ?_)
                          · refine T.seq ?_
                            refine T.region ?_
                            refine R.mvE rfl (by conv => lhs; whnf) ?_
                            refine R.mvE rfl (by conv => lhs; whnf) ?_
                            refine R.mvE rfl (by conv => lhs; whnf) ?_
                            refine R.mvE rfl (by conv => lhs; whnf) ?_
                            refine R.ixp Try.underlying22 Try.sizeOf37 rfl rfl rfl (by omega) ix3' ?_
                            refine R.ldAt Try.isAgg37 Try.sizeOf37 rfl rfl .hd rfl hcs3 ?_
                            refine R.ixp Try.underlying22 Try.sizeOf37 rfl rfl rfl (by omega) (by rw [← hcl]; exact ix5) ?_
                            refine R.stEA (y := y2) (l := [.int .i64 y2.1, .int .i64 y2.2]) Try.sizeOf37 rfl hw .hd ix5 rfl rfl rfl ?_
                            intro c51 w51
                            refine TL.nil (Post.thnN ?_)
                            refine T.region ?_
                            refine R.mvE rfl (by conv => lhs; whnf) ?_
                            refine R.addI rfl rfl rfl (by omega) ?_
                            refine R.asE rfl (by conv => lhs; whnf) ?_
                            refine TL.nil (Post.blkN ?_)
                            refine id (Post.thnN ?_)
                            refine T.region ?_
                            refine R.mvE rfl (by conv => lhs; whnf) ?_
                            refine R.addI rfl rfl rfl (by omega) ?_
                            refine R.asE rfl (by conv => lhs; whnf) ?_
                            refine TL.nil (Post.thnN ?_)
                            -- round's end, way ny010yy010y
                            exact ⟨(i + 1, j + 1, cur.set i y2, c51), s_2, ⟨⟨by omega, by show k + (j + 1) ≤ _; omega, by show i + 1 + 1 ≤ k + (j + 1); omega, by rw [List.length_set]; exact hcl⟩, rfl, rfl, by rw [List.length_set]; exact w51, by rw [set_take (by omega), htk, hkj, compact_take hz2 hy2', if_neg c44, hkj1], fun q hq => by rw [List.getElem?_set_ne (by omega)]; exact hrest q (by omega)⟩, by show xs.length - (k + (j + 1)) < xs.length - (k + j); omega, ⟨rfl, rfl, rfl, rfl, trivial⟩⟩
                          · refine T.skip (Post.blkN ?_)
                            refine id (Post.thnN ?_)
                            refine T.region ?_
                            refine R.mvE rfl (by conv => lhs; whnf) ?_
                            refine R.addI rfl rfl rfl (by omega) ?_
                            refine R.asE rfl (by conv => lhs; whnf) ?_
                            refine TL.nil (Post.thnN ?_)
                            -- round's end, way ny010yy010n
                            exact ⟨(i, j + 1, cur, [(b3, .cells cs3 37)]), s_2, ⟨⟨by omega, by show k + (j + 1) ≤ _; omega, by show i + 1 ≤ k + (j + 1); omega, hcl⟩, rfl, rfl, hw, by rw [htk, hkj, compact_take hz2 hy2', if_pos (Decidable.of_not_not c44), hkj1], hrest⟩, by show xs.length - (k + (j + 1)) < xs.length - (k + j); omega, ⟨rfl, rfl, rfl, rfl, trivial⟩⟩
                        · refine R.ldAt Try.isAgg37 Try.sizeOf37 rfl rfl .hd rfl hcs4 ?_
                          refine TL.nil (Plan.e1 (HLe.refl _) ?_)
                          refine Plan.s1 3 [9] (by kernel_rfl) (by kernel_rfl) rfl ?_
                          refine R.ldAt Try.isAgg37 Try.sizeOf37 rfl rfl .hd rfl hcs3 ?_
                          refine TL.nil (Plan.e1 (HLe.refl _) ?_)
                          refine Plan.v 9 [] (by kernel_rfl) (by kernel_rfl) (by kernel_rfl) (by kernel_rfl) rfl (fun _ _ h_ => R.neP (a := y2) (b := z2) Tryc_eqP Tryc_eqG rfl rfl rfl (TL.nil h_)) ?_
                          refine Plan.done (Post.thnN ?_)
                          refine T.condD rfl (fun c44 => ?_) (fun c44 => ?_)
                          · refine T.seq ?_
                            refine T.region ?_
                            refine R.mvE rfl (by conv => lhs; whnf) ?_
                            refine R.mvE rfl (by conv => lhs; whnf) ?_
                            refine R.mvE rfl (by conv => lhs; whnf) ?_
                            refine R.mvE rfl (by conv => lhs; whnf) ?_
                            refine R.ixp Try.underlying22 Try.sizeOf37 rfl rfl rfl (by omega) ix3' ?_
                            refine R.ldAt Try.isAgg37 Try.sizeOf37 rfl rfl .hd rfl hcs3 ?_
                            refine R.ixp Try.underlying22 Try.sizeOf37 rfl rfl rfl (by omega) (by rw [← hcl]; exact ix5) ?_
                            refine R.stEA (y := y2) (l := [.int .i64 y2.1, .int .i64 y2.2]) Try.sizeOf37 rfl hw .hd ix5 rfl rfl rfl ?_
                            intro c51 w51
                            refine TL.nil (Post.thnN ?_)
                            refine T.region ?_
                            refine R.mvE rfl (by conv => lhs; whnf) ?_
                            refine R.addI rfl rfl rfl (by omega) ?_
                            refine R.asE rfl (by conv => lhs; whnf) ?_
                            refine TL.nil (Post.blkN ?_)
                            refine id (Post.thnN ?_)
                            refine T.region ?_
                            refine R.mvE rfl (by conv => lhs; whnf) ?_
                            refine R.addI rfl rfl rfl (by omega) ?_
                            refine R.asE rfl (by conv => lhs; whnf) ?_
                            refine TL.nil (Post.thnN ?_)
                            -- round's end, way ny010yy011y
                            exact ⟨(i + 1, j + 1, cur.set i y2, c51), s_2, ⟨⟨by omega, by show k + (j + 1) ≤ _; omega, by show i + 1 + 1 ≤ k + (j + 1); omega, by rw [List.length_set]; exact hcl⟩, rfl, rfl, by rw [List.length_set]; exact w51, by rw [set_take (by omega), htk, hkj, compact_take hz2 hy2', if_neg c44, hkj1], fun q hq => by rw [List.getElem?_set_ne (by omega)]; exact hrest q (by omega)⟩, by show xs.length - (k + (j + 1)) < xs.length - (k + j); omega, ⟨rfl, rfl, rfl, rfl, trivial⟩⟩
                          · refine T.skip (Post.blkN ?_)
                            refine id (Post.thnN ?_)
                            refine T.region ?_
                            refine R.mvE rfl (by conv => lhs; whnf) ?_
                            refine R.addI rfl rfl rfl (by omega) ?_
                            refine R.asE rfl (by conv => lhs; whnf) ?_
                            refine TL.nil (Post.thnN ?_)
                            -- round's end, way ny010yy011n
                            exact ⟨(i, j + 1, cur, [(b3, .cells cs3 37)]), s_2, ⟨⟨by omega, by show k + (j + 1) ≤ _; omega, by show i + 1 ≤ k + (j + 1); omega, hcl⟩, rfl, rfl, hw, by rw [htk, hkj, compact_take hz2 hy2', if_pos (Decidable.of_not_not c44), hkj1], hrest⟩, by show xs.length - (k + (j + 1)) < xs.length - (k + j); omega, ⟨rfl, rfl, rfl, rfl, trivial⟩⟩
                    · refine R.ixp Try.underlying22 Try.sizeOf37 rfl rfl rfl (by omega) ix4' ?_
                      refine TL.nil (Plan.e1 (HLe.refl _) ?_)
                      refine Plan.s2 2 8 [3, 8, 9] [2, 3, 9] (by kernel_rfl) (by kernel_rfl) (by kernel_rfl) rfl rfl ?_ ?_
                      · refine R.ixp Try.underlying22 Try.sizeOf37 rfl rfl rfl (by omega) ix3' ?_
                        refine TL.nil (Plan.e1 (HLe.refl _) ?_)
                        refine Plan.s2 3 8 [8, 9] [3, 9] (by kernel_rfl) (by kernel_rfl) (by kernel_rfl) rfl rfl ?_ ?_
                        · refine R.ldAt Try.isAgg37 Try.sizeOf37 rfl rfl .hd rfl hcs3 ?_
                          refine TL.nil (Plan.e1 (HLe.refl _) ?_)
                          refine Plan.s1 8 [9] (by kernel_rfl) (by kernel_rfl) rfl ?_
                          refine R.ldAt Try.isAgg37 Try.sizeOf37 rfl rfl .hd rfl hcs4 ?_
                          refine TL.nil (Plan.e1 (HLe.refl _) ?_)
                          refine Plan.v 9 [] (by kernel_rfl) (by kernel_rfl) (by kernel_rfl) (by kernel_rfl) rfl (fun _ _ h_ => R.neP (a := y2) (b := z2) Tryc_eqP Tryc_eqG rfl rfl rfl (TL.nil h_)) ?_
                          refine Plan.done (Post.thnN ?_)
                          refine T.condD rfl (fun c44 => ?_) (fun c44 => ?_)
                          · refine T.seq ?_
                            refine T.region ?_
                            refine R.mvE rfl (by conv => lhs; whnf) ?_
                            refine R.mvE rfl (by conv => lhs; whnf) ?_
                            refine R.mvE rfl (by conv => lhs; whnf) ?_
                            refine R.mvE rfl (by conv => lhs; whnf) ?_
                            refine R.ixp Try.underlying22 Try.sizeOf37 rfl rfl rfl (by omega) ix3' ?_
                            refine R.ldAt Try.isAgg37 Try.sizeOf37 rfl rfl .hd rfl hcs3 ?_
                            refine R.ixp Try.underlying22 Try.sizeOf37 rfl rfl rfl (by omega) (by rw [← hcl]; exact ix5) ?_
                            refine R.stEA (y := y2) (l := [.int .i64 y2.1, .int .i64 y2.2]) Try.sizeOf37 rfl hw .hd ix5 rfl rfl rfl ?_
                            intro c51 w51
                            refine TL.nil (Post.thnN ?_)
                            refine T.region ?_
                            refine R.mvE rfl (by conv => lhs; whnf) ?_
                            refine R.addI rfl rfl rfl (by omega) ?_
                            refine R.asE rfl (by conv => lhs; whnf) ?_
                            refine TL.nil (Post.blkN ?_)
                            refine id (Post.thnN ?_)
                            refine T.region ?_
                            refine R.mvE rfl (by conv => lhs; whnf) ?_
                            refine R.addI rfl rfl rfl (by omega) ?_
                            refine R.asE rfl (by conv => lhs; whnf) ?_
                            refine TL.nil (Post.thnN ?_)
                            -- round's end, way ny010yy100y
                            exact ⟨(i + 1, j + 1, cur.set i y2, c51), s_2, ⟨⟨by omega, by show k + (j + 1) ≤ _; omega, by show i + 1 + 1 ≤ k + (j + 1); omega, by rw [List.length_set]; exact hcl⟩, rfl, rfl, by rw [List.length_set]; exact w51, by rw [set_take (by omega), htk, hkj, compact_take hz2 hy2', if_neg c44, hkj1], fun q hq => by rw [List.getElem?_set_ne (by omega)]; exact hrest q (by omega)⟩, by show xs.length - (k + (j + 1)) < xs.length - (k + j); omega, ⟨rfl, rfl, rfl, rfl, trivial⟩⟩
                          · refine T.skip (Post.blkN ?_)
                            refine id (Post.thnN ?_)
                            refine T.region ?_
                            refine R.mvE rfl (by conv => lhs; whnf) ?_
                            refine R.addI rfl rfl rfl (by omega) ?_
                            refine R.asE rfl (by conv => lhs; whnf) ?_
                            refine TL.nil (Post.thnN ?_)
                            -- round's end, way ny010yy100n
                            exact ⟨(i, j + 1, cur, [(b3, .cells cs3 37)]), s_2, ⟨⟨by omega, by show k + (j + 1) ≤ _; omega, by show i + 1 ≤ k + (j + 1); omega, hcl⟩, rfl, rfl, hw, by rw [htk, hkj, compact_take hz2 hy2', if_pos (Decidable.of_not_not c44), hkj1], hrest⟩, by show xs.length - (k + (j + 1)) < xs.length - (k + j); omega, ⟨rfl, rfl, rfl, rfl, trivial⟩⟩
                        · refine R.ldAt Try.isAgg37 Try.sizeOf37 rfl rfl .hd rfl hcs4 ?_
                          refine TL.nil (Plan.e1 (HLe.refl _) ?_)
                          refine Plan.s1 3 [9] (by kernel_rfl) (by kernel_rfl) rfl ?_
                          refine R.ldAt Try.isAgg37 Try.sizeOf37 rfl rfl .hd rfl hcs3 ?_
                          refine TL.nil (Plan.e1 (HLe.refl _) ?_)
                          refine Plan.v 9 [] (by kernel_rfl) (by kernel_rfl) (by kernel_rfl) (by kernel_rfl) rfl (fun _ _ h_ => R.neP (a := y2) (b := z2) Tryc_eqP Tryc_eqG rfl rfl rfl (TL.nil h_)) ?_
                          refine Plan.done (Post.thnN ?_)
                          refine T.condD rfl (fun c44 => ?_) (fun c44 => ?_)
                          · refine T.seq ?_
                            refine T.region ?_
                            refine R.mvE rfl (by conv => lhs; whnf) ?_
                            refine R.mvE rfl (by conv => lhs; whnf) ?_
                            refine R.mvE rfl (by conv => lhs; whnf) ?_
                            refine R.mvE rfl (by conv => lhs; whnf) ?_
                            refine R.ixp Try.underlying22 Try.sizeOf37 rfl rfl rfl (by omega) ix3' ?_
                            refine R.ldAt Try.isAgg37 Try.sizeOf37 rfl rfl .hd rfl hcs3 ?_
                            refine R.ixp Try.underlying22 Try.sizeOf37 rfl rfl rfl (by omega) (by rw [← hcl]; exact ix5) ?_
                            refine R.stEA (y := y2) (l := [.int .i64 y2.1, .int .i64 y2.2]) Try.sizeOf37 rfl hw .hd ix5 rfl rfl rfl ?_
                            intro c51 w51
                            refine TL.nil (Post.thnN ?_)
                            refine T.region ?_
                            refine R.mvE rfl (by conv => lhs; whnf) ?_
                            refine R.addI rfl rfl rfl (by omega) ?_
                            refine R.asE rfl (by conv => lhs; whnf) ?_
                            refine TL.nil (Post.blkN ?_)
                            refine id (Post.thnN ?_)
                            refine T.region ?_
                            refine R.mvE rfl (by conv => lhs; whnf) ?_
                            refine R.addI rfl rfl rfl (by omega) ?_
                            refine R.asE rfl (by conv => lhs; whnf) ?_
                            refine TL.nil (Post.thnN ?_)
                            -- round's end, way ny010yy101y
                            exact ⟨(i + 1, j + 1, cur.set i y2, c51), s_2, ⟨⟨by omega, by show k + (j + 1) ≤ _; omega, by show i + 1 + 1 ≤ k + (j + 1); omega, by rw [List.length_set]; exact hcl⟩, rfl, rfl, by rw [List.length_set]; exact w51, by rw [set_take (by omega), htk, hkj, compact_take hz2 hy2', if_neg c44, hkj1], fun q hq => by rw [List.getElem?_set_ne (by omega)]; exact hrest q (by omega)⟩, by show xs.length - (k + (j + 1)) < xs.length - (k + j); omega, ⟨rfl, rfl, rfl, rfl, trivial⟩⟩
                          · refine T.skip (Post.blkN ?_)
                            refine id (Post.thnN ?_)
                            refine T.region ?_
                            refine R.mvE rfl (by conv => lhs; whnf) ?_
                            refine R.addI rfl rfl rfl (by omega) ?_
                            refine R.asE rfl (by conv => lhs; whnf) ?_
                            refine TL.nil (Post.thnN ?_)
                            -- round's end, way ny010yy101n
                            exact ⟨(i, j + 1, cur, [(b3, .cells cs3 37)]), s_2, ⟨⟨by omega, by show k + (j + 1) ≤ _; omega, by show i + 1 ≤ k + (j + 1); omega, hcl⟩, rfl, rfl, hw, by rw [htk, hkj, compact_take hz2 hy2', if_pos (Decidable.of_not_not c44), hkj1], hrest⟩, by show xs.length - (k + (j + 1)) < xs.length - (k + j); omega, ⟨rfl, rfl, rfl, rfl, trivial⟩⟩
                      · refine R.ldAt Try.isAgg37 Try.sizeOf37 rfl rfl .hd rfl hcs4 ?_
                        refine TL.nil (Plan.e1 (HLe.refl _) ?_)
                        refine Plan.s1 2 [3, 9] (by kernel_rfl) (by kernel_rfl) rfl ?_
                        refine R.ixp Try.underlying22 Try.sizeOf37 rfl rfl rfl (by omega) ix3' ?_
                        refine TL.nil (Plan.e1 (HLe.refl _) ?_)
                        refine Plan.s1 3 [9] (by kernel_rfl) (by kernel_rfl) rfl ?_
                        refine R.ldAt Try.isAgg37 Try.sizeOf37 rfl rfl .hd rfl hcs3 ?_
                        refine TL.nil (Plan.e1 (HLe.refl _) ?_)
                        refine Plan.v 9 [] (by kernel_rfl) (by kernel_rfl) (by kernel_rfl) (by kernel_rfl) rfl (fun _ _ h_ => R.neP (a := y2) (b := z2) Tryc_eqP Tryc_eqG rfl rfl rfl (TL.nil h_)) ?_
                        refine Plan.done (Post.thnN ?_)
                        refine T.condD rfl (fun c44 => ?_) (fun c44 => ?_)
                        · refine T.seq ?_
                          refine T.region ?_
                          refine R.mvE rfl (by conv => lhs; whnf) ?_
                          refine R.mvE rfl (by conv => lhs; whnf) ?_
                          refine R.mvE rfl (by conv => lhs; whnf) ?_
                          refine R.mvE rfl (by conv => lhs; whnf) ?_
                          refine R.ixp Try.underlying22 Try.sizeOf37 rfl rfl rfl (by omega) ix3' ?_
                          refine R.ldAt Try.isAgg37 Try.sizeOf37 rfl rfl .hd rfl hcs3 ?_
                          refine R.ixp Try.underlying22 Try.sizeOf37 rfl rfl rfl (by omega) (by rw [← hcl]; exact ix5) ?_
                          refine R.stEA (y := y2) (l := [.int .i64 y2.1, .int .i64 y2.2]) Try.sizeOf37 rfl hw .hd ix5 rfl rfl rfl ?_
                          intro c51 w51
                          refine TL.nil (Post.thnN ?_)
                          refine T.region ?_
                          refine R.mvE rfl (by conv => lhs; whnf) ?_
                          refine R.addI rfl rfl rfl (by omega) ?_
                          refine R.asE rfl (by conv => lhs; whnf) ?_
                          refine TL.nil (Post.blkN ?_)
                          refine id (Post.thnN ?_)
                          refine T.region ?_
                          refine R.mvE rfl (by conv => lhs; whnf) ?_
                          refine R.addI rfl rfl rfl (by omega) ?_
                          refine R.asE rfl (by conv => lhs; whnf) ?_
                          refine TL.nil (Post.thnN ?_)
                          -- round's end, way ny010yy11y
                          exact ⟨(i + 1, j + 1, cur.set i y2, c51), s_2, ⟨⟨by omega, by show k + (j + 1) ≤ _; omega, by show i + 1 + 1 ≤ k + (j + 1); omega, by rw [List.length_set]; exact hcl⟩, rfl, rfl, by rw [List.length_set]; exact w51, by rw [set_take (by omega), htk, hkj, compact_take hz2 hy2', if_neg c44, hkj1], fun q hq => by rw [List.getElem?_set_ne (by omega)]; exact hrest q (by omega)⟩, by show xs.length - (k + (j + 1)) < xs.length - (k + j); omega, ⟨rfl, rfl, rfl, rfl, trivial⟩⟩
                        · refine T.skip (Post.blkN ?_)
                          refine id (Post.thnN ?_)
                          refine T.region ?_
                          refine R.mvE rfl (by conv => lhs; whnf) ?_
                          refine R.addI rfl rfl rfl (by omega) ?_
                          refine R.asE rfl (by conv => lhs; whnf) ?_
                          refine TL.nil (Post.thnN ?_)
                          -- round's end, way ny010yy11n
                          exact ⟨(i, j + 1, cur, [(b3, .cells cs3 37)]), s_2, ⟨⟨by omega, by show k + (j + 1) ≤ _; omega, by show i + 1 ≤ k + (j + 1); omega, hcl⟩, rfl, rfl, hw, by rw [htk, hkj, compact_take hz2 hy2', if_pos (Decidable.of_not_not c44), hkj1], hrest⟩, by show xs.length - (k + (j + 1)) < xs.length - (k + j); omega, ⟨rfl, rfl, rfl, rfl, trivial⟩⟩
                  · have hje : k + j = xs.length := by omega
                    rw [hje, List.take_length] at htk
                    have hil : (cur.take i).length = i := by simp; omega
                    refine T.exit (Post.thnE (Post.thnE (Post.blkX ?_)))
                    refine id (Post.thnN ?_)
                    refine T.seq ?_
                    refine T.region ?_
                    refine R.mvE rfl (by conv => lhs; whnf) ?_
                    refine R.mvE rfl (by conv => lhs; whnf) ?_
                    refine R.sL Try.underlying22 Try.sizeOf37 rfl rfl rfl (by omega) (by omega) ?_
                    refine R.clr (dd := none) (xs := cur.take i) Try_ty22 (zone_of (z := .agg #[.int .i64 0, .int .i64 0]) (by kernel_rfl) (by intro v hv; simp [Value.cells] at hv; rcases hv with rfl | rfl <;> rfl)) rfl (fun q h => by cases h) (m := xs.length) (by rw [hil]; rfl) (by rw [hil]; exact own_take0 hw (by omega)) .hd (by omega) (by omega) ?_
                    intro c57 w57
                    refine TL.nil (Post.thnN ?_)
                    refine T.seq ?_
                    refine T.region ?_
                    refine R.mvE rfl (by conv => lhs; whnf) ?_
                    refine R.mvE rfl (by conv => lhs; whnf) ?_
                    refine R.sH Try.underlying22 Try.sizeOf37 rfl rfl rfl (by omega) (by omega) ?_
                    refine R.asE rfl (by conv => lhs; whnf) ?_
                    refine TL.nil (Post.thnN ?_)
                    refine T.ret (Post.blkR (Post.thnR (Post.thnR (Post.blkR (Post.thnR ?_)))))
                    -- way ny010yn
                    refine fin1L [c57] rfl rfl (List.Sublist.refl _) ⟨_, rfl, ?_⟩
                    show OwnS pairE 37 _ (slcV (.slice A xs.length cap) 0 i cap 2) (compactL xs) c57
                    rw [slc_take0, ← htk]
                    rw [hil] at w57
                    exact w57
              · refine T.skip (Post.blkN ?_)
                refine id (Post.thnN ?_)
                refine T.region ?_
                refine R.mvE rfl (by conv => lhs; whnf) ?_
                refine R.addI rfl rfl rfl (by omega) ?_
                refine R.asE rfl (by conv => lhs; whnf) ?_
                refine TL.nil (Post.thnN ?_)
                -- round's end, way ny010n
                exact ⟨k + 1, s_0, ⟨⟨by omega, by omega⟩, rfl, rfl, by rw [show k + 1 = (k - 1) + 2 by omega, compact_take hz hy1, if_neg c25, show k - 1 + 1 = k by omega, hco, show k - 1 + 2 = k + 1 by omega, take_snoc _ _ _ hy]⟩, by omega, ⟨rfl, rfl, trivial⟩⟩
            · refine R.ldAt Try.isAgg37 Try.sizeOf37 rfl rfl .hd rfl hcs2 ?_
              refine TL.nil (Plan.e1 (HLe.refl _) ?_)
              refine Plan.s1 3 [9] (by kernel_rfl) (by kernel_rfl) rfl ?_
              refine R.ldAt Try.isAgg37 Try.sizeOf37 rfl rfl .hd rfl hcs1 ?_
              refine TL.nil (Plan.e1 (HLe.refl _) ?_)
              refine Plan.v 9 [] (by kernel_rfl) (by kernel_rfl) (by kernel_rfl) (by kernel_rfl) rfl (fun _ _ h_ => R.eqP (a := y) (b := z) Tryc_eqP Tryc_eqG rfl rfl rfl (TL.nil h_)) ?_
              refine Plan.done (Post.thnN ?_)
              refine T.condD rfl (fun c25 => ?_) (fun c25 => ?_)
              · refine T.seq ?_
                refine T.region ?_
                refine R.mvE rfl (by conv => lhs; whnf) ?_
                refine R.mvE rfl (by conv => lhs; whnf) ?_
                refine R.sL Try.underlying22 Try.sizeOf37 rfl rfl rfl (by omega) (by omega) ?_
                refine R.asE rfl (by conv => lhs; whnf) ?_
                refine TL.nil (Post.thnN ?_)
                refine T.seq ?_
                refine T.seq ?_
                refine T.region ?_
                refine R.asE rfl (by conv => lhs; whnf) ?_
                refine TL.nil (Post.thnN ?_)
                refine T.block ?_
                refine T.loop (ι := Nat × Nat × List Lk × Chunk) (fun ⟨i, j, cur, ch2⟩ H' L' ds' => (1 ≤ j ∧ k + j ≤ xs.length ∧ i + 1 ≤ k + j ∧ cur.length = xs.length) ∧ L' = [ch2] ∧ ds' = [] ∧ OwnS pairE 37 H' (.slice A cur.length cap) cur ch2 ∧ cur.take i = compactL (xs.take (k + j)) ∧ (∀ q, i ≤ q → cur[q]? = xs[q]?)) (fun ⟨i, j, cur, ch2⟩ => [(0, .slice A xs.length cap), (3, .int .i64 i), (4, slcV (.slice A xs.length cap) k xs.length cap 2), (5, .int .i64 j)]) (fun ⟨i, j, cur, ch2⟩ => xs.length - (k + j)) ((k, 1, xs, [(b1, .cells cs1 37)])) ?_ ?_ ?_
                · exact ⟨⟨by omega, by omega, by omega, rfl⟩, rfl, rfl, ho, by rw [hk2, compact_take hz hy1, if_pos c25, show k - 1 + 1 = k by omega, hco], fun q hq => rfl⟩
                · exact ⟨rfl, rfl, rfl, rfl, trivial⟩
                · intro ⟨i, j, cur, ch2⟩ σ3 H_3 L_3 ds_3 s_3 hI_3
                  obtain ⟨⟨hj1, hj2, hij, hcl⟩, rfl, rfl, hw, htk, hrest⟩ := hI_3
                  refine T.seq ?_
                  refine T.seq ?_
                  refine T.region ?_
                  refine R.mvE rfl (by conv => lhs; whnf) ?_
                  refine R.mvE rfl (by conv => lhs; whnf) ?_
                  refine R.len Try.underlying22 rfl rfl ?_
                  refine R.lss rfl rfl rfl ?_
                  refine TL.nil (Post.thnN ?_)
                  refine T.condD rfl (fun c32 => ?_) (fun c32 => ?_)
                  · have hlt2 : k + j < xs.length := by omega
                    obtain ⟨y2, hy2⟩ := getk hlt2
                    obtain ⟨z2, hz2⟩ := getk (xs := xs) (k := k + j - 1) (by omega)
                    have hkj : k + (j + 1) = (k + j - 1) + 2 := by omega
                    have hkj1 : k + j - 1 + 1 = k + j := by omega
                    have hy2' : xs[k + j - 1 + 1]? = some y2 := by rw [hkj1]; exact hy2
                    have hcy : cur[k + j]? = some y2 := by rw [hrest _ (by omega)]; exact hy2
                    have hcz : cur[k + ((j : Int) - 1).toNat]? = some z2 := by rw [show k + ((j : Int) - 1).toNat = k + j - 1 by omega, hrest _ (by omega)]; exact hz2
                    obtain ⟨yi, hci⟩ := getk (xs := cur) (k := i) (by omega)
                    obtain ⟨b3, k3, cs3, l3, hce3, hve3, ix3, hR3, hcs3⟩ := hw.elem hcy
                    obtain rfl : l3 = [.int .i64 y2.1, .int .i64 y2.2] := hR3
                    obtain ⟨b4, k4, cs4, l4, hce4, hve4, ix4, hR4, hcs4⟩ := hw.elem hcz
                    obtain rfl : l4 = [.int .i64 z2.1, .int .i64 z2.2] := hR4
                    obtain ⟨b5, k5, cs5, l5, hce5, hve5, ix5, hR5, hcs5⟩ := hw.elem hci
                    subst hce3
                    obtain ⟨rfl, rfl⟩ : b3 = b4 ∧ cs3 = cs4 := by simpa using hce4
                    obtain ⟨rfl, rfl⟩ : b3 = b5 ∧ cs3 = cs5 := by simpa using hce5
                    obtain rfl : cap = k3 := by injection hve3
                    rw [hcl] at hve3
                    have ix3' := ix_off (sz := 2) (k := k) (i := j) hve3 (by omega) (by omega) (by omega)
                    have ix4' := ix_off (sz := 2) (k := k) (i := ((j : Int) - 1).toNat) hve3 (by omega) (by omega) (by omega)
                    refine T.skip (Post.thnN ?_)
                    refine T.seq ?_
                    refine T.block ?_
                    refine T.seq ?_
                    refine T.draw Try_mixed (by kernel_rfl) ?_
                    refine Plan.v 0 [1, 2, 3, 4, 5, 6, 7, 8, 9] (by kernel_rfl) (by kernel_rfl) (by kernel_rfl) (by kernel_rfl) rfl (fun _ _ h_ => R.mvE rfl (by conv => lhs; whnf) (TL.nil h_)) ?_
                    refine Plan.v 1 [2, 3, 4, 5, 6, 7, 8, 9] (by kernel_rfl) (by kernel_rfl) (by kernel_rfl) (by kernel_rfl) rfl (fun _ _ h_ => R.mvE rfl (by conv => lhs; whnf) (TL.nil h_)) ?_
                    refine Plan.v 4 [2, 3, 5, 6, 7, 8, 9] (by kernel_rfl) (by kernel_rfl) (by kernel_rfl) (by kernel_rfl) rfl (fun _ _ h_ => R.mvE rfl (by conv => lhs; whnf) (TL.nil h_)) ?_
                    refine Plan.v 5 [2, 3, 6, 7, 8, 9] (by kernel_rfl) (by kernel_rfl) (by kernel_rfl) (by kernel_rfl) rfl (fun _ _ h_ => R.mvE rfl (by conv => lhs; whnf) (TL.nil h_)) ?_
                    refine Plan.v 6 [2, 3, 7, 8, 9] (by kernel_rfl) (by kernel_rfl) (by kernel_rfl) (by kernel_rfl) rfl (fun _ _ h_ => R.subI rfl rfl rfl (by omega) (TL.nil h_)) ?_
                    refine Plan.s2 2 7 [3, 7, 8, 9] [2, 3, 8, 9] (by kernel_rfl) (by kernel_rfl) (by kernel_rfl) rfl rfl ?_ ?_
                    · refine R.ixp Try.underlying22 Try.sizeOf37 rfl rfl rfl (by omega) ix3' ?_
                      refine TL.nil (Plan.e1 (HLe.refl _) ?_)
                      refine Plan.s2 3 7 [7, 8, 9] [3, 8, 9] (by kernel_rfl) (by kernel_rfl) (by kernel_rfl) rfl rfl ?_ ?_
                      · refine R.ldAt Try.isAgg37 Try.sizeOf37 rfl rfl .hd rfl hcs3 ?_
                        refine TL.nil (Plan.e1 (HLe.refl _) ?_)
                        refine Plan.s1 7 [8, 9] (by kernel_rfl) (by kernel_rfl) rfl ?_
                        refine R.ixp Try.underlying22 Try.sizeOf37 rfl rfl rfl (by omega) ix4' ?_
                        refine TL.nil (Plan.e1 (HLe.refl _) ?_)
                        refine Plan.s1 8 [9] (by kernel_rfl) (by kernel_rfl) rfl ?_
                        refine R.ldAt Try.isAgg37 Try.sizeOf37 rfl rfl .hd rfl hcs4 ?_
                        refine TL.nil (Plan.e1 (HLe.refl _) ?_)
                        refine Plan.v 9 [] (by kernel_rfl) (by kernel_rfl) (by kernel_rfl) (by kernel_rfl) rfl (fun _ _ h_ => R.neP (a := y2) (b := z2) Tryc_eqP Tryc_eqG rfl rfl rfl (TL.nil h_)) ?_
                        refine Plan.done (Post.thnN ?_)
                        refine T.condD rfl (fun c44 => ?_) (fun c44 => ?_)
                        · refine T.seq ?_
                          refine T.region ?_
                          refine R.mvE rfl (by conv => lhs; whnf) ?_
                          refine R.mvE rfl (by conv => lhs; whnf) ?_
                          refine R.mvE rfl (by conv => lhs; whnf) ?_
                          refine R.mvE rfl (by conv => lhs; whnf) ?_
                          refine R.ixp Try.underlying22 Try.sizeOf37 rfl rfl rfl (by omega) ix3' ?_
                          refine R.ldAt Try.isAgg37 Try.sizeOf37 rfl rfl .hd rfl hcs3 ?_
                          refine R.ixp Try.underlying22 Try.sizeOf37 rfl rfl rfl (by omega) (by rw [← hcl]; exact ix5) ?_
                          refine R.stEA (y := y2) (l := [.int .i64 y2.1, .int .i64 y2.2]) Try.sizeOf37 rfl hw .hd ix5 rfl rfl rfl ?_
                          intro c51 w51
                          refine TL.nil (Post.thnN ?_)
                          refine T.region ?_
                          refine R.mvE rfl (by conv => lhs; whnf) ?_
                          refine R.addI rfl rfl rfl (by omega) ?_
                          refine R.asE rfl (by conv => lhs; whnf) ?_
                          refine TL.nil (Post.blkN ?_)
                          refine id (Post.thnN ?_)
                          refine T.region ?_
                          refine R.mvE rfl (by conv => lhs; whnf) ?_
                          refine R.addI rfl rfl rfl (by omega) ?_
                          refine R.asE rfl (by conv => lhs; whnf) ?_
                          refine TL.nil (Post.thnN ?_)
                          -- round's end, way ny011yy00y
                          exact ⟨(i + 1, j + 1, cur.set i y2, c51), s_3, ⟨⟨by omega, by show k + (j + 1) ≤ _; omega, by show i + 1 + 1 ≤ k + (j + 1); omega, by rw [List.length_set]; exact hcl⟩, rfl, rfl, by rw [List.length_set]; exact w51, by rw [set_take (by omega), htk, hkj, compact_take hz2 hy2', if_neg c44, hkj1], fun q hq => by rw [List.getElem?_set_ne (by omega)]; exact hrest q (by omega)⟩, by show xs.length - (k + (j + 1)) < xs.length - (k + j); omega, ⟨rfl, rfl, rfl, rfl, trivial⟩⟩
                        · refine T.skip (Post.blkN ?_)
                          refine id (Post.thnN ?_)
                          refine T.region ?_
                          refine R.mvE rfl (by conv => lhs; whnf) ?_
                          refine R.addI rfl rfl rfl (by omega) ?_
                          refine R.asE rfl (by conv => lhs; whnf) ?_
                          refine TL.nil (Post.thnN ?_)
                          -- round's end, way ny011yy00n
                          exact ⟨(i, j + 1, cur, [(b3, .cells cs3 37)]), s_3, ⟨⟨by omega, by show k + (j + 1) ≤ _; omega, by show i + 1 ≤ k + (j + 1); omega, hcl⟩, rfl, rfl, hw, by rw [htk, hkj, compact_take hz2 hy2', if_pos (Decidable.of_not_not c44), hkj1], hrest⟩, by show xs.length - (k + (j + 1)) < xs.length - (k + j); omega, ⟨rfl, rfl, rfl, rfl, trivial⟩⟩
                      · refine R.ixp Try.underlying22 Try.sizeOf37 rfl rfl rfl (by omega) ix4' ?_
                        refine TL.nil (Plan.e1 (HLe.refl _) ?_)
                        refine Plan.s2 3 8 [8, 9] [3, 9] (by kernel_rfl) (by kernel_rfl) (by kernel_rfl) rfl rfl ?_ ?_
                        · refine R.ldAt Try.isAgg37 Try.sizeOf37 rfl rfl .hd rfl hcs3 ?_
                          refine TL.nil (Plan.e1 (HLe.refl _) ?_)
                          refine Plan.s1 8 [9] (by kernel_rfl) (by kernel_rfl) rfl ?_
                          refine R.ldAt Try.isAgg37 Try.sizeOf37 rfl rfl .hd rfl hcs4 ?_
                          refine TL.nil (Plan.e1 (HLe.refl _) ?_)
                          refine Plan.v 9 [] (by kernel_rfl) (by kernel_rfl) (by kernel_rfl) (by kernel_rfl) rfl (fun _ _ h_ => R.neP (a := y2) (b := z2) Tryc_eqP Tryc_eqG rfl rfl rfl (TL.nil h_)) ?_
                          refine Plan.done (Post.thnN ?_)
                          refine T.condD rfl (fun c44 => ?_) (fun c44 => ?_)
                          · refine T.seq ?_
                            refine T.region ?_
                            refine R.mvE rfl (by conv => lhs; whnf) ?_
                            refine R.mvE rfl (by conv => lhs; whnf) ?_
                            refine R.mvE rfl (by conv => lhs; whnf) ?_
                            refine R.mvE rfl (by conv => lhs; whnf) ?_
                            refine R.ixp Try.underlying22 Try.sizeOf37 rfl rfl rfl (by omega) ix3' ?_
                            refine R.ldAt Try.isAgg37 Try.sizeOf37 rfl rfl .hd rfl hcs3 ?_
                            refine R.ixp Try.underlying22 Try.sizeOf37 rfl rfl rfl (by omega) (by rw [← hcl]; exact ix5) ?_
                            refine R.stEA (y := y2) (l := [.int .i64 y2.1, .int .i64 y2.2]) Try.sizeOf37 rfl hw .hd ix5 rfl rfl rfl ?_
                            intro c51 w51
                            refine TL.nil (Post.thnN ?_)
                            refine T.region ?_
                            refine R.mvE rfl (by conv => lhs; whnf) ?_
                            refine R.addI rfl rfl rfl (by omega) ?_
                            refine R.asE rfl (by conv => lhs; whnf) ?_
                            refine TL.nil (Post.blkN ?_)
                            refine id (Post.thnN ?_)
                            refine T.region ?_
                            refine R.mvE rfl (by conv => lhs; whnf) ?_
                            refine R.addI rfl rfl rfl (by omega) ?_
                            refine R.asE rfl (by conv => lhs; whnf) ?_
                            refine TL.nil (Post.thnN ?_)
                            -- round's end, way ny011yy010y
                            exact ⟨(i + 1, j + 1, cur.set i y2, c51), s_3, ⟨⟨by omega, by show k + (j + 1) ≤ _; omega, by show i + 1 + 1 ≤ k + (j + 1); omega, by rw [List.length_set]; exact hcl⟩, rfl, rfl, by rw [List.length_set]; exact w51, by rw [set_take (by omega), htk, hkj, compact_take hz2 hy2', if_neg c44, hkj1], fun q hq => by rw [List.getElem?_set_ne (by omega)]; exact hrest q (by omega)⟩, by show xs.length - (k + (j + 1)) < xs.length - (k + j); omega, ⟨rfl, rfl, rfl, rfl, trivial⟩⟩
                          · refine T.skip (Post.blkN ?_)
                            refine id (Post.thnN ?_)
                            refine T.region ?_
                            refine R.mvE rfl (by conv => lhs; whnf) ?_
                            refine R.addI rfl rfl rfl (by omega) ?_
                            refine R.asE rfl (by conv => lhs; whnf) ?_
                            refine TL.nil (Post.thnN ?_)
                            -- round's end, way ny011yy010n
                            exact ⟨(i, j + 1, cur, [(b3, .cells cs3 37)]), s_3, ⟨⟨by omega, by show k + (j + 1) ≤ _; omega, by show i + 1 ≤ k + (j + 1); omega, hcl⟩, rfl, rfl, hw, by rw [htk, hkj, compact_take hz2 hy2', if_pos (Decidable.of_not_not c44), hkj1], hrest⟩, by show xs.length - (k + (j + 1)) < xs.length - (k + j); omega, ⟨rfl, rfl, rfl, rfl, trivial⟩⟩
                        · refine R.ldAt Try.isAgg37 Try.sizeOf37 rfl rfl .hd rfl hcs4 ?_
                          refine TL.nil (Plan.e1 (HLe.refl _) ?_)
                          refine Plan.s1 3 [9] (by kernel_rfl) (by kernel_rfl) rfl ?_
                          refine R.ldAt Try.isAgg37 Try.sizeOf37 rfl rfl .hd rfl hcs3 ?_
                          refine TL.nil (Plan.e1 (HLe.refl _) ?_)
                          refine Plan.v 9 [] (by kernel_rfl) (by kernel_rfl) (by kernel_rfl) (by kernel_rfl) rfl (fun _ _ h_ => R.neP (a := y2) (b := z2) Tryc_eqP Tryc_eqG rfl rfl rfl (TL.nil h_)) ?_
                          refine Plan.done (Post.thnN ?_)
                          refine T.condD rfl (fun c44 => ?_) (fun c44 => ?_)
                          · refine T.seq ?_
                            refine T.region ?_
                            refine R.mvE rfl (by conv => lhs; whnf) ?_
                            refine R.mvE rfl (by conv => lhs; whnf) ?_
                            refine R.mvE rfl (by conv => lhs; whnf) ?_
                            refine R.mvE rfl (by conv => lhs; whnf) ?_
                            refine R.ixp Try.underlying22 Try.sizeOf37 rfl rfl rfl (by omega) ix3' ?_
                            refine R.ldAt Try.isAgg37 Try.sizeOf37 rfl rfl .hd rfl hcs3 ?_
                            refine R.ixp Try.underlying22 Try.sizeOf37 rfl rfl rfl (by omega) (by rw [← hcl]; exact ix5) ?_
                            refine R.stEA (y := y2) (l := [.int .i64 y2.1, .int .i64 y2.2]) Try.sizeOf37 rfl hw .hd ix5 rfl rfl rfl ?_
                            intro c51 w51
                            refine TL.nil (Post.thnN ?_)
                            refine T.region ?_
                            refine R.mvE rfl (by conv => lhs; whnf) ?_
                            refine R.addI rfl rfl rfl (by omega) ?_
                            refine R.asE rfl (by conv => lhs; whnf) ?_
                            refine TL.nil (Post.blkN ?_)
                            refine id (Post.thnN ?_)
                            refine T.region ?_
                            refine R.mvE rfl (by conv => lhs; whnf) ?_
                            refine R.addI rfl rfl rfl (by omega) ?_
                            refine R.asE rfl (by conv => lhs; whnf) ?_
                            refine TL.nil (Post.thnN ?_)
                            -- round's end, way ny011yy011y
                            exact ⟨(i + 1, j + 1, cur.set i y2, c51), s_3, ⟨⟨by omega, by show k + (j + 1) ≤ _; omega, by show i + 1 + 1 ≤ k + (j + 1); omega, by rw [List.length_set]; exact hcl⟩, rfl, rfl, by rw [List.length_set]; exact w51, by rw [set_take (by omega), htk, hkj, compact_take hz2 hy2', if_neg c44, hkj1], fun q hq => by rw [List.getElem?_set_ne (by omega)]; exact hrest q (by omega)⟩, by show xs.length - (k + (j + 1)) < xs.length - (k + j); omega, ⟨rfl, rfl, rfl, rfl, trivial⟩⟩
                          · refine T.skip (Post.blkN ?_)
                            refine id (Post.thnN ?_)
                            refine T.region ?_
                            refine R.mvE rfl (by conv => lhs; whnf) ?_
                            refine R.addI rfl rfl rfl (by omega) ?_
                            refine R.asE rfl (by conv => lhs; whnf) ?_
                            refine TL.nil (Post.thnN ?_)
                            -- round's end, way ny011yy011n
                            exact ⟨(i, j + 1, cur, [(b3, .cells cs3 37)]), s_3, ⟨⟨by omega, by show k + (j + 1) ≤ _; omega, by show i + 1 ≤ k + (j + 1); omega, hcl⟩, rfl, rfl, hw, by rw [htk, hkj, compact_take hz2 hy2', if_pos (Decidable.of_not_not c44), hkj1], hrest⟩, by show xs.length - (k + (j + 1)) < xs.length - (k + j); omega, ⟨rfl, rfl, rfl, rfl, trivial⟩⟩
                    · refine R.ixp Try.underlying22 Try.sizeOf37 rfl rfl rfl (by omega) ix4' ?_
                      refine TL.nil (Plan.e1 (HLe.refl _) ?_)
                      refine Plan.s2 2 8 [3, 8, 9] [2, 3, 9] (by kernel_rfl) (by kernel_rfl) (by kernel_rfl) rfl rfl ?_ ?_
                      · refine R.ixp Try.underlying22 Try.sizeOf37 rfl rfl rfl (by omega) ix3' ?_
                        refine TL.nil (Plan.e1 (HLe.refl _) ?_)
                        refine Plan.s2 3 8 [8, 9] [3, 9] (by kernel_rfl) (by kernel_rfl) (by kernel_rfl) rfl rfl ?_ ?_
                        · refine R.ldAt Try.isAgg37 Try.sizeOf37 rfl rfl .hd rfl hcs3 ?_
                          refine TL.nil (Plan.e1 (HLe.refl _) ?_)
                          refine Plan.s1 8 [9] (by kernel_rfl) (by kernel_rfl) rfl ?_
                          refine R.ldAt Try.isAgg37 Try.sizeOf37 rfl rfl .hd rfl hcs4 ?_
                          refine TL.nil (Plan.e1 (HLe.refl _) ?_)
                          refine Plan.v 9 [] (by kernel_rfl) (by kernel_rfl) (by kernel_rfl) (by kernel_rfl) rfl (fun _ _ h_ => R.neP (a := y2) (b := z2) Tryc_eqP Tryc_eqG rfl rfl rfl (TL.nil h_)) ?_
                          refine Plan.done (Post.thnN ?_)
                          refine T.condD rfl (fun c44 => ?_) (fun c44 => ?_)
                          · refine T.seq ?_
                            refine T.region ?_
                            refine R.mvE rfl (by conv => lhs; whnf) ?_
                            refine R.mvE rfl (by conv => lhs; whnf) ?_
                            refine R.mvE rfl (by conv => lhs; whnf) ?_
                            refine R.mvE rfl (by conv => lhs; whnf) ?_
                            refine R.ixp Try.underlying22 Try.sizeOf37 rfl rfl rfl (by omega) ix3' ?_
                            refine R.ldAt Try.isAgg37 Try.sizeOf37 rfl rfl .hd rfl hcs3 ?_
                            refine R.ixp Try.underlying22 Try.sizeOf37 rfl rfl rfl (by omega) (by rw [← hcl]; exact ix5) ?_
                            refine R.stEA (y := y2) (l := [.int .i64 y2.1, .int .i64 y2.2]) Try.sizeOf37 rfl hw .hd ix5 rfl rfl rfl ?_
                            intro c51 w51
                            refine TL.nil (Post.thnN ?_)
                            refine T.region ?_
                            refine R.mvE rfl (by conv => lhs; whnf) ?_
                            refine R.addI rfl rfl rfl (by omega) ?_
                            refine R.asE rfl (by conv => lhs; whnf) ?_
                            refine TL.nil (Post.blkN ?_)
                            refine id (Post.thnN ?_)
                            refine T.region ?_
                            refine R.mvE rfl (by conv => lhs; whnf) ?_
                            refine R.addI rfl rfl rfl (by omega) ?_
                            refine R.asE rfl (by conv => lhs; whnf) ?_
                            refine TL.nil (Post.thnN ?_)
                            -- round's end, way ny011yy100y
                            exact ⟨(i + 1, j + 1, cur.set i y2, c51), s_3, ⟨⟨by omega, by show k + (j + 1) ≤ _; omega, by show i + 1 + 1 ≤ k + (j + 1); omega, by rw [List.length_set]; exact hcl⟩, rfl, rfl, by rw [List.length_set]; exact w51, by rw [set_take (by omega), htk, hkj, compact_take hz2 hy2', if_neg c44, hkj1], fun q hq => by rw [List.getElem?_set_ne (by omega)]; exact hrest q (by omega)⟩, by show xs.length - (k + (j + 1)) < xs.length - (k + j); omega, ⟨rfl, rfl, rfl, rfl, trivial⟩⟩
                          · refine T.skip (Post.blkN ?_)
                            refine id (Post.thnN ?_)
                            refine T.region ?_
                            refine R.mvE rfl (by conv => lhs; whnf) ?_
                            refine R.addI rfl rfl rfl (by omega) ?_
                            refine R.asE rfl (by conv => lhs; whnf) ?_
                            refine TL.nil (Post.thnN ?_)
                            -- round's end, way ny011yy100n
                            exact ⟨(i, j + 1, cur, [(b3, .cells cs3 37)]), s_3, ⟨⟨by omega, by show k + (j + 1) ≤ _; omega, by show i + 1 ≤ k + (j + 1); omega, hcl⟩, rfl, rfl, hw, by rw [htk, hkj, compact_take hz2 hy2', if_pos (Decidable.of_not_not c44), hkj1], hrest⟩, by show xs.length - (k + (j + 1)) < xs.length - (k + j); omega, ⟨rfl, rfl, rfl, rfl, trivial⟩⟩
                        · refine R.ldAt Try.isAgg37 Try.sizeOf37 rfl rfl .hd rfl hcs4 ?_
                          refine TL.nil (Plan.e1 (HLe.refl _) ?_)
                          refine Plan.s1 3 [9] (by kernel_rfl) (by kernel_rfl) rfl ?_
                          refine R.ldAt Try.isAgg37 Try.sizeOf37 rfl rfl .hd rfl hcs3 ?_
                          refine TL.nil (Plan.e1 (HLe.refl _) ?_)
                          refine Plan.v 9 [] (by kernel_rfl) (by kernel_rfl) (by kernel_rfl) (by kernel_rfl) rfl (fun _ _ h_ => R.neP (a := y2) (b := z2) Tryc_eqP Tryc_eqG rfl rfl rfl (TL.nil h_)) ?_
                          refine Plan.done (Post.thnN ?_)
                          refine T.condD rfl (fun c44 => ?_) (fun c44 => ?_)
                          · refine T.seq ?_
                            refine T.region ?_
                            refine R.mvE rfl (by conv => lhs; whnf) ?_
                            refine R.mvE rfl (by conv => lhs; whnf) ?_
                            refine R.mvE rfl (by conv => lhs; whnf) ?_
                            refine R.mvE rfl (by conv => lhs; whnf) ?_
                            refine R.ixp Try.underlying22 Try.sizeOf37 rfl rfl rfl (by omega) ix3' ?_
                            refine R.ldAt Try.isAgg37 Try.sizeOf37 rfl rfl .hd rfl hcs3 ?_
                            refine R.ixp Try.underlying22 Try.sizeOf37 rfl rfl rfl (by omega) (by rw [← hcl]; exact ix5) ?_
                            refine R.stEA (y := y2) (l := [.int .i64 y2.1, .int .i64 y2.2]) Try.sizeOf37 rfl hw .hd ix5 rfl rfl rfl ?_
                            intro c51 w51
                            refine TL.nil (Post.thnN ?_)
                            refine T.region ?_
                            refine R.mvE rfl (by conv => lhs; whnf) ?_
                            refine R.addI rfl rfl rfl (by omega) ?_
                            refine R.asE rfl (by conv => lhs; whnf) ?_
                            refine TL.nil (Post.blkN ?_)
                            refine id (Post.thnN ?_)
                            refine T.region ?_
                            refine R.mvE rfl (by conv => lhs; whnf) ?_
                            refine R.addI rfl rfl rfl (by omega) ?_
                            refine R.asE rfl (by conv => lhs; whnf) ?_
                            refine TL.nil (Post.thnN ?_)
                            -- round's end, way ny011yy101y
                            exact ⟨(i + 1, j + 1, cur.set i y2, c51), s_3, ⟨⟨by omega, by show k + (j + 1) ≤ _; omega, by show i + 1 + 1 ≤ k + (j + 1); omega, by rw [List.length_set]; exact hcl⟩, rfl, rfl, by rw [List.length_set]; exact w51, by rw [set_take (by omega), htk, hkj, compact_take hz2 hy2', if_neg c44, hkj1], fun q hq => by rw [List.getElem?_set_ne (by omega)]; exact hrest q (by omega)⟩, by show xs.length - (k + (j + 1)) < xs.length - (k + j); omega, ⟨rfl, rfl, rfl, rfl, trivial⟩⟩
                          · refine T.skip (Post.blkN ?_)
                            refine id (Post.thnN ?_)
                            refine T.region ?_
                            refine R.mvE rfl (by conv => lhs; whnf) ?_
                            refine R.addI rfl rfl rfl (by omega) ?_
                            refine R.asE rfl (by conv => lhs; whnf) ?_
                            refine TL.nil (Post.thnN ?_)
                            -- round's end, way ny011yy101n
                            exact ⟨(i, j + 1, cur, [(b3, .cells cs3 37)]), s_3, ⟨⟨by omega, by show k + (j + 1) ≤ _; omega, by show i + 1 ≤ k + (j + 1); omega, hcl⟩, rfl, rfl, hw, by rw [htk, hkj, compact_take hz2 hy2', if_pos (Decidable.of_not_not c44), hkj1], hrest⟩, by show xs.length - (k + (j + 1)) < xs.length - (k + j); omega, ⟨rfl, rfl, rfl, rfl, trivial⟩⟩
                      · refine R.ldAt Try.isAgg37 Try.sizeOf37 rfl rfl .hd rfl hcs4 ?_
                        refine TL.nil (Plan.e1 (HLe.refl _) ?_)
                        refine Plan.s1 2 [3, 9] (by kernel_rfl) (by kernel_rfl) rfl ?_
                        refine R.ixp Try.underlying22 Try.sizeOf37 rfl rfl rfl (by omega) ix3' ?_
                        refine TL.nil (Plan.e1 (HLe.refl _) ?_)
                        refine Plan.s1 3 [9] (by kernel_rfl) (by kernel_rfl) rfl ?_
                        refine R.ldAt Try.isAgg37 Try.sizeOf37 rfl rfl .hd rfl hcs3 ?_
                        refine TL.nil (Plan.e1 (HLe.refl _) ?_)
                        refine Plan.v 9 [] (by kernel_rfl) (by kernel_rfl) (by kernel_rfl) (by kernel_rfl) rfl (fun _ _ h_ => R.neP (a := y2) (b := z2) Tryc_eqP Tryc_eqG rfl rfl rfl (TL.nil h_)) ?_
                        refine Plan.done (Post.thnN ?_)
                        refine T.condD rfl (fun c44 => ?_) (fun c44 => ?_)
                        · refine T.seq ?_
                          refine T.region ?_
                          refine R.mvE rfl (by conv => lhs; whnf) ?_
                          refine R.mvE rfl (by conv => lhs; whnf) ?_
                          refine R.mvE rfl (by conv => lhs; whnf) ?_
                          refine R.mvE rfl (by conv => lhs; whnf) ?_
                          refine R.ixp Try.underlying22 Try.sizeOf37 rfl rfl rfl (by omega) ix3' ?_
                          refine R.ldAt Try.isAgg37 Try.sizeOf37 rfl rfl .hd rfl hcs3 ?_
                          refine R.ixp Try.underlying22 Try.sizeOf37 rfl rfl rfl (by omega) (by rw [← hcl]; exact ix5) ?_
                          refine R.stEA (y := y2) (l := [.int .i64 y2.1, .int .i64 y2.2]) Try.sizeOf37 rfl hw .hd ix5 rfl rfl rfl ?_
                          intro c51 w51
                          refine TL.nil (Post.thnN ?_)
                          refine T.region ?_
                          refine R.mvE rfl (by conv => lhs; whnf) ?_
                          refine R.addI rfl rfl rfl (by omega) ?_
                          refine R.asE rfl (by conv => lhs; whnf) ?_
                          refine TL.nil (Post.blkN ?_)
                          refine id (Post.thnN ?_)
                          refine T.region ?_
                          refine R.mvE rfl (by conv => lhs; whnf) ?_
                          refine R.addI rfl rfl rfl (by omega) ?_
                          refine R.asE rfl (by conv => lhs; whnf) ?_
                          refine TL.nil (Post.thnN ?_)
                          -- round's end, way ny011yy11y
                          exact ⟨(i + 1, j + 1, cur.set i y2, c51), s_3, ⟨⟨by omega, by show k + (j + 1) ≤ _; omega, by show i + 1 + 1 ≤ k + (j + 1); omega, by rw [List.length_set]; exact hcl⟩, rfl, rfl, by rw [List.length_set]; exact w51, by rw [set_take (by omega), htk, hkj, compact_take hz2 hy2', if_neg c44, hkj1], fun q hq => by rw [List.getElem?_set_ne (by omega)]; exact hrest q (by omega)⟩, by show xs.length - (k + (j + 1)) < xs.length - (k + j); omega, ⟨rfl, rfl, rfl, rfl, trivial⟩⟩
                        · refine T.skip (Post.blkN ?_)
                          refine id (Post.thnN ?_)
                          refine T.region ?_
                          refine R.mvE rfl (by conv => lhs; whnf) ?_
                          refine R.addI rfl rfl rfl (by omega) ?_
                          refine R.asE rfl (by conv => lhs; whnf) ?_
                          refine TL.nil (Post.thnN ?_)
                          -- round's end, way ny011yy11n
                          exact ⟨(i, j + 1, cur, [(b3, .cells cs3 37)]), s_3, ⟨⟨by omega, by show k + (j + 1) ≤ _; omega, by show i + 1 ≤ k + (j + 1); omega, hcl⟩, rfl, rfl, hw, by rw [htk, hkj, compact_take hz2 hy2', if_pos (Decidable.of_not_not c44), hkj1], hrest⟩, by show xs.length - (k + (j + 1)) < xs.length - (k + j); omega, ⟨rfl, rfl, rfl, rfl, trivial⟩⟩
                  · have hje : k + j = xs.length := by omega
                    rw [hje, List.take_length] at htk
                    have hil : (cur.take i).length = i := by simp; omega
                    refine T.exit (Post.thnE (Post.thnE (Post.blkX ?_)))
                    refine id (Post.thnN ?_)
                    refine T.seq ?_
                    refine T.region ?_
                    refine R.mvE rfl (by conv => lhs; whnf) ?_
                    refine R.mvE rfl (by conv => lhs; whnf) ?_
                    refine R.sL Try.underlying22 Try.sizeOf37 rfl rfl rfl (by omega) (by omega) ?_
                    refine R.clr (dd := none) (xs := cur.take i) Try_ty22 (zone_of (z := .agg #[.int .i64 0, .int .i64 0]) (by kernel_rfl) (by intro v hv; simp [Value.cells] at hv; rcases hv with rfl | rfl <;> rfl)) rfl (fun q h => by cases h) (m := xs.length) (by rw [hil]; rfl) (by rw [hil]; exact own_take0 hw (by omega)) .hd (by omega) (by omega) ?_
                    intro c57 w57
                    refine TL.nil (Post.thnN ?_)
                    refine T.seq ?_
                    refine T.region ?_
                    refine R.mvE rfl (by conv => lhs; whnf) ?_
                    refine R.mvE rfl (by conv => lhs; whnf) ?_
                    refine R.sH Try.underlying22 Try.sizeOf37 rfl rfl rfl (by omega) (by omega) ?_
                    refine R.asE rfl (by conv => lhs; whnf) ?_
                    refine TL.nil (Post.thnN ?_)
                    refine T.ret (Post.blkR (Post.thnR (Post.thnR (Post.blkR (Post.thnR ?_)))))
                    -- way ny011yn
                    refine fin1L [c57] rfl rfl (List.Sublist.refl _) ⟨_, rfl, ?_⟩
                    show OwnS pairE 37 _ (slcV (.slice A xs.length cap) 0 i cap 2) (compactL xs) c57
                    rw [slc_take0, ← htk]
                    rw [hil] at w57
                    exact w57
              · refine T.skip (Post.blkN ?_)
                refine id (Post.thnN ?_)
                refine T.region ?_
                refine R.mvE rfl (by conv => lhs; whnf) ?_
                refine R.addI rfl rfl rfl (by omega) ?_
                refine R.asE rfl (by conv => lhs; whnf) ?_
                refine TL.nil (Post.thnN ?_)
                -- round's end, way ny011n
                exact ⟨k + 1, s_0, ⟨⟨by omega, by omega⟩, rfl, rfl, by rw [show k + 1 = (k - 1) + 2 by omega, compact_take hz hy1, if_neg c25, show k - 1 + 1 = k by omega, hco, show k - 1 + 2 = k + 1 by omega, take_snoc _ _ _ hy]⟩, by omega, ⟨rfl, rfl, trivial⟩⟩
        · refine R.ixp Try.underlying22 Try.sizeOf37 rfl rfl rfl (by omega) ix2 ?_
          refine TL.nil (Plan.e1 (HLe.refl _) ?_)
          refine Plan.s2 2 8 [3, 8, 9] [2, 3, 9] (by kernel_rfl) (by kernel_rfl) (by kernel_rfl) rfl rfl ?_ ?_
          · refine R.ixp Try.underlying22 Try.sizeOf37 rfl rfl rfl (by omega) ix1 ?_
            refine TL.nil (Plan.e1 (HLe.refl _) ?_)
            refine Plan.s2 3 8 [8, 9] [3, 9] (by kernel_rfl) (by kernel_rfl) (by kernel_rfl) rfl rfl ?_ ?_
            · refine R.ldAt Try.isAgg37 Try.sizeOf37 rfl rfl .hd rfl hcs1 ?_
              refine TL.nil (Plan.e1 (HLe.refl _) ?_)
              refine Plan.s1 8 [9] (by kernel_rfl) (by kernel_rfl) rfl ?_
              refine R.ldAt Try.isAgg37 Try.sizeOf37 rfl rfl .hd rfl hcs2 ?_
              refine TL.nil (Plan.e1 (HLe.refl _) ?_)
              refine Plan.v 9 [] (by kernel_rfl) (by kernel_rfl) (by kernel_rfl) (by kernel_rfl) rfl (fun _ _ h_ => R.eqP (a := y) (b := z) Tryc_eqP Tryc_eqG rfl rfl rfl (TL.nil h_)) ?_
              refine Plan.done (Post.thnN ?_)
              refine T.condD rfl (fun c25 => ?_) (fun c25 => ?_)
              · refine T.seq ?_
                refine T.region ?_
                refine R.mvE rfl (by conv => lhs; whnf) ?_
                refine R.mvE rfl (by conv => lhs; whnf) ?_
                refine R.sL Try.underlying22 Try.sizeOf37 rfl rfl rfl (by omega) (by omega) ?_
                refine R.asE rfl (by conv => lhs; whnf) ?_
                refine TL.nil (Post.thnN ?_)
                refine T.seq ?_
                refine T.seq ?_
                refine T.region ?_
                refine R.asE rfl (by conv => lhs; whnf) ?_
                refine TL.nil (Post.thnN ?_)
                refine T.block ?_
                refine T.loop (ι := Nat × Nat × List Lk × Chunk) (fun ⟨i, j, cur, ch2⟩ H' L' ds' => (1 ≤ j ∧ k + j ≤ xs.length ∧ i + 1 ≤ k + j ∧ cur.length = xs.length) ∧ L' = [ch2] ∧ ds' = [] ∧ OwnS pairE 37 H' (.slice A cur.length cap) cur ch2 ∧ cur.take i = compactL (xs.take (k + j)) ∧ (∀ q, i ≤ q → cur[q]? = xs[q]?)) (fun ⟨i, j, cur, ch2⟩ => [(0, .slice A xs.length cap), (3, .int .i64 i), (4, slcV (.slice A xs.length cap) k xs.length cap 2), (5, .int .i64 j)]) (fun ⟨i, j, cur, ch2⟩ => xs.length - (k + j)) ((k, 1, xs, [(b1, .cells cs1 37)])) ?_ ?_ ?_
                · exact ⟨⟨by omega, by omega, by omega, rfl⟩, rfl, rfl, ho, by rw [hk2, compact_take hz hy1, if_pos c25, show k - 1 + 1 = k by omega, hco], fun q hq => rfl⟩
                · exact ⟨rfl, rfl, rfl, rfl, trivial⟩
                · intro ⟨i, j, cur, ch2⟩ σ4 H_4 L_4 ds_4 s_4 hI_4
                  obtain ⟨⟨hj1, hj2, hij, hcl⟩, rfl, rfl, hw, htk, hrest⟩ := hI_4
                  refine T.seq ?_
                  refine T.seq ?_
                  refine T.region ?_
                  refine R.mvE rfl (by conv => lhs; whnf) ?_
                  refine R.mvE rfl (by conv => lhs; whnf) ?_
                  refine R.len Try.underlying22 rfl rfl ?_
                  refine R.lss rfl rfl rfl ?_
                  refine TL.nil (Post.thnN ?_)
                  refine T.condD rfl (fun c32 => ?_) (fun c32 => ?_)
                  · have hlt2 : k + j < xs.length := by omega
                    obtain ⟨y2, hy2⟩ := getk hlt2
                    obtain ⟨z2, hz2⟩ := getk (xs := xs) (k := k + j - 1) (by omega)
                    have hkj : k + (j + 1) = (k + j - 1) + 2 := by omega
                    have hkj1 : k + j - 1 + 1 = k + j := by omega
                    have hy2' : xs[k + j - 1 + 1]? = some y2 := by rw [hkj1]; exact hy2
                    have hcy : cur[k + j]? = some y2 := by rw [hrest _ (by omega)]; exact hy2
                    have hcz : cur[k + ((j : Int) - 1).toNat]? = some z2 := by rw [show k + ((j : Int) - 1).toNat = k + j - 1 by omega, hrest _ (by omega)]; exact hz2
                    obtain ⟨yi, hci⟩ := getk (xs := cur) (k := i) (by omega)
                    obtain ⟨b3, k3, cs3, l3, hce3, hve3, ix3, hR3, hcs3⟩ := hw.elem hcy
                    obtain rfl : l3 = [.int .i64 y2.1, .int .i64 y2.2] := hR3
                    obtain ⟨b4, k4, cs4, l4, hce4, hve4, ix4, hR4, hcs4⟩ := hw.elem hcz
                    obtain rfl : l4 = [.int .i64 z2.1, .int .i64 z2.2] := hR4
                    obtain ⟨b5, k5, cs5, l5, hce5, hve5, ix5, hR5, hcs5⟩ := hw.elem hci
                    subst hce3
                    obtain ⟨rfl, rfl⟩ : b3 = b4 ∧ cs3 = cs4 := by simpa using hce4
                    obtain ⟨rfl, rfl⟩ : b3 = b5 ∧ cs3 = cs5 := by simpa using hce5
                    obtain rfl : cap = k3 := by injection hve3
                    rw [hcl] at hve3
                    have ix3' := ix_off (sz := 2) (k := k) (i := j) hve3 (by omega) (by omega) (by omega)
                    have ix4' := ix_off (sz := 2) (k := k) (i := ((j : Int) - 1).toNat) hve3 (by omega) (by omega) (by omega)
                    refine T.skip (Post.thnN ?_)
                    refine T.seq ?_
                    refine T.block ?_
                    refine T.seq ?_
                    refine T.draw Try_mixed (by kernel_rfl) ?_
                    refine Plan.v 0 [1, 2, 3, 4, 5, 6, 7, 8, 9] (by kernel_rfl) (by kernel_rfl) (by kernel_rfl) (by kernel_rfl) rfl (fun _ _ h_ => R.mvE rfl (by conv => lhs; whnf) (TL.nil h_)) ?_
                    refine Plan.v 1 [2, 3, 4, 5, 6, 7, 8, 9] (by kernel_rfl) (by kernel_rfl) (by kernel_rfl) (by kernel_rfl) rfl (fun _ _ h_ => R.mvE rfl (by conv => lhs; whnf) (TL.nil h_)) ?_
                    refine Plan.v 4 [2, 3, 5, 6, 7, 8, 9] (by kernel_rfl) (by kernel_rfl) (by kernel_rfl) (by kernel_rfl) rfl (fun _ _ h_ => R.mvE rfl (by conv => lhs; whnf) (TL.nil h_)) ?_
                    refine Plan.v 5 [2, 3, 6, 7, 8, 9] (by kernel_rfl) (by kernel_rfl) (by kernel_rfl) (by kernel_rfl) rfl (fun _ _ h_ => R.mvE rfl (by conv => lhs; whnf) (TL.nil h_)) ?_
                    refine Plan.v 6 [2, 3, 7, 8, 9] (by kernel_rfl) (by kernel_rfl) (by kernel_rfl) (by kernel_rfl) rfl (fun _ _ h_ => R.subI rfl rfl rfl (by omega) (TL.nil h_)) ?_
                    refine Plan.s2 2 7 [3, 7, 8, 9] [2, 3, 8, 9] (by kernel_rfl) (by kernel_rfl) (by kernel_rfl) rfl rfl ?_ ?_
                    · refine R.ixp Try.underlying22 Try.sizeOf37 rfl rfl rfl (by omega) ix3' ?_
                      refine TL.nil (Plan.e1 (HLe.refl _) ?_)
                      refine Plan.s2 3 7 [7, 8, 9] [3, 8, 9] (by kernel_rfl) (by kernel_rfl) (by kernel_rfl) rfl rfl ?_ ?_
                      · refine R.ldAt Try.isAgg37 Try.sizeOf37 rfl rfl .hd rfl hcs3 ?_
                        refine TL.nil (Plan.e1 (HLe.refl _) ?_)
                        refine Plan.s1 7 [8, 9] (by kernel_rfl) (by kernel_rfl) rfl ?_
                        refine R.ixp Try.underlying22 Try.sizeOf37 rfl rfl rfl (by omega) ix4' ?_
                        refine TL.nil (Plan.e1 (HLe.refl _) ?_)
                        refine Plan.s1 8 [9] (by kernel_rfl) (by kernel_rfl) rfl ?_
                        refine R.ldAt Try.isAgg37 Try.sizeOf37 rfl rfl .hd rfl hcs4 ?_
                        refine TL.nil (Plan.e1 (HLe.refl _) ?_)
                        refine Plan.v 9 [] (by kernel_rfl) (by kernel_rfl) (by kernel_rfl) (by kernel_rfl) rfl (fun _ _ h_ => R.neP (a := y2) (b := z2) Tryc_eqP Tryc_eqG rfl rfl rfl (TL.nil h_)) ?_
                        refine Plan.done (Post.thnN ?_)
                        refine T.condD rfl (fun c44 => ?_) (fun c44 => ?_)
                        · refine T.seq ?_
                          refine T.region ?_
                          refine R.mvE rfl (by conv => lhs; whnf) ?_
                          refine R.mvE rfl (by conv => lhs; whnf) ?_
                          refine R.mvE rfl (by conv => lhs; whnf) ?_
                          refine R.mvE rfl (by conv => lhs; whnf) ?_
                          refine R.ixp Try.underlying22 Try.sizeOf37 rfl rfl rfl (by omega) ix3' ?_
                          refine R.ldAt Try.isAgg37 Try.sizeOf37 rfl rfl .hd rfl hcs3 ?_
                          refine R.ixp Try.underlying22 Try.sizeOf37 rfl rfl rfl (by omega) (by rw [← hcl]; exact ix5) ?_
                          refine R.stEA (y := y2) (l := [.int .i64 y2.1, .int .i64 y2.2]) Try.sizeOf37 rfl hw .hd ix5 rfl rfl rfl ?_
                          intro c51 w51
                          refine TL.nil (Post.thnN ?_)
                          refine T.region ?_
                          refine R.mvE rfl (by conv => lhs; whnf) ?_
                          refine R.addI rfl rfl rfl (by omega) ?_
                          refine R.asE rfl (by conv => lhs; whnf) ?_
                          refine TL.nil (Post.blkN ?_)
                          refine id (Post.thnN ?_)
                          refine T.region ?_
                          refine R.mvE rfl (by conv => lhs; whnf) ?_
                          refine R.addI rfl rfl rfl (by omega) ?_
                          refine R.asE rfl (by conv => lhs; whnf) ?_
                          refine TL.nil (Post.thnN ?_)
                          -- round's end, way ny100yy00y
                          exact ⟨(i + 1, j + 1, cur.set i y2, c51), s_4, ⟨⟨by omega, by show k + (j + 1) ≤ _; omega, by show i + 1 + 1 ≤ k + (j + 1); omega, by rw [List.length_set]; exact hcl⟩, rfl, rfl, by rw [List.length_set]; exact w51, by rw [set_take (by omega), htk, hkj, compact_take hz2 hy2', if_neg c44, hkj1], fun q hq => by rw [List.getElem?_set_ne (by omega)]; exact hrest q (by omega)⟩, by show xs.length - (k + (j + 1)) < xs.length - (k + j); omega, ⟨rfl, rfl, rfl, rfl, trivial⟩⟩
                        · refine T.skip (Post.blkN ?_)
                          refine id (Post.thnN ?_)
                          refine T.region ?_
                          refine R.mvE rfl (by conv => lhs; whnf) ?_
                          refine R.addI rfl rfl rfl (by omega) ?_
                          refine R.asE rfl (by conv => lhs; whnf) ?_
                          refine TL.nil (Post.thnN ?_)
                          -- round's end, way ny100yy00n
                          exact ⟨(i, j + 1, cur, [(b3, .cells cs3 37)]), s_4, ⟨⟨by omega, by show k + (j + 1) ≤ _; omega, by show i + 1 ≤ k + (j + 1); omega, hcl⟩, rfl, rfl, hw, by rw [htk, hkj, compact_take hz2 hy2', if_pos (Decidable.of_not_not c44), hkj1], hrest⟩, by show xs.length - (k + (j + 1)) < xs.length - (k + j); omega, ⟨rfl, rfl, rfl, rfl, trivial⟩⟩
                      · refine R.ixp Try.underlying22 Try.sizeOf37 rfl rfl rfl (by omega) ix4' ?_
                        refine TL.nil (Plan.e1 (HLe.refl _) ?_)
                        refine Plan.s2 3 8 [8, 9] [3, 9] (by kernel_rfl) (by kernel_rfl) (by kernel_rfl) rfl rfl ?_ ?_
                        · refine R.ldAt Try.isAgg37 Try.sizeOf37 rfl rfl .hd rfl hcs3 ?_
                          refine TL.nil (Plan.e1 (HLe.refl _) ?_)
                          refine Plan.s1 8 [9] (by kernel_rfl) (by kernel_rfl) rfl ?_
                          refine R.ldAt Try.isAgg37 Try.sizeOf37 rfl rfl .hd rfl hcs4 ?_
                          refine TL.nil (Plan.e1 (HLe.refl _) ?_)
                          refine Plan.v 9 [] (by kernel_rfl) (by kernel_rfl) (by kernel_rfl) (by kernel_rfl) rfl (fun _ _ h_ => R.neP (a := y2) (b := z2) Tryc_eqP Tryc_eqG rfl rfl rfl (TL.nil h_)) ?_
                          refine Plan.done (Post.thnN ?_)
                          refine T.condD rfl (fun c44 => ?_) (fun c44 => ?_)
                          · refine T.seq ?_
                            refine T.region ?_
                            refine R.mvE rfl (by conv => lhs; whnf) ?_
                            refine R.mvE rfl (by conv => lhs; whnf) ?_
                            refine R.mvE rfl (by conv => lhs; whnf) ?_
                            refine R.mvE rfl (by conv => lhs; whnf) ?_
                            refine R.ixp Try.underlying22 Try.sizeOf37 rfl rfl rfl (by omega) ix3' ?_
                            refine R.ldAt Try.isAgg37 Try.sizeOf37 rfl rfl .hd rfl hcs3 ?_
                            refine R.ixp Try.underlying22 Try.sizeOf37 rfl rfl rfl (by omega) (by rw [← hcl]; exact ix5) ?_
                            refine R.stEA (y := y2) (l := [.int .i64 y2.1, .int .i64 y2.2]) Try.sizeOf37 rfl hw .hd ix5 rfl rfl rfl ?_
                            intro c51 w51
                            refine TL.nil (Post.thnN ?_)
                            refine T.region ?_
                            refine R.mvE rfl (by conv => lhs; whnf) ?_
                            refine R.addI rfl rfl rfl (by omega) ?_
                            refine R.asE rfl (by conv => lhs; whnf) ?_
                            refine TL.nil (Post.blkN ?_)
                            refine id (Post.thnN ?_)
                            refine T.region ?_
                            refine R.mvE rfl (by conv => lhs; whnf) ?_
                            refine R.addI rfl rfl rfl (by omega) ?_
                            refine R.asE rfl (by conv => lhs; whnf) ?_
                            refine TL.nil (Post.thnN ?_)
                            -- round's end, way ny100yy010y
                            exact ⟨(i + 1, j + 1, cur.set i y2, c51), s_4, ⟨⟨by omega, by show k + (j + 1) ≤ _; omega, by show i + 1 + 1 ≤ k + (j + 1); omega, by rw [List.length_set]; exact hcl⟩, rfl, rfl, by rw [List.length_set]; exact w51, by rw [set_take (by omega), htk, hkj, compact_take hz2 hy2', if_neg c44, hkj1], fun q hq => by rw [List.getElem?_set_ne (by omega)]; exact hrest q (by omega)⟩, by show xs.length - (k + (j + 1)) < xs.length - (k + j); omega, ⟨rfl, rfl, rfl, rfl, trivial⟩⟩
                          · refine T.skip (Post.blkN ?_)
                            refine id (Post.thnN ?_)
                            refine T.region ?_
                            refine R.mvE rfl (by conv => lhs; whnf) ?_
                            refine R.addI rfl rfl rfl (by omega) ?_
                            refine R.asE rfl (by conv => lhs; whnf) ?_
                            refine TL.nil (Post.thnN ?_)
                            -- round's end, way ny100yy010n
                            exact ⟨(i, j + 1, cur, [(b3, .cells cs3 37)]), s_4, ⟨⟨by omega, by show k + (j + 1) ≤ _; omega, by show i + 1 ≤ k + (j + 1); omega, hcl⟩, rfl, rfl, hw, by rw [htk, hkj, compact_take hz2 hy2', if_pos (Decidable.of_not_not c44), hkj1], hrest⟩, by show xs.length - (k + (j + 1)) < xs.length - (k + j); omega, ⟨rfl, rfl, rfl, rfl, trivial⟩⟩
                        · refine R.ldAt Try.isAgg37 Try.sizeOf37 rfl rfl .hd rfl hcs4 ?_
                          refine TL.nil (Plan.e1 (HLe.refl _) ?_)
                          refine Plan.s1 3 [9] (by kernel_rfl) (by kernel_rfl) rfl ?_
                          refine R.ldAt Try.isAgg37 Try.sizeOf37 rfl rfl .hd rfl hcs3 ?_
                          refine TL.nil (Plan.e1 (HLe.refl _) ?_)
                          refine Plan.v 9 [] (by kernel_rfl) (by kernel_rfl) (by kernel_rfl) (by kernel_rfl) rfl (fun _ _ h_ => R.neP (a := y2) (b := z2) Tryc_eqP Tryc_eqG rfl rfl rfl (TL.nil h_)) ?_
                          refine Plan.done (Post.thnN ?_)
                          refine T.condD rfl (fun c44 => ?_) (fun c44 => ?_)
                          · refine T.seq ?_
                            refine T.region ?_
                            refine R.mvE rfl (by conv => lhs; whnf) ?_
                            refine R.mvE rfl (by conv => lhs; whnf) ?_
                            refine R.mvE rfl (by conv => lhs; whnf) ?_
                            refine R.mvE rfl (by conv => lhs; whnf) ?_
                            refine R.ixp Try.underlying22 Try.sizeOf37 rfl rfl rfl (by omega) ix3' ?_
                            refine R.ldAt Try.isAgg37 Try.sizeOf37 rfl rfl .hd rfl hcs3 ?_
                            refine R.ixp Try.underlying22 Try.sizeOf37 rfl rfl rfl (by omega) (by rw [← hcl]; exact ix5) ?_
                            refine R.stEA (y := y2) (l := [.int .i64 y2.1, .int .i64 y2.2]) Try.sizeOf37 rfl hw .hd ix5 rfl rfl rfl ?_
                            intro c51 w51
                            refine TL.nil (Post.thnN ?_)
                            refine T.region ?_
                            refine R.mvE rfl (by conv => lhs; whnf) ?_
                            refine R.addI rfl rfl rfl (by omega) ?_
                            refine R.asE rfl (by conv => lhs; whnf) ?_
                            refine TL.nil (Post.blkN ?_)
                            refine id (Post.thnN ?_)
                            refine T.region ?_
                            refine R.mvE rfl (by conv => lhs; whnf) ?_
                            refine R.addI rfl rfl rfl (by omega) ?_
                            refine R.asE rfl (by conv => lhs; whnf) ?_
                            refine TL.nil (Post.thnN ?_)
                            -- round's end, way ny100yy011y
                            exact ⟨(i + 1, j + 1, cur.set i y2, c51), s_4, ⟨⟨by omega, by show k + (j + 1) ≤ _; omega, by show i + 1 + 1 ≤ k + (j + 1); omega, by rw [List.length_set]; exact hcl⟩, rfl, rfl, by rw [List.length_set]; exact w51, by rw [set_take (by omega), htk, hkj, compact_take hz2 hy2', if_neg c44, hkj1], fun q hq => by rw [List.getElem?_set_ne (by omega)]; exact hrest q (by omega)⟩, by show xs.length - (k + (j + 1)) < xs.length - (k + j); omega, ⟨rfl, rfl, rfl, rfl, trivial⟩⟩
                          · refine T.skip (Post.blkN ?_)
                            refine id (Post.thnN ?_)
                            refine T.region ?_
                            refine R.mvE rfl (by conv => lhs; whnf) ?_
                            refine R.addI rfl rfl rfl (by omega) ?_
                            refine R.asE rfl (by conv => lhs; whnf) ?_
                            refine TL.nil (Post.thnN ?_)
                            -- round's end, way ny100yy011n
                            exact ⟨(i, j + 1, cur, [(b3, .cells cs3 37)]), s_4, ⟨⟨by omega, by show k + (j + 1) ≤ _; omega, by show i + 1 ≤ k + (j + 1); omega, hcl⟩, rfl, rfl, hw, by rw [htk, hkj, compact_take hz2 hy2', if_pos (Decidable.of_not_not c44), hkj1], hrest⟩, by show xs.length - (k + (j + 1)) < xs.length - (k + j); omega, ⟨rfl, rfl, rfl, rfl, trivial⟩⟩
                    · refine R.ixp Try.underlying22 Try.sizeOf37 rfl rfl rfl (by omega) ix4' ?_
                      refine TL.nil (Plan.e1 (HLe.refl _) ?_)
                      refine Plan.s2 2 8 [3, 8, 9] [2, 3, 9] (by kernel_rfl) (by kernel_rfl) (by kernel_rfl) rfl rfl ?_ ?_
                      · refine R.ixp Try.underlying22 Try.sizeOf37 rfl rfl rfl (by omega) ix3' ?_
                        refine TL.nil (Plan.e1 (HLe.refl _) ?_)
                        refine Plan.s2 3 8 [8, 9] [3, 9] (by kernel_rfl) (by kernel_rfl) (by kernel_rfl) rfl rfl ?_ ?_
                        · refine R.ldAt Try.isAgg37 Try.sizeOf37 rfl rfl .hd rfl hcs3 ?_
                          refine TL.nil (Plan.e1 (HLe.refl _) ?_)
                          refine Plan.s1 8 [9] (by kernel_rfl) (by kernel_rfl) rfl ?_
                          refine R.ldAt Try.isAgg37 Try.sizeOf37 rfl rfl .hd rfl hcs4 ?_
                          refine TL.nil (Plan.e1 (HLe.refl _) ?_)
                          refine Plan.v 9 [] (by kernel_rfl) (by kernel_rfl) (by kernel_rfl) (by kernel_rfl) rfl (fun _ _ h_ => R.neP (a := y2) (b := z2) Tryc_eqP Tryc_eqG rfl rfl rfl (TL.nil h_)) ?_
                          refine Plan.done (Post.thnN ?_)
                          refine T.condD rfl (fun c44 => ?_) (fun c44 => ?_)
                          · refine T.seq ?_
                            refine T.region ?_
                            refine R.mvE rfl (by conv => lhs; whnf) ?_
                            refine R.mvE rfl (by conv => lhs; whnf) ?_
                            refine R.mvE rfl (by conv => lhs; whnf) ?_
                            refine R.mvE rfl (by conv => lhs; whnf) ?_
                            refine R.ixp Try.underlying22 Try.sizeOf37 rfl rfl rfl (by omega) ix3' ?_
                            refine R.ldAt Try.isAgg37 Try.sizeOf37 rfl rfl .hd rfl hcs3 ?_
                            refine R.ixp Try.underlying22 Try.sizeOf37 rfl rfl rfl (by omega) (by rw [← hcl]; exact ix5) ?_
                            refine R.stEA (y := y2) (l := [.int .i64 y2.1, .int .i64 y2.2]) Try.sizeOf37 rfl hw .hd ix5 rfl rfl rfl ?_
                            intro c51 w51
                            refine TL.nil (Post.thnN ?_)
                            refine T.region ?_
                            refine R.mvE rfl (by conv => lhs; whnf) ?_
                            refine R.addI rfl rfl rfl (by omega) ?_
                            refine R.asE rfl (by conv => lhs; whnf) ?_
                            refine TL.nil (Post.blkN ?_)
                            refine id (Post.thnN ?_)
                            refine T.region ?_
                            refine R.mvE rfl (by conv => lhs; whnf) ?_
                            refine R.addI rfl rfl rfl (by omega) ?_
                            refine R.asE rfl (by conv => lhs; whnf) ?_
                            refine TL.nil (Post.thnN ?_)
                            -- round's end, way ny100yy100y
                            exact ⟨(i + 1, j + 1, cur.set i y2, c51), s_4, ⟨⟨by omega, by show k + (j + 1) ≤ _; omega, by show i + 1 + 1 ≤ k + (j + 1); omega, by rw [List.length_set]; exact hcl⟩, rfl, rfl, by rw [List.length_set]; exact w51, by rw [set_take (by omega), htk, hkj, compact_take hz2 hy2', if_neg c44, hkj1], fun q hq => by rw [List.getElem?_set_ne (by omega)]; exact hrest q (by omega)⟩, by show xs.length - (k + (j + 1)) < xs.length - (k + j); omega, ⟨rfl, rfl, rfl, rfl, trivial⟩⟩
                          · refine T.skip (Post.blkN ?_)
                            refine id (Post.thnN ?_)
                            refine T.region ?_
                            refine R.mvE rfl (by conv => lhs; whnf) ?_
                            refine R.addI rfl rfl rfl (by omega) ?_
                            refine R.asE rfl (by conv => lhs; whnf) ?_
                            refine TL.nil (Post.thnN ?_)
                            -- round's end, way ny100yy100n
                            exact ⟨(i, j + 1, cur, [(b3, .cells cs3 37)]), s_4, ⟨⟨by omega, by show k + (j + 1) ≤ _; omega, by show i + 1 ≤ k + (j + 1); omega, hcl⟩, rfl, rfl, hw, by rw [htk, hkj, compact_take hz2 hy2', if_pos (Decidable.of_not_not c44), hkj1], hrest⟩, by show xs.length - (k + (j + 1)) < xs.length - (k + j); omega, ⟨rfl, rfl, rfl, rfl, trivial⟩⟩
                        · refine R.ldAt Try.isAgg37 Try.sizeOf37 rfl rfl .hd rfl hcs4 ?_
                          refine TL.nil (Plan.e1 (HLe.refl _) ?_)
                          refine Plan.s1 3 [9] (by kernel_rfl) (by kernel_rfl) rfl ?_
                          refine R.ldAt Try.isAgg37 Try.sizeOf37 rfl rfl .hd rfl hcs3 ?_
                          refine TL.nil (Plan.e1 (HLe.refl _) ?_)
                          refine Plan.v 9 [] (by kernel_rfl) (by kernel_rfl) (by kernel_rfl) (by kernel_rfl) rfl (fun _ _ h_ => R.neP (a := y2) (b := z2) Tryc_eqP Tryc_eqG rfl rfl rfl (TL.nil h_)) ?_
                          refine Plan.done (Post.thnN ?_)
                          refine T.condD rfl (fun c44 => ?_) (fun c44 => ?_)
                          · refine T.seq ?_
                            refine T.region ?_
                            refine R.mvE rfl (by conv => lhs; whnf) ?_
                            refine R.mvE rfl (by conv => lhs; whnf) ?_
                            refine R.mvE rfl (by conv => lhs; whnf) ?_
                            refine R.mvE rfl (by conv => lhs; whnf) ?_
                            refine R.ixp Try.underlying22 Try.sizeOf37 rfl rfl rfl (by omega) ix3' ?_
                            refine R.ldAt Try.isAgg37 Try.sizeOf37 rfl rfl .hd rfl hcs3 ?_
                            refine R.ixp Try.underlying22 Try.sizeOf37 rfl rfl rfl (by omega) (by rw [← hcl]; exact ix5) ?_
                            refine R.stEA (y := y2) (l := [.int .i64 y2.1, .int .i64 y2.2]) Try.sizeOf37 rfl hw .hd ix5 rfl rfl rfl ?_
                            intro c51 w51
                            refine TL.nil (Post.thnN ?_)
                            refine T.region ?_
                            refine R.mvE rfl (by conv => lhs; whnf) ?_
                            refine R.addI rfl rfl rfl (by omega) ?_
                            refine R.asE rfl (by conv => lhs; whnf) ?_
                            refine TL.nil (Post.blkN ?_)
                            refine id (Post.thnN ?_)
                            refine T.region ?_
                            refine R.mvE rfl (by conv => lhs; whnf) ?_
                            refine R.addI rfl rfl rfl (by omega) ?_
                            refine R.asE rfl (by conv => lhs; whnf) ?_
                            refine TL.nil (Post.thnN ?_)
                            -- round's end, way ny100yy101y
                            exact ⟨(i + 1, j + 1, cur.set i y2, c51), s_4, ⟨⟨by omega, by show k + (j + 1) ≤ _; omega, by show i + 1 + 1 ≤ k + (j + 1); omega, by rw [List.length_set]; exact hcl⟩, rfl, rfl, by rw [List.length_set]; exact w51, by rw [set_take (by omega), htk, hkj, compact_take hz2 hy2', if_neg c44, hkj1], fun q hq => by rw [List.getElem?_set_ne (by omega)]; exact hrest q (by omega)⟩, by show xs.length - (k + (j + 1)) < xs.length - (k + j); omega, ⟨rfl, rfl, rfl, rfl, trivial⟩⟩
                          · refine T.skip (Post.blkN ?_)
                            refine id (Post.thnN ?_)
                            refine T.region ?_
                            refine R.mvE rfl (by conv => lhs; whnf) ?_
                            refine R.addI rfl rfl rfl (by omega) ?_
                            refine R.asE rfl (by conv => lhs; whnf) ?_
                            refine TL.nil (Post.thnN ?_)
                            -- round's end, way ny100yy101n
                            exact ⟨(i, j + 1, cur, [(b3, .cells cs3 37)]), s_4, ⟨⟨by omega, by show k + (j + 1) ≤ _; omega, by show i + 1 ≤ k + (j + 1); omega, hcl⟩, rfl, rfl, hw, by rw [htk, hkj, compact_take hz2 hy2', if_pos (Decidable.of_not_not c44), hkj1], hrest⟩, by show xs.length - (k + (j + 1)) < xs.length - (k + j); omega, ⟨rfl, rfl, rfl, rfl, trivial⟩⟩
                      · refine R.ldAt Try.isAgg37 Try.sizeOf37 rfl rfl .hd rfl hcs4 ?_
                        refine TL.nil (Plan.e1 (HLe.refl _) ?_)
                        refine Plan.s1 2 [3, 9] (by kernel_rfl) (by kernel_rfl) rfl ?_
                        refine R.ixp Try.underlying22 Try.sizeOf37 rfl rfl rfl (by omega) ix3' ?_
                        refine TL.nil (Plan.e1 (HLe.refl _) ?_)
                        refine Plan.s1 3 [9] (by kernel_rfl) (by kernel_rfl) rfl ?_
                        refine R.ldAt Try.isAgg37 Try.sizeOf37 rfl rfl .hd rfl hcs3 ?_
                        refine TL.nil (Plan.e1 (HLe.refl _) ?_)
                        refine Plan.v 9 [] (by kernel_rfl) (by kernel_rfl) (by kernel_rfl) (by kernel_rfl) rfl (fun _ _ h_ => R.neP (a := y2) (b := z2) Tryc_eqP Tryc_eqG rfl rfl rfl (TL.nil h_)) ?_
                        refine Plan.done (Post.thnN ?_)
                        refine T.condD rfl (fun c44 => ?_) (fun c44 => ?_)
                        · refine T.seq ?_
                          refine T.region ?_
                          refine R.mvE rfl (by conv => lhs; whnf) ?_
                          refine R.mvE rfl (by conv => lhs; whnf) ?_
                          refine R.mvE rfl (by conv => lhs; whnf) ?_
                          refine R.mvE rfl (by conv => lhs; whnf) ?_
                          refine R.ixp Try.underlying22 Try.sizeOf37 rfl rfl rfl (by omega) ix3' ?_
                          refine R.ldAt Try.isAgg37 Try.sizeOf37 rfl rfl .hd rfl hcs3 ?_
                          refine R.ixp Try.underlying22 Try.sizeOf37 rfl rfl rfl (by omega) (by rw [← hcl]; exact ix5) ?_
                          refine R.stEA (y := y2) (l := [.int .i64 y2.1, .int .i64 y2.2]) Try.sizeOf37 rfl hw .hd ix5 rfl rfl rfl ?_
                          intro c51 w51
                          refine TL.nil (Post.thnN ?_)
                          refine T.region ?_
                          refine R.mvE rfl (by conv => lhs; whnf) ?_
                          refine R.addI rfl rfl rfl (by omega) ?_
                          refine R.asE rfl (by conv => lhs; whnf) ?_
                          refine TL.nil (Post.blkN ?_)
                          refine id (Post.thnN ?_)
                          refine T.region ?_
                          refine R.mvE rfl (by conv => lhs; whnf) ?_
                          refine R.addI rfl rfl rfl (by omega) ?_
                          refine R.asE rfl (by conv => lhs; whnf) ?_
                          refine TL.nil (Post.thnN ?_)
                          -- round's end, way ny100yy11y
                          exact ⟨(i + 1, j + 1, cur.set i y2, c51), s_4, ⟨⟨by omega, by show k + (j + 1) ≤ _; omega, by show i + 1 + 1 ≤ k + (j + 1); omega, by rw [List.length_set]; exact hcl⟩, rfl, rfl, by rw [List.length_set]; exact w51, by rw [set_take (by omega), htk, hkj, compact_take hz2 hy2', if_neg c44, hkj1], fun q hq => by rw [List.getElem?_set_ne (by omega)]; exact hrest q (by omega)⟩, by show xs.length - (k + (j + 1)) < xs.length - (k + j); omega, ⟨rfl, rfl, rfl, rfl, trivial⟩⟩
                        · refine T.skip (Post.blkN ?_)
                          refine id (Post.thnN ?_)
                          refine T.region ?_
                          refine R.mvE rfl (by conv => lhs; whnf) ?_
                          refine R.addI rfl rfl rfl (by omega) ?_
                          refine R.asE rfl (by conv => lhs; whnf) ?_
                          refine TL.nil (Post.thnN ?_)
                          -- round's end, way ny100yy11n
                          exact ⟨(i, j + 1, cur, [(b3, .cells cs3 37)]), s_4, ⟨⟨by omega, by show k + (j + 1) ≤ _; omega, by show i + 1 ≤ k + (j + 1); omega, hcl⟩, rfl, rfl, hw, by rw [htk, hkj, compact_take hz2 hy2', if_pos (Decidable.of_not_not c44), hkj1], hrest⟩, by show xs.length - (k + (j + 1)) < xs.length - (k + j); omega, ⟨rfl, rfl, rfl, rfl, trivial⟩⟩
                  · have hje : k + j = xs.length := by omega
                    rw [hje, List.take_length] at htk
                    have hil : (cur.take i).length = i := by simp; omega
                    refine T.exit (Post.thnE (Post.thnE (Post.blkX ?_)))
                    refine id (Post.thnN ?_)
                    refine T.seq ?_
                    refine T.region ?_
                    refine R.mvE rfl (by conv => lhs; whnf) ?_
                    refine R.mvE rfl (by conv => lhs; whnf) ?_
                    refine R.sL Try.underlying22 Try.sizeOf37 rfl rfl rfl (by omega) (by omega) ?_
                    refine R.clr (dd := none) (xs := cur.take i) Try_ty22 (zone_of (z := .agg #[.int .i64 0, .int .i64 0]) (by kernel_rfl) (by intro v hv; simp [Value.cells] at hv; rcases hv with rfl | rfl <;> rfl)) rfl (fun q h => by cases h) (m := xs.length) (by rw [hil]; rfl) (by rw [hil]; exact own_take0 hw (by omega)) .hd (by omega) (by omega) ?_
                    intro c57 w57
                    refine TL.nil (Post.thnN ?_)
                    refine T.seq ?_
                    refine T.region ?_
                    refine R.mvE rfl (by conv => lhs; whnf) ?_
                    refine R.mvE rfl (by conv => lhs; whnf) ?_
                    refine R.sH Try.underlying22 Try.sizeOf37 rfl rfl rfl (by omega) (by omega) ?_
                    refine R.asE rfl (by conv => lhs; whnf) ?_
                    refine TL.nil (Post.thnN ?_)
                    refine T.ret (Post.blkR (Post.thnR (Post.thnR (Post.blkR (Post.thnR ?_)))))
                    -- way ny100yn
                    refine fin1L [c57] rfl rfl (List.Sublist.refl _) ⟨_, rfl, ?_⟩
                    show OwnS pairE 37 _ (slcV (.slice A xs.length cap) 0 i cap 2) (compactL xs) c57
                    rw [slc_take0, ← htk]
                    rw [hil] at w57
                    exact w57
              · refine T.skip (Post.blkN ?_)
                refine id (Post.thnN ?_)
                refine T.region ?_
                refine R.mvE rfl (by conv => lhs; whnf) ?_
                refine R.addI rfl rfl rfl (by omega) ?_
                refine R.asE rfl (by conv => lhs; whnf) ?_
                refine TL.nil (Post.thnN ?_)
                -- round's end, way ny100n
                exact ⟨k + 1, s_0, ⟨⟨by omega, by omega⟩, rfl, rfl, by rw [show k + 1 = (k - 1) + 2 by omega, compact_take hz hy1, if_neg c25, show k - 1 + 1 = k by omega, hco, show k - 1 + 2 = k + 1 by omega, take_snoc _ _ _ hy]⟩, by omega, ⟨rfl, rfl, trivial⟩⟩
            · refine R.ldAt Try.isAgg37 Try.sizeOf37 rfl rfl .hd rfl hcs2 ?_
              refine TL.nil (Plan.e1 (HLe.refl _) ?_)
              refine Plan.s1 3 [9] (by kernel_rfl) (by kernel_rfl) rfl ?_
              refine R.ldAt Try.isAgg37 Try.sizeOf37 rfl rfl .hd rfl hcs1 ?_
              refine TL.nil (Plan.e1 (HLe.refl _) ?_)
              refine Plan.v 9 [] (by kernel_rfl) (by kernel_rfl) (by kernel_rfl) (by kernel_rfl) rfl (fun _ _ h_ => R.eqP (a := y) (b := z) Tryc_eqP Tryc_eqG rfl rfl rfl (TL.nil h_)) ?_
              refine Plan.done (Post.thnN ?_)
              refine T.condD rfl (fun c25 => ?_) (fun c25 => ?_)
              · refine T.seq ?_
                refine T.region ?_
                refine R.mvE rfl (by conv => lhs; whnf) ?_
                refine R.mvE rfl (by conv => lhs; whnf) ?_
                refine R.sL Try.underlying22 Try.sizeOf37 rfl rfl rfl (by omega) (by omega) ?_
                refine R.asE rfl (by conv => lhs; whnf) ?_
                refine TL.nil (Post.thnN ?_)
                refine T.seq ?_
                refine T.seq ?_
                refine T.region ?_
                refine R.asE rfl (by conv => lhs; whnf) ?_
                refine TL.nil (Post.thnN ?_)
                refine T.block ?_
                refine T.loop (ι := Nat × Nat × List Lk × Chunk) (fun ⟨i, j, cur, ch2⟩ H' L' ds' => (1 ≤ j ∧ k + j ≤ xs.length ∧ i + 1 ≤ k + j ∧ cur.length = xs.length) ∧ L' = [ch2] ∧ ds' = [] ∧ OwnS pairE 37 H' (.slice A cur.length cap) cur ch2 ∧ cur.take i = compactL (xs.take (k + j)) ∧ (∀ q, i ≤ q → cur[q]? = xs[q]?)) (fun ⟨i, j, cur, ch2⟩ => [(0, .slice A xs.length cap), (3, .int .i64 i), (4, slcV (.slice A xs.length cap) k xs.length cap 2), (5, .int .i64 j)]) (fun ⟨i, j, cur, ch2⟩ => xs.length - (k + j)) ((k, 1, xs, [(b1, .cells cs1 37)])) ?_ ?_ ?_
                · exact ⟨⟨by omega, by omega, by omega, rfl⟩, rfl, rfl, ho, by rw [hk2, compact_take hz hy1, if_pos c25, show k - 1 + 1 = k by omega, hco], fun q hq => rfl⟩
                · exact ⟨rfl, rfl, rfl, rfl, trivial⟩
                · intro ⟨i, j, cur, ch2⟩ σ5 H_5 L_5 ds_5 s_5 hI_5
                  obtain ⟨⟨hj1, hj2, hij, hcl⟩, rfl, rfl, hw, htk, hrest⟩ := hI_5
                  refine T.seq ?_
                  refine T.seq ?_
                  refine T.region ?_
                  refine R.mvE rfl (by conv => lhs; whnf) ?_
                  refine R.mvE rfl (by conv => lhs; whnf) ?_
                  refine R.len Try.underlying22 rfl rfl ?_
                  refine R.lss rfl rfl rfl ?_
                  refine TL.nil (Post.thnN ?_)
                  refine T.condD rfl (fun c32 => ?_) (fun c32 => ?_)
                  · have hlt2 : k + j < xs.length := by omega
                    obtain ⟨y2, hy2⟩ := getk hlt2
                    obtain ⟨z2, hz2⟩ := getk (xs := xs) (k := k + j - 1) (by omega)
                    have hkj : k + (j + 1) = (k + j - 1) + 2 := by omega
                    have hkj1 : k + j - 1 + 1 = k + j := by omega
                    have hy2' : xs[k + j - 1 + 1]? = some y2 := by rw [hkj1]; exact hy2
                    have hcy : cur[k + j]? = some y2 := by rw [hrest _ (by omega)]; exact hy2
                    have hcz : cur[k + ((j : Int) - 1).toNat]? = some z2 := by rw [show k + ((j : Int) - 1).toNat = k + j - 1 by omega, hrest _ (by omega)]; exact hz2
                    obtain ⟨yi, hci⟩ := getk (xs := cur) (k := i) (by omega)
                    obtain ⟨b3, k3, cs3, l3, hce3, hve3, ix3, hR3, hcs3⟩ := hw.elem hcy
                    obtain rfl : l3 = [.int .i64 y2.1, .int .i64 y2.2] := hR3
                    obtain ⟨b4, k4, cs4, l4, hce4, hve4, ix4, hR4, hcs4⟩ := hw.elem hcz
                    obtain rfl : l4 = [.int .i64 z2.1, .int .i64 z2.2] := hR4
                    obtain ⟨b5, k5, cs5, l5, hce5, hve5, ix5, hR5, hcs5⟩ := hw.elem hci
                    subst hce3
                    obtain ⟨rfl, rfl⟩ : b3 = b4 ∧ cs3 = cs4 := by simpa using hce4
                    obtain ⟨rfl, rfl⟩ : b3 = b5 ∧ cs3 = cs5 := by simpa using hce5
                    obtain rfl : cap = k3 := by injection hve3
                    rw [hcl] at hve3
                    have ix3' := ix_off (sz := 2) (k := k) (i := j) hve3 (by omega) (by omega) (by omega)
                    have ix4' := ix_off (sz := 2) (k := k) (i := ((j : Int) - 1).toNat) hve3 (by omega) (by omega) (by omega)
                    refine T.skip (Post.thnN ?_)
                    refine T.seq ?_
                    refine T.block ?_
                    refine T.seq ?_
                    refine T.draw Try_mixed (by kernel_rfl) ?_
                    refine Plan.v 0 [1, 2, 3, 4, 5, 6, 7, 8, 9] (by kernel_rfl) (by kernel_rfl) (by kernel_rfl) (by kernel_rfl) rfl (fun _ _ h_ => R.mvE rfl (by conv => lhs; whnf) (TL.nil h_)) ?_
                    refine Plan.v 1 [2, 3, 4, 5, 6, 7, 8, 9] (by kernel_rfl) (by kernel_rfl) (by kernel_rfl) (by kernel_rfl) rfl (fun _ _ h_ => R.mvE rfl (by conv => lhs; whnf) (TL.nil h_)) ?_
                    refine Plan.v 4 [2, 3, 5, 6, 7, 8, 9] (by kernel_rfl) (by kernel_rfl) (by kernel_rfl) (by kernel_rfl) rfl (fun _ _ h_ => R.mvE rfl (by conv => lhs; whnf) (TL.nil h_)) ?_
                    refine Plan.v 5 [2, 3, 6, 7, 8, 9] (by kernel_rfl) (by kernel_rfl) (by kernel_rfl) (by kernel_rfl) rfl (fun _ _ h_ => R.mvE rfl (by conv => lhs; whnf) (TL.nil h_)) ?_
                    refine Plan.v 6 [2, 3, 7, 8, 9] (by kernel_rfl) (by kernel_rfl) (by kernel_rfl) (by kernel_rfl) rfl (fun _ _ h_ => R.subI rfl rfl rfl (by omega) (TL.nil h_)) ?_
                    refine Plan.s2 2 7 [3, 7, 8, 9] [2, 3, 8, 9] (by kernel_rfl) (by kernel_rfl) (by kernel_rfl) rfl rfl ?_ ?_
                    · refine R.ixp Try.underlying22 Try.sizeOf37 rfl rfl rfl (by omega) ix3' ?_
                      refine TL.nil (Plan.e1 (HLe.refl _) ?_)
                      refine Plan.s2 3 7 [7, 8, 9] [3, 8, 9] (by kernel_rfl) (by kernel_rfl) (by kernel_rfl) rfl rfl ?_ ?_
                      · refine R.ldAt Try.isAgg37 Try.sizeOf37 rfl rfl .hd rfl hcs3 ?_
                        refine TL.nil (Plan.e1 (HLe.refl _) ?_)
                        refine Plan.s1 7 [8, 9] (by kernel_rfl) (by kernel_rfl) rfl ?_
                        refine R.ixp Try.underlying22 Try.sizeOf37 rfl rfl rfl (by omega) ix4' ?_
                        refine TL.nil (Plan.e1 (HLe.refl _) ?_)
                        refine Plan.s1 8 [9] (by kernel_rfl) (by kernel_rfl) rfl ?_
                        refine R.ldAt Try.isAgg37 Try.sizeOf37 rfl rfl .hd rfl hcs4 ?_
                        refine TL.nil (Plan.e1 (HLe.refl _) ?_)
                        refine Plan.v 9 [] (by kernel_rfl) (by kernel_rfl) (by kernel_rfl) (by kernel_rfl) rfl (fun _ _ h_ => R.neP (a := y2) (b := z2) Tryc_eqP Tryc_eqG rfl rfl rfl (TL.nil h_)) ?_
                        refine Plan.done (Post.thnN ?_)
                        refine T.condD rfl (fun c44 => ?_) (fun c44 => ?_)
                        · refine T.seq ?_
                          refine T.region ?_
                          refine R.mvE rfl (by conv => lhs; whnf) ?_
                          refine R.mvE rfl (by conv => lhs; whnf) ?_
                          refine R.mvE rfl (by conv => lhs; whnf) ?_
                          refine R.mvE rfl (by conv => lhs; whnf) ?_
                          refine R.ixp Try.underlying22 Try.sizeOf37 rfl rfl rfl (by omega) ix3' ?_
                          refine R.ldAt Try.isAgg37 Try.sizeOf37 rfl rfl .hd rfl hcs3 ?_
                          refine R.ixp Try.underlying22 Try.sizeOf37 rfl rfl rfl (by omega) (by rw [← hcl]; exact ix5) ?_
                          refine R.stEA (y := y2) (l := [.int .i64 y2.1, .int .i64 y2.2]) Try.sizeOf37 rfl hw .hd ix5 rfl rfl rfl ?_
                          intro c51 w51
                          refine TL.nil (Post.thnN ?_)
                          refine T.region ?_
                          refine R.mvE rfl (by conv => lhs; whnf) ?_
                          refine R.addI rfl rfl rfl (by omega) ?_
                          refine R.asE rfl (by conv => lhs; whnf) ?_
                          refine TL.nil (Post.blkN ?_)
                          refine id (Post.thnN ?_)
                          refine T.region ?_
                          refine R.mvE rfl (by conv => lhs; whnf) ?_
                          refine R.addI rfl rfl rfl (by omega) ?_
                          refine R.asE rfl (by conv => lhs; whnf) ?_
                          refine TL.nil (Post.thnN ?_)
                          -- round's end, way ny101yy00y
                          exact ⟨(i + 1, j + 1, cur.set i y2, c51), s_5, ⟨⟨by omega, by show k + (j + 1) ≤ _; omega, by show i + 1 + 1 ≤ k + (j + 1); omega, by rw [List.length_set]; exact hcl⟩, rfl, rfl, by rw [List.length_set]; exact w51, by rw [set_take (by omega), htk, hkj, compact_take hz2 hy2', if_neg c44, hkj1], fun q hq => by rw [List.getElem?_set_ne (by omega)]; exact hrest q (by omega)⟩, by show xs.length - (k + (j + 1)) < xs.length - (k + j); omega, ⟨rfl, rfl, rfl, rfl, trivial⟩⟩
                        · refine T.skip (Post.blkN ?_)
                          refine id (Post.thnN ?_)
                          refine T.region ?_
                          refine R.mvE rfl (by conv => lhs; whnf) ?_
                          refine R.addI rfl rfl rfl (by omega) ?_
                          refine R.asE rfl (by conv => lhs; whnf) ?_
                          refine TL.nil (Post.thnN ?_)
                          -- round's end, way ny101yy00n
                          exact ⟨(i, j + 1, cur, [(b3, .cells cs3 37)]), s_5, ⟨⟨by omega, by show k + (j + 1) ≤ _; omega, by show i + 1 ≤ k + (j + 1); omega, hcl⟩, rfl, rfl, hw, by rw [htk, hkj, compact_take hz2 hy2', if_pos (Decidable.of_not_not c44), hkj1], hrest⟩, by show xs.length - (k + (j + 1)) < xs.length - (k + j); omega, ⟨rfl, rfl, rfl, rfl, trivial⟩⟩
                      · refine R.ixp Try.underlying22 Try.sizeOf37 rfl rfl rfl (by omega) ix4' ?_
                        refine TL.nil (Plan.e1 (HLe.refl _) ?_)
                        refine Plan.s2 3 8 [8, 9] [3, 9] (by kernel_rfl) (by kernel_rfl) (by kernel_rfl) rfl rfl ?_ ?_
                        · refine R.ldAt Try.isAgg37 Try.sizeOf37 rfl rfl .hd rfl hcs3 ?_
                          refine TL.nil (Plan.e1 (HLe.refl _) ?_)
                          refine Plan.s1 8 [9] (by kernel_rfl) (by kernel_rfl) rfl ?_
                          refine R.ldAt Try.isAgg37 Try.sizeOf37 rfl rfl .hd rfl hcs4 ?_
                          refine TL.nil (Plan.e1 (HLe.refl _) ?_)
                          refine Plan.v 9 [] (by kernel_rfl) (by kernel_rfl) (by kernel_rfl) (by kernel_rfl) rfl (fun _ _ h_ => R.neP (a := y2) (b := z2) Tryc_eqP Tryc_eqG rfl rfl rfl (TL.nil h_)) ?_
                          refine Plan.done (Post.thnN ?_)
                          refine T.condD rfl (fun c44 => ?_) (fun c44 => ?_)
                          · refine T.seq ?_
                            refine T.region ?_
                            refine R.mvE rfl (by conv => lhs; whnf) ?_
                            refine R.mvE rfl (by conv => lhs; whnf) ?_
                            refine R.mvE rfl (by conv => lhs; whnf) ?_
                            refine R.mvE rfl (by conv => lhs; whnf) ?_
                            refine R.ixp Try.underlying22 Try.sizeOf37 rfl rfl rfl (by omega) ix3' ?_
                            refine R.ldAt Try.isAgg37 Try.sizeOf37 rfl rfl .hd rfl hcs3 ?_
                            refine R.ixp Try.underlying22 Try.sizeOf37 rfl rfl rfl (by omega) (by rw [← hcl]; exact ix5) ?_
                            refine R.stEA (y := y2) (l := [.int .i64 y2.1, .int .i64 y2.2]) Try.sizeOf37 rfl hw .hd ix5 rfl rfl rfl ?_
                            intro c51 w51
                            refine TL.nil (Post.thnN ?_)
                            refine T.region ?_
                            refine R.mvE rfl (by conv => lhs; whnf) ?_
                            refine R.addI rfl rfl rfl (by omega) ?_
                            refine R.asE rfl (by conv => lhs; whnf) ?_
                            refine TL.nil (Post.blkN ?_)
                            refine id (Post.thnN ?_)
                            refine T.region ?_
                            refine R.mvE rfl (by conv => lhs; whnf) ?_
                            refine R.addI rfl rfl rfl (by omega) ?_
                            refine R.asE rfl (by conv => lhs; whnf) ?_
                            refine TL.nil (Post.thnN ?_)
                            -- round's end, way ny101yy010y
                            exact ⟨(i + 1, j + 1, cur.set i y2, c51), s_5, ⟨⟨by omega, by show k + (j + 1) ≤ _; omega, by show i + 1 + 1 ≤ k + (j + 1); omega, by rw [List.length_set]; exact hcl⟩, rfl, rfl, by rw [List.length_set]; exact w51, by rw [set_take (by omega), htk, hkj, compact_take hz2 hy2', if_neg c44, hkj1], fun q hq => by rw [List.getElem?_set_ne (by omega)]; exact hrest q (by omega)⟩, by show xs.length - (k + (j + 1)) < xs.length - (k + j); omega, ⟨rfl, rfl, rfl, rfl, trivial⟩⟩
                          · refine T.skip (Post.blkN ?_)
                            refine id (Post.thnN ?_)
                            refine T.region ?_
                            refine R.mvE rfl (by conv => lhs; whnf) ?_
                            refine R.addI rfl rfl rfl (by omega) ?_
                            refine R.asE rfl (by conv => lhs; whnf) ?_
                            refine TL.nil (Post.thnN ?_)
                            -- round's end, way ny101yy010n
                            exact ⟨(i, j + 1, cur, [(b3, .cells cs3 37)]), s_5, ⟨⟨by omega, by show k + (j + 1) ≤ _; omega, by show i + 1 ≤ k + (j + 1); omega, hcl⟩, rfl, rfl, hw, by rw [htk, hkj, compact_take hz2 hy2', if_pos (Decidable.of_not_not c44), hkj1], hrest⟩, by show xs.length - (k + (j + 1)) < xs.length - (k + j); omega, ⟨rfl, rfl, rfl, rfl, trivial⟩⟩
                        · refine R.ldAt Try.isAgg37 Try.sizeOf37 rfl rfl .hd rfl hcs4 ?_
                          refine TL.nil (Plan.e1 (HLe.refl _) ?_)
                          refine Plan.s1 3 [9] (by kernel_rfl) (by kernel_rfl) rfl ?_
                          refine R.ldAt Try.isAgg37 Try.sizeOf37 rfl rfl .hd rfl hcs3 ?_
                          refine TL.nil (Plan.e1 (HLe.refl _) ?_)
                          refine Plan.v 9 [] (by kernel_rfl) (by kernel_rfl) (by kernel_rfl) (by kernel_rfl) rfl (fun _ _ h_ => R.neP (a := y2) (b := z2) Tryc_eqP Tryc_eqG rfl rfl rfl (TL.nil h_)) ?_
                          refine Plan.done (Post.thnN ?_)
                          refine T.condD rfl (fun c44 => ?_) (fun c44 => ?_)
                          · refine T.seq ?_
                            refine T.region ?_
                            refine R.mvE rfl (by conv => lhs; whnf) ?_
                            refine R.mvE rfl (by conv => lhs; whnf) ?_
                            refine R.mvE rfl (by conv => lhs; whnf) ?_
                            refine R.mvE rfl (by conv => lhs; whnf) ?_
                            refine R.ixp Try.underlying22 Try.sizeOf37 rfl rfl rfl (by omega) ix3' ?_
                            refine R.ldAt Try.isAgg37 Try.sizeOf37 rfl rfl .hd rfl hcs3 ?_
                            refine R.ixp Try.underlying22 Try.sizeOf37 rfl rfl rfl (by omega) (by rw [← hcl]; exact ix5) ?_
                            refine R.stEA (y := y2) (l := [.int .i64 y2.1, .int .i64 y2.2]) Try.sizeOf37 rfl hw .hd ix5 rfl rfl rfl ?_
                            intro c51 w51
                            refine TL.nil (Post.thnN ?_)
                            refine T.region ?_
                            refine R.mvE rfl (by conv => lhs; whnf) ?_
                            refine R.addI rfl rfl rfl (by omega) ?_
                            refine R.asE rfl (by conv => lhs; whnf) ?_
                            refine TL.nil (Post.blkN ?_)
                            refine id (Post.thnN ?_)
                            refine T.region ?_
                            refine R.mvE rfl (by conv => lhs; whnf) ?_
                            refine R.addI rfl rfl rfl (by omega) ?_
                            refine R.asE rfl (by conv => lhs; whnf) ?_
                            refine TL.nil (Post.thnN ?_)
                            -- round's end, way ny101yy011y
                            exact ⟨(i + 1, j + 1, cur.set i y2, c51), s_5, ⟨⟨by omega, by show k + (j + 1) ≤ _; omega, by show i + 1 + 1 ≤ k + (j + 1); omega, by rw [List.length_set]; exact hcl⟩, rfl, rfl, by rw [List.length_set]; exact w51, by rw [set_take (by omega), htk, hkj, compact_take hz2 hy2', if_neg c44, hkj1], fun q hq => by rw [List.getElem?_set_ne (by omega)]; exact hrest q (by omega)⟩, by show xs.length - (k + (j + 1)) < xs.length - (k + j); omega, ⟨rfl, rfl, rfl, rfl, trivial⟩⟩
                          · refine T.skip (Post.blkN ?_)
                            refine id (Post.thnN ?_)
                            refine T.region ?_
                            refine R.mvE rfl (by conv => lhs; whnf) ?_
                            refine R.addI rfl rfl rfl (by omega) ?_
                            refine R.asE rfl (by conv => lhs; whnf) ?_
                            refine TL.nil (Post.thnN ?_)
                            -- round's end, way ny101yy011n
                            exact ⟨(i, j + 1, cur, [(b3, .cells cs3 37)]), s_5, ⟨⟨by omega, by show k + (j + 1) ≤ _; omega, by show i + 1 ≤ k + (j + 1); omega, hcl⟩, rfl, rfl, hw, by rw [htk, hkj, compact_take hz2 hy2', if_pos (Decidable.of_not_not c44), hkj1], hrest⟩, by show xs.length - (k + (j + 1)) < xs.length - (k + j); omega, ⟨rfl, rfl, rfl, rfl, trivial⟩⟩
                    · refine R.ixp Try.underlying22 Try.sizeOf37 rfl rfl rfl (by omega) ix4' ?_
                      refine TL.nil (Plan.e1 (HLe.refl _) ?_)
                      refine Plan.s2 2 8 [3, 8, 9] [2, 3, 9] (by kernel_rfl) (by kernel_rfl) (by kernel_rfl) rfl rfl ?_ ?_
                      · refine R.ixp Try.underlying22 Try.sizeOf37 rfl rfl rfl (by omega) ix3' ?_
                        refine TL.nil (Plan.e1 (HLe.refl _) ?_)
                        refine Plan.s2 3 8 [8, 9] [3, 9] (by kernel_rfl) (by kernel_rfl) (by kernel_rfl) rfl rfl ?_ ?_
                        · refine R.ldAt Try.isAgg37 Try.sizeOf37 rfl rfl .hd rfl hcs3 ?_
                          refine TL.nil (Plan.e1 (HLe.refl _) ?_)
                          refine Plan.s1 8 [9] (by kernel_rfl) (by kernel_rfl) rfl ?_
                          refine R.ldAt Try.isAgg37 Try.sizeOf37 rfl rfl .hd rfl hcs4 ?_
                          refine TL.nil (Plan.e1 (HLe.refl _) ?_)
                          refine Plan.v 9 [] (by kernel_rfl) (by kernel_rfl) (by kernel_rfl) (by kernel_rfl) rfl (fun _ _ h_ => R.neP (a := y2) (b := z2) Tryc_eqP Tryc_eqG rfl rfl rfl (TL.nil h_)) ?_
                          refine Plan.done (Post.thnN ?_)
                          refine T.condD rfl (fun c44 => ?_) (fun c44 => ?_)
                          · refine T.seq ?_
                            refine T.region ?_
                            refine R.mvE rfl (by conv => lhs; whnf) ?_
                            refine R.mvE rfl (by conv => lhs; whnf) ?_
                            refine R.mvE rfl (by conv => lhs; whnf) ?_
                            refine R.mvE rfl (by conv => lhs; whnf) ?_
                            refine R.ixp Try.underlying22 Try.sizeOf37 rfl rfl rfl (by omega) ix3' ?_
                            refine R.ldAt Try.isAgg37 Try.sizeOf37 rfl rfl .hd rfl hcs3 ?_
                            refine R.ixp Try.underlying22 Try.sizeOf37 rfl rfl rfl (by omega) (by rw [← hcl]; exact ix5) ?_
                            refine R.stEA (y := y2) (l := [.int .i64 y2.1, .int .i64 y2.2]) Try.sizeOf37 rfl hw .hd ix5 rfl rfl rfl ?_
                            intro c51 w51
                            refine TL.nil (Post.thnN ?_)
                            refine T.region ?_
                            refine R.mvE rfl (by conv => lhs; whnf) ?_
                            refine R.addI rfl rfl rfl (by omega) ?_
                            refine R.asE rfl (by conv => lhs; whnf) ?_
                            refine TL.nil (Post.blkN ?_)
                            refine id (Post.thnN ?_)
                            refine T.region ?_
                            refine R.mvE rfl (by conv => lhs; whnf) ?_
                            refine R.addI rfl rfl rfl (by omega) ?_
                            refine R.asE rfl (by conv => lhs; whnf) ?_
                            refine TL.nil (Post.thnN ?_)
                            -- round's end, way ny101yy100y
                            exact ⟨(i + 1, j + 1, cur.set i y2, c51), s_5, ⟨⟨by omega, by show k + (j + 1) ≤ _; omega, by show i + 1 + 1 ≤ k + (j + 1); omega, by rw [List.length_set]; exact hcl⟩, rfl, rfl, by rw [List.length_set]; exact w51, by rw [set_take (by omega), htk, hkj, compact_take hz2 hy2', if_neg c44, hkj1], fun q hq => by rw [List.getElem?_set_ne (by omega)]; exact hrest q (by omega)⟩, by show xs.length - (k + (j + 1)) < xs.length - (k + j); omega, ⟨rfl, rfl, rfl, rfl, trivial⟩⟩
                          · refine T.skip (Post.blkN ?_)
                            refine id (Post.thnN ?_)
                            refine T.region ?_
                            refine R.mvE rfl (by conv => lhs; whnf) ?_
                            refine R.addI rfl rfl rfl (by omega) ?_
                            refine R.asE rfl (by conv => lhs; whnf) ?_
                            refine TL.nil (Post.thnN ?_)
                            -- round's end, way ny101yy100n
                            exact ⟨(i, j + 1, cur, [(b3, .cells cs3 37)]), s_5, ⟨⟨by omega, by show k + (j + 1) ≤ _; omega, by show i + 1 ≤ k + (j + 1); omega, hcl⟩, rfl, rfl, hw, by rw [htk, hkj, compact_take hz2 hy2', if_pos (Decidable.of_not_not c44), hkj1], hrest⟩, by show xs.length - (k + (j + 1)) < xs.length - (k + j); omega, ⟨rfl, rfl, rfl, rfl, trivial⟩⟩
                        · refine R.ldAt Try.isAgg37 Try.sizeOf37 rfl rfl .hd rfl hcs4 ?_
                          refine TL.nil (Plan.e1 (HLe.refl _) ?_)
                          refine Plan.s1 3 [9] (by kernel_rfl) (by kernel_rfl) rfl ?_
                          refine R.ldAt Try.isAgg37 Try.sizeOf37 rfl rfl .hd rfl hcs3 ?_
                          refine TL.nil (Plan.e1 (HLe.refl _) ?_)
                          refine Plan.v 9 [] (by kernel_rfl) (by kernel_rfl) (by kernel_rfl) (by kernel_rfl) rfl (fun _ _ h_ => R.neP (a := y2) (b := z2) Tryc_eqP Tryc_eqG rfl rfl rfl (TL.nil h_)) ?_
                          refine Plan.done (Post.thnN ?_)
                          refine T.condD rfl (fun c44 => ?_) (fun c44 => ?_)
                          · refine T.seq ?_
                            refine T.region ?_
                            refine R.mvE rfl (by conv => lhs; whnf) ?_
                            refine R.mvE rfl (by conv => lhs; whnf) ?_
                            refine R.mvE rfl (by conv => lhs; whnf) ?_
                            refine R.mvE rfl (by conv => lhs; whnf) ?_
                            refine R.ixp Try.underlying22 Try.sizeOf37 rfl rfl rfl (by omega) ix3' ?_
                            refine R.ldAt Try.isAgg37 Try.sizeOf37 rfl rfl .hd rfl hcs3 ?_
                            refine R.ixp Try.underlying22 Try.sizeOf37 rfl rfl rfl (by omega) (by rw [← hcl]; exact ix5) ?_
                            refine R.stEA (y := y2) (l := [.int .i64 y2.1, .int .i64 y2.2]) Try.sizeOf37 rfl hw .hd ix5 rfl rfl rfl ?_
                            intro c51 w51
                            refine TL.nil (Post.thnN ?_)
                            refine T.region ?_
                            refine R.mvE rfl (by conv => lhs; whnf) ?_
                            refine R.addI rfl rfl rfl (by omega) ?_
                            refine R.asE rfl (by conv => lhs; whnf) ?_
                            refine TL.nil (Post.blkN ?_)
                            refine id (Post.thnN ?_)
                            refine T.region ?_
                            refine R.mvE rfl (by conv => lhs; whnf) ?_
                            refine R.addI rfl rfl rfl (by omega) ?_
                            refine R.asE rfl (by conv => lhs; whnf) ?_
                            refine TL.nil (Post.thnN ?_)
                            -- round's end, way ny101yy101y
                            exact ⟨(i + 1, j + 1, cur.set i y2, c51), s_5, ⟨⟨by omega, by show k + (j + 1) ≤ _; omega, by show i + 1 + 1 ≤ k + (j + 1); omega, by rw [List.length_set]; exact hcl⟩, rfl, rfl, by rw [List.length_set]; exact w51, by rw [set_take (by omega), htk, hkj, compact_take hz2 hy2', if_neg c44, hkj1], fun q hq => by rw [List.getElem?_set_ne (by omega)]; exact hrest q (by omega)⟩, by show xs.length - (k + (j + 1)) < xs.length - (k + j); omega, ⟨rfl, rfl, rfl, rfl, trivial⟩⟩
                          · refine T.skip (Post.blkN ?_)
                            refine id (Post.thnN ?_)
                            refine T.region ?_
                            refine R.mvE rfl (by conv => lhs; whnf) ?_
                            refine R.addI rfl rfl rfl (by omega) ?_
                            refine R.asE rfl (by conv => lhs; whnf) ?_
                            refine TL.nil (Post.thnN ?_)
                            -- round's end, way ny101yy101n
                            exact ⟨(i, j + 1, cur, [(b3, .cells cs3 37)]), s_5, ⟨⟨by omega, by show k + (j + 1) ≤ _; omega, by show i + 1 ≤ k + (j + 1); omega, hcl⟩, rfl, rfl, hw, by rw [htk, hkj, compact_take hz2 hy2', if_pos (Decidable.of_not_not c44), hkj1], hrest⟩, by show xs.length - (k + (j + 1)) < xs.length - (k + j); omega, ⟨rfl, rfl, rfl, rfl, trivial⟩⟩
                      · refine R.ldAt Try.isAgg37 Try.sizeOf37 rfl rfl .hd rfl hcs4 ?_
                        refine TL.nil (Plan.e1 (HLe.refl _) ?_)
                        refine Plan.s1 2 [3, 9] (by kernel_rfl) (by kernel_rfl) rfl ?_
                        refine R.ixp Try.underlying22 Try.sizeOf37 rfl rfl rfl (by omega) ix3' ?_
                        refine TL.nil (Plan.e1 (HLe.refl _) ?_)
                        refine Plan.s1 3 [9] (by kernel_rfl) (by kernel_rfl) rfl ?_
                        refine R.ldAt Try.isAgg37 Try.sizeOf37 rfl rfl .hd rfl hcs3 ?_
                        refine TL.nil (Plan.e1 (HLe.refl _) ?_)
                        refine Plan.v 9 [] (by kernel_rfl) (by kernel_rfl) (by kernel_rfl) (by kernel_rfl) rfl (fun _ _ h_ => R.neP (a := y2) (b := z2) Tryc_eqP Tryc_eqG rfl rfl rfl (TL.nil h_)) ?_
                        refine Plan.done (Post.thnN ?_)
                        refine T.condD rfl (fun c44 => ?_) (fun c44 => ?_)
                        · refine T.seq ?_
                          refine T.region ?_
                          refine R.mvE rfl (by conv => lhs; whnf) ?_
                          refine R.mvE rfl (by conv => lhs; whnf) ?_
                          refine R.mvE rfl (by conv => lhs; whnf) ?_
                          refine R.mvE rfl (by conv => lhs; whnf) ?_
                          refine R.ixp Try.underlying22 Try.sizeOf37 rfl rfl rfl (by omega) ix3' ?_
                          refine R.ldAt Try.isAgg37 Try.sizeOf37 rfl rfl .hd rfl hcs3 ?_
                          refine R.ixp Try.underlying22 Try.sizeOf37 rfl rfl rfl (by omega) (by rw [← hcl]; exact ix5) ?_
                          refine R.stEA (y := y2) (l := [.int .i64 y2.1, .int .i64 y2.2]) Try.sizeOf37 rfl hw .hd ix5 rfl rfl rfl ?_
                          intro c51 w51
                          refine TL.nil (Post.thnN ?_)
                          refine T.region ?_
                          refine R.mvE rfl (by conv => lhs; whnf) ?_
                          refine R.addI rfl rfl rfl (by omega) ?_
                          refine R.asE rfl (by conv => lhs; whnf) ?_
                          refine TL.nil (Post.blkN ?_)
                          refine id (Post.thnN ?_)
                          refine T.region ?_
                          refine R.mvE rfl (by conv => lhs; whnf) ?_
                          refine R.addI rfl rfl rfl (by omega) ?_
                          refine R.asE rfl (by conv => lhs; whnf) ?_
                          refine TL.nil (Post.thnN ?_)
                          -- round's end, way ny101yy11y
                          exact ⟨(i + 1, j + 1, cur.set i y2, c51), s_5, ⟨⟨by omega, by show k + (j + 1) ≤ _; omega, by show i + 1 + 1 ≤ k + (j + 1); omega, by rw [List.length_set]; exact hcl⟩, rfl, rfl, by rw [List.length_set]; exact w51, by rw [set_take (by omega), htk, hkj, compact_take hz2 hy2', if_neg c44, hkj1], fun q hq => by rw [List.getElem?_set_ne (by omega)]; exact hrest q (by omega)⟩, by show xs.length - (k + (j + 1)) < xs.length - (k + j); omega, ⟨rfl, rfl, rfl, rfl, trivial⟩⟩
                        · refine T.skip (Post.blkN ?_)
                          refine id (Post.thnN ?_)
                          refine T.region ?_
                          refine R.mvE rfl (by conv => lhs; whnf) ?_
                          refine R.addI rfl rfl rfl (by omega) ?_
                          refine R.asE rfl (by conv => lhs; whnf) ?_
                          refine TL.nil (Post.thnN ?_)
                          -- round's end, way ny101yy11n
                          exact ⟨(i, j + 1, cur, [(b3, .cells cs3 37)]), s_5, ⟨⟨by omega, by show k + (j + 1) ≤ _; omega, by show i + 1 ≤ k + (j + 1); omega, hcl⟩, rfl, rfl, hw, by rw [htk, hkj, compact_take hz2 hy2', if_pos (Decidable.of_not_not c44), hkj1], hrest⟩, by show xs.length - (k + (j + 1)) < xs.length - (k + j); omega, ⟨rfl, rfl, rfl, rfl, trivial⟩⟩
                  · have hje : k + j = xs.length := by omega
                    rw [hje, List.take_length] at htk
                    have hil : (cur.take i).length = i := by simp; omega
                    refine T.exit (Post.thnE (Post.thnE (Post.blkX ?_)))
                    refine id (Post.thnN ?_)
                    refine T.seq ?_
                    refine T.region ?_
                    refine R.mvE rfl (by conv => lhs; whnf) ?_
                    refine R.mvE rfl (by conv => lhs; whnf) ?_
                    refine R.sL Try.underlying22 Try.sizeOf37 rfl rfl rfl (by omega) (by omega) ?_
                    refine R.clr (dd := none) (xs := cur.take i) Try_ty22 (zone_of (z := .agg #[.int .i64 0, .int .i64 0]) (by kernel_rfl) (by intro v hv; simp [Value.cells] at hv; rcases hv with rfl | rfl <;> rfl)) rfl (fun q h => by cases h) (m := xs.length) (by rw [hil]; rfl) (by rw [hil]; exact own_take0 hw (by omega)) .hd (by omega) (by omega) ?_
                    intro c57 w57
                    refine TL.nil (Post.thnN ?_)
                    refine T.seq ?_
                    refine T.region ?_
                    refine R.mvE rfl (by conv => lhs; whnf) ?_
                    refine R.mvE rfl (by conv => lhs; whnf) ?_
                    refine R.sH Try.underlying22 Try.sizeOf37 rfl rfl rfl (by omega) (by omega) ?_
                    refine R.asE rfl (by conv => lhs; whnf) ?_
                    refine TL.nil (Post.thnN ?_)
                    refine T.ret (Post.blkR (Post.thnR (Post.thnR (Post.blkR (Post.thnR ?_)))))
                    -- way ny101yn
                    refine fin1L [c57] rfl rfl (List.Sublist.refl _) ⟨_, rfl, ?_⟩
                    show OwnS pairE 37 _ (slcV (.slice A xs.length cap) 0 i cap 2) (compactL xs) c57
                    rw [slc_take0, ← htk]
                    rw [hil] at w57
                    exact w57
              · refine T.skip (Post.blkN ?_)
                refine id (Post.thnN ?_)
                refine T.region ?_
                refine R.mvE rfl (by conv => lhs; whnf) ?_
                refine R.addI rfl rfl rfl (by omega) ?_
                refine R.asE rfl (by conv => lhs; whnf) ?_
                refine TL.nil (Post.thnN ?_)
                -- round's end, way ny101n
                exact ⟨k + 1, s_0, ⟨⟨by omega, by omega⟩, rfl, rfl, by rw [show k + 1 = (k - 1) + 2 by omega, compact_take hz hy1, if_neg c25, show k - 1 + 1 = k by omega, hco, show k - 1 + 2 = k + 1 by omega, take_snoc _ _ _ hy]⟩, by omega, ⟨rfl, rfl, trivial⟩⟩
          · refine R.ldAt Try.isAgg37 Try.sizeOf37 rfl rfl .hd rfl hcs2 ?_
            refine TL.nil (Plan.e1 (HLe.refl _) ?_)
            refine Plan.s1 2 [3, 9] (by kernel_rfl) (by kernel_rfl) rfl ?_
            refine R.ixp Try.underlying22 Try.sizeOf37 rfl rfl rfl (by omega) ix1 ?_
            refine TL.nil (Plan.e1 (HLe.refl _) ?_)
            refine Plan.s1 3 [9] (by kernel_rfl) (by kernel_rfl) rfl ?_
            refine R.ldAt Try.isAgg37 Try.sizeOf37 rfl rfl .hd rfl hcs1 ?_
            refine TL.nil (Plan.e1 (HLe.refl _) ?_)
            refine Plan.v 9 [] (by kernel_rfl) (by kernel_rfl) (by kernel_rfl) (by kernel_rfl) rfl (fun _ _ h_ => R.eqP (a := y) (b := z) Tryc_eqP Tryc_eqG rfl rfl rfl (TL.nil h_)) ?_
            refine Plan.done (Post.thnN ?_)
            refine T.condD rfl (fun c25 => ?_) (fun c25 => ?_)
            · refine T.seq ?_
              refine T.region ?_
              refine R.mvE rfl (by conv => lhs; whnf) ?_
              refine R.mvE rfl (by conv => lhs; whnf) ?_
              refine R.sL Try.underlying22 Try.sizeOf37 rfl rfl rfl (by omega) (by omega) ?_
              refine R.asE rfl (by conv => lhs; whnf) ?_
              refine TL.nil (Post.thnN ?_)
              refine T.seq ?_
              refine T.seq ?_
              refine T.region ?_
              refine R.asE rfl (by conv => lhs; whnf) ?_
              refine TL.nil (Post.thnN ?_)
              refine T.block ?_
              refine T.loop (ι := Nat × Nat × List Lk × Chunk) (fun ⟨i, j, cur, ch2⟩ H' L' ds' => (1 ≤ j ∧ k + j ≤ xs.length ∧ i + 1 ≤ k + j ∧ cur.length = xs.length) ∧ L' = [ch2] ∧ ds' = [] ∧ OwnS pairE 37 H' (.slice A cur.length cap) cur ch2 ∧ cur.take i = compactL (xs.take (k + j)) ∧ (∀ q, i ≤ q → cur[q]? = xs[q]?)) (fun ⟨i, j, cur, ch2⟩ => [(0, .slice A xs.length cap), (3, .int .i64 i), (4, slcV (.slice A xs.length cap) k xs.length cap 2), (5, .int .i64 j)]) (fun ⟨i, j, cur, ch2⟩ => xs.length - (k + j)) ((k, 1, xs, [(b1, .cells cs1 37)])) ?_ ?_ ?_
              · exact ⟨⟨by omega, by omega, by omega, rfl⟩, rfl, rfl, ho, by rw [hk2, compact_take hz hy1, if_pos c25, show k - 1 + 1 = k by omega, hco], fun q hq => rfl⟩
              · exact ⟨rfl, rfl, rfl, rfl, trivial⟩
              · intro ⟨i, j, cur, ch2⟩ σ6 H_6 L_6 ds_6 s_6 hI_6
                obtain ⟨⟨hj1, hj2, hij, hcl⟩, rfl, rfl, hw, htk, hrest⟩ := hI_6
                refine T.seq ?_
                refine T.seq ?_
                refine T.region ?_
                refine R.mvE rfl (by conv => lhs; whnf) ?_
                refine R.mvE rfl (by conv => lhs; whnf) ?_
                refine R.len Try.underlying22 rfl rfl ?_
                refine R.lss rfl rfl rfl ?_
                refine TL.nil (Post.thnN ?_)
                refine T.condD rfl (fun c32 => ?_) (fun c32 => ?_)
                · have hlt2 : k + j < xs.length := by omega
                  obtain ⟨y2, hy2⟩ := getk hlt2
                  obtain ⟨z2, hz2⟩ := getk (xs := xs) (k := k + j - 1) (by omega)
                  have hkj : k + (j + 1) = (k + j - 1) + 2 := by omega
                  have hkj1 : k + j - 1 + 1 = k + j := by omega
                  have hy2' : xs[k + j - 1 + 1]? = some y2 := by rw [hkj1]; exact hy2
                  have hcy : cur[k + j]? = some y2 := by rw [hrest _ (by omega)]; exact hy2
                  have hcz : cur[k + ((j : Int) - 1).toNat]? = some z2 := by rw [show k + ((j : Int) - 1).toNat = k + j - 1 by omega, hrest _ (by omega)]; exact hz2
                  obtain ⟨yi, hci⟩ := getk (xs := cur) (k := i) (by omega)
                  obtain ⟨b3, k3, cs3, l3, hce3, hve3, ix3, hR3, hcs3⟩ := hw.elem hcy
                  obtain rfl : l3 = [.int .i64 y2.1, .int .i64 y2.2] := hR3
                  obtain ⟨b4, k4, cs4, l4, hce4, hve4, ix4, hR4, hcs4⟩ := hw.elem hcz
                  obtain rfl : l4 = [.int .i64 z2.1, .int .i64 z2.2] := hR4
                  obtain ⟨b5, k5, cs5, l5, hce5, hve5, ix5, hR5, hcs5⟩ := hw.elem hci
                  subst hce3
                  obtain ⟨rfl, rfl⟩ : b3 = b4 ∧ cs3 = cs4 := by simpa using hce4
                  obtain ⟨rfl, rfl⟩ : b3 = b5 ∧ cs3 = cs5 := by simpa using hce5
                  obtain rfl : cap = k3 := by injection hve3
                  rw [hcl] at hve3
                  have ix3' := ix_off (sz := 2) (k := k) (i := j) hve3 (by omega) (by omega) (by omega)
                  have ix4' := ix_off (sz := 2) (k := k) (i := ((j : Int) - 1).toNat) hve3 (by omega) (by omega) (by omega)
                  refine T.skip (Post.thnN ?_)
                  refine T.seq ?_
                  refine T.block ?_
                  refine T.seq ?_
                  refine T.draw Try_mixed (by kernel_rfl) ?_
                  refine Plan.v 0 [1, 2, 3, 4, 5, 6, 7, 8, 9] (by kernel_rfl) (by kernel_rfl) (by kernel_rfl) (by kernel_rfl) rfl (fun _ _ h_ => R.mvE rfl (by conv => lhs; whnf) (TL.nil h_)) ?_
                  refine Plan.v 1 [2, 3, 4, 5, 6, 7, 8, 9] (by kernel_rfl) (by kernel_rfl) (by kernel_rfl) (by kernel_rfl) rfl (fun _ _ h_ => R.mvE rfl (by conv => lhs; whnf) (TL.nil h_)) ?_
                  refine Plan.v 4 [2, 3, 5, 6, 7, 8, 9] (by kernel_rfl) (by kernel_rfl) (by kernel_rfl) (by kernel_rfl) rfl (fun _ _ h_ => R.mvE rfl (by conv => lhs; whnf) (TL.nil h_)) ?_
                  refine Plan.v 5 [2, 3, 6, 7, 8, 9] (by kernel_rfl) (by kernel_rfl) (by kernel_rfl) (by kernel_rfl) rfl (fun _ _ h_ => R.mvE rfl (by conv => lhs; whnf) (TL.nil h_)) ?_
                  refine Plan.v 6 [2, 3, 7, 8, 9] (by kernel_rfl) (by kernel_rfl) (by kernel_rfl) (by kernel_rfl) rfl (fun _ _ h_ => R.subI rfl rfl rfl (by omega) (TL.nil h_)) ?_
                  refine Plan.s2 2 7 [3, 7, 8, 9] [2, 3, 8, 9] (by kernel_rfl) (by kernel_rfl) (by kernel_rfl) rfl rfl ?_ ?_
                  · refine R.ixp Try.underlying22 Try.sizeOf37 rfl rfl rfl (by omega) ix3' ?_
                    refine TL.nil (Plan.e1 (HLe.refl _) ?_)
                    refine Plan.s2 3 7 [7, 8, 9] [3, 8, 9] (by kernel_rfl) (by kernel_rfl) (by kernel_rfl) rfl rfl ?_ ?_
                    · refine R.ldAt Try.isAgg37 Try.sizeOf37 rfl rfl .hd rfl hcs3 ?_
                      refine TL.nil (Plan.e1 (HLe.refl _) ?_)
                      refine Plan.s1 7 [8, 9] (by kernel_rfl) (by kernel_rfl) rfl ?_
                      refine R.ixp Try.underlying22 Try.sizeOf37 rfl rfl rfl (by omega) ix4' ?_
                      refine TL.nil (Plan.e1 (HLe.refl _) ?_)
                      refine Plan.s1 8 [9] (by kernel_rfl) (by kernel_rfl) rfl ?_
                      refine R.ldAt Try.isAgg37 Try.sizeOf37 rfl rfl .hd rfl hcs4 ?_
                      refine TL.nil (Plan.e1 (HLe.refl _) ?_)
                      refine Plan.v 9 [] (by kernel_rfl) (by kernel_rfl) (by kernel_rfl) (by kernel_rfl) rfl (fun _ _ h_ => R.neP (a := y2) (b := z2) Tryc_eqP Tryc_eqG rfl rfl rfl (TL.nil h_)) ?_
                      refine Plan.done (Post.thnN ?_)
                      refine T.condD rfl (fun c44 => ?_) (fun c44 => ?_)
                      · refine T.seq ?_
                        refine T.region ?_
                        refine R.mvE rfl (by conv => lhs; whnf) ?_
                        refine R.mvE rfl (by conv => lhs; whnf) ?_
                        refine R.mvE rfl (by conv => lhs; whnf) ?_
                        refine R.mvE rfl (by conv => lhs; whnf) ?_
                        refine R.ixp Try.underlying22 Try.sizeOf37 rfl rfl rfl (by omega) ix3' ?_
                        refine R.ldAt Try.isAgg37 Try.sizeOf37 rfl rfl .hd rfl hcs3 ?_
                        refine R.ixp Try.underlying22 Try.sizeOf37 rfl rfl rfl (by omega) (by rw [← hcl]; exact ix5) ?_
                        refine R.stEA (y := y2) (l := [.int .i64 y2.1, .int .i64 y2.2]) Try.sizeOf37 rfl hw .hd ix5 rfl rfl rfl ?_
                        intro c51 w51
                        refine TL.nil (Post.thnN ?_)
                        refine T.region ?_
                        refine R.mvE rfl (by conv => lhs; whnf) ?_
                        refine R.addI rfl rfl rfl (by omega) ?_
                        refine R.asE rfl (by conv => lhs; whnf) ?_
                        refine TL.nil (Post.blkN ?_)
                        refine id (Post.thnN ?_)
                        refine T.region ?_
                        refine R.mvE rfl (by conv => lhs; whnf) ?_
                        refine R.addI rfl rfl rfl (by omega) ?_
                        refine R.asE rfl (by conv => lhs; whnf) ?_
                        refine TL.nil (Post.thnN ?_)
                        -- round's end, way ny11yy00y
                        exact ⟨(i + 1, j + 1, cur.set i y2, c51), s_6, ⟨⟨by omega, by show k + (j + 1) ≤ _; omega, by show i + 1 + 1 ≤ k + (j + 1); omega, by rw [List.length_set]; exact hcl⟩, rfl, rfl, by rw [List.length_set]; exact w51, by rw [set_take (by omega), htk, hkj, compact_take hz2 hy2', if_neg c44, hkj1], fun q hq => by rw [List.getElem?_set_ne (by omega)]; exact hrest q (by omega)⟩, by show xs.length - (k + (j + 1)) < xs.length - (k + j); omega, ⟨rfl, rfl, rfl, rfl, trivial⟩⟩
                      · refine T.skip (Post.blkN ?_)
                        refine id (Post.thnN ?_)
                        refine T.region ?_
                        refine R.mvE rfl (by conv => lhs; whnf) ?_
                        refine R.addI rfl rfl rfl (by omega) ?_
                        refine R.asE rfl (by conv => lhs; whnf) ?_
                        refine TL.nil (Post.thnN ?_)
                        -- round's end, way ny11yy00n
                        exact ⟨(i, j + 1, cur, [(b3, .cells cs3 37)]), s_6, ⟨⟨by omega, by show k + (j + 1) ≤ _; omega, by show i + 1 ≤ k + (j + 1); omega, hcl⟩, rfl, rfl, hw, by rw [htk, hkj, compact_take hz2 hy2', if_pos (Decidable.of_not_not c44), hkj1], hrest⟩, by show xs.length - (k + (j + 1)) < xs.length - (k + j); omega, ⟨rfl, rfl, rfl, rfl, trivial⟩⟩
                    · refine R.ixp Try.underlying22 Try.sizeOf37 rfl rfl rfl (by omega) ix4' ?_
                      refine TL.nil (Plan.e1 (HLe.refl _) ?_)
                      refine Plan.s2 3 8 [8, 9] [3, 9] (by kernel_rfl) (by kernel_rfl) (by kernel_rfl) rfl rfl ?_ ?_
                      · refine R.ldAt Try.isAgg37 Try.sizeOf37 rfl rfl .hd rfl hcs3 ?_
                        refine TL.nil (Plan.e1 (HLe.refl _) ?_)
                        refine Plan.s1 8 [9] (by kernel_rfl) (by kernel_rfl) rfl ?_
                        refine R.ldAt Try.isAgg37 Try.sizeOf37 rfl rfl .hd rfl hcs4 ?_
                        refine TL.nil (Plan.e1 (HLe.refl _) ?_)
                        refine Plan.v 9 [] (by kernel_rfl) (by kernel_rfl) (by kernel_rfl) (by kernel_rfl) rfl (fun _ _ h_ => R.neP (a := y2) (b := z2) Tryc_eqP Tryc_eqG rfl rfl rfl (TL.nil h_)) ?_
                        refine Plan.done (Post.thnN ?_)
                        refine T.condD rfl (fun c44 => ?_) (fun c44 => ?_)
                        · refine T.seq ?_
                          refine T.region ?_
                          refine R.mvE rfl (by conv => lhs; whnf) ?_
                          refine R.mvE rfl (by conv => lhs; whnf) ?_
                          refine R.mvE rfl (by conv => lhs; whnf) ?_
                          refine R.mvE rfl (by conv => lhs; whnf) ?_
                          refine R.ixp Try.underlying22 Try.sizeOf37 rfl rfl rfl (by omega) ix3' ?_
                          refine R.ldAt Try.isAgg37 Try.sizeOf37 rfl rfl .hd rfl hcs3 ?_
                          refine R.ixp Try.underlying22 Try.sizeOf37 rfl rfl rfl (by omega) (by rw [← hcl]; exact ix5) ?_
                          refine R.stEA (y := y2) (l := [.int .i64 y2.1, .int .i64 y2.2]) Try.sizeOf37 rfl hw .hd ix5 rfl rfl rfl ?_
                          intro c51 w51
                          refine TL.nil (Post.thnN ?_)
                          refine T.region ?_
                          refine R.mvE rfl (by conv => lhs; whnf) ?_
                          refine R.addI rfl rfl rfl (by omega) ?_
                          refine R.asE rfl (by conv => lhs; whnf) ?_
                          refine TL.nil (Post.blkN ?_)
                          refine id (Post.thnN ?_)
                          refine T.region ?_
                          refine R.mvE rfl (by conv => lhs; whnf) ?_
                          refine R.addI rfl rfl rfl (by omega) ?_
                          refine R.asE rfl (by conv => lhs; whnf) ?_
                          refine TL.nil (Post.thnN ?_)
                          -- round's end, way ny11yy010y
                          exact ⟨(i + 1, j + 1, cur.set i y2, c51), s_6, ⟨⟨by omega, by show k + (j + 1) ≤ _; omega, by show i + 1 + 1 ≤ k + (j + 1); omega, by rw [List.length_set]; exact hcl⟩, rfl, rfl, by rw [List.length_set]; exact w51, by rw [set_take (by omega), htk, hkj, compact_take hz2 hy2', if_neg c44, hkj1], fun q hq => by rw [List.getElem?_set_ne (by omega)]; exact hrest q (by omega)⟩, by show xs.length - (k + (j + 1)) < xs.length - (k + j); omega, ⟨rfl, rfl, rfl, rfl, trivial⟩⟩
                        · refine T.skip (Post.blkN ?_)
                          refine id (Post.thnN ?_)
                          refine T.region ?_
                          refine R.mvE rfl (by conv => lhs; whnf) ?_
                          refine R.addI rfl rfl rfl (by omega) ?_
                          refine R.asE rfl (by conv => lhs; whnf) ?_
                          refine TL.nil (Post.thnN ?_)
                          -- round's end, way ny11yy010n
                          exact ⟨(i, j + 1, cur, [(b3, .cells cs3 37)]), s_6, ⟨⟨by omega, by show k + (j + 1) ≤ _; omega, by show i + 1 ≤ k + (j + 1); omega, hcl⟩, rfl, rfl, hw, by rw [htk, hkj, compact_take hz2 hy2', if_pos (Decidable.of_not_not c44), hkj1], hrest⟩, by show xs.length - (k + (j + 1)) < xs.length - (k + j); omega, ⟨rfl, rfl, rfl, rfl, trivial⟩⟩
                      · refine R.ldAt Try.isAgg37 Try.sizeOf37 rfl rfl .hd rfl hcs4 ?_
                        refine TL.nil (Plan.e1 (HLe.refl _) ?_)
                        refine Plan.s1 3 [9] (by kernel_rfl) (by kernel_rfl) rfl ?_
                        refine R.ldAt Try.isAgg37 Try.sizeOf37 rfl rfl .hd rfl hcs3 ?_
                        refine TL.nil (Plan.e1 (HLe.refl _) ?_)
                        refine Plan.v 9 [] (by kernel_rfl) (by kernel_rfl) (by kernel_rfl) (by kernel_rfl) rfl (fun _ _ h_ => R.neP (a := y2) (b := z2) Tryc_eqP Tryc_eqG rfl rfl rfl (TL.nil h_)) ?_
                        refine Plan.done (Post.thnN ?_)
                        refine T.condD rfl (fun c44 => ?_) (fun c44 => ?_)
                        · refine T.seq ?_
                          refine T.region ?_
                          refine R.mvE rfl (by conv => lhs; whnf) ?_
                          refine R.mvE rfl (by conv => lhs; whnf) ?_
                          refine R.mvE rfl (by conv => lhs; whnf) ?_
                          refine R.mvE rfl (by conv => lhs; whnf) ?_
                          refine R.ixp Try.underlying22 Try.sizeOf37 rfl rfl rfl (by omega) ix3' ?_
                          refine R.ldAt Try.isAgg37 Try.sizeOf37 rfl rfl .hd rfl hcs3 ?_
                          refine R.ixp Try.underlying22 Try.sizeOf37 rfl rfl rfl (by omega) (by rw [← hcl]; exact ix5) ?_
                          refine R.stEA (y := y2) (l := [.int .i64 y2.1, .int .i64 y2.2]) Try.sizeOf37 rfl hw .hd ix5 rfl rfl rfl ?_
                          intro c51 w51
                          refine TL.nil (Post.thnN ?_)
                          refine T.region ?_
                          refine R.mvE rfl (by conv => lhs; whnf) ?_
                          refine R.addI rfl rfl rfl (by omega) ?_
                          refine R.asE rfl (by conv => lhs; whnf) ?_
                          refine TL.nil (Post.blkN ?_)
                          refine id (Post.thnN ?_)
                          refine T.region ?_
                          refine R.mvE rfl (by conv => lhs; whnf) ?_
                          refine R.addI rfl rfl rfl (by omega) ?_
                          refine R.asE rfl (by conv => lhs; whnf) ?_
                          refine TL.nil (Post.thnN ?_)
                          -- round's end, way ny11yy011y
                          exact ⟨(i + 1, j + 1, cur.set i y2, c51), s_6, ⟨⟨by omega, by show k + (j + 1) ≤ _; omega, by show i + 1 + 1 ≤ k + (j + 1); omega, by rw [List.length_set]; exact hcl⟩, rfl, rfl, by rw [List.length_set]; exact w51, by rw [set_take (by omega), htk, hkj, compact_take hz2 hy2', if_neg c44, hkj1], fun q hq => by rw [List.getElem?_set_ne (by omega)]; exact hrest q (by omega)⟩, by show xs.length - (k + (j + 1)) < xs.length - (k + j); omega, ⟨rfl, rfl, rfl, rfl, trivial⟩⟩
                        · refine T.skip (Post.blkN ?_)
                          refine id (Post.thnN ?_)
                          refine T.region ?_
                          refine R.mvE rfl (by conv => lhs; whnf) ?_
                          refine R.addI rfl rfl rfl (by omega) ?_
                          refine R.asE rfl (by conv => lhs; whnf) ?_
                          refine TL.nil (Post.thnN ?_)
                          -- round's end, way ny11yy011n
                          exact ⟨(i, j + 1, cur, [(b3, .cells cs3 37)]), s_6, ⟨⟨by omega, by show k + (j + 1) ≤ _; omega, by show i + 1 ≤ k + (j + 1); omega, hcl⟩, rfl, rfl, hw, by rw [htk, hkj, compact_take hz2 hy2', if_pos (Decidable.of_not_not c44), hkj1], hrest⟩, by show xs.length - (k + (j + 1)) < xs.length - (k + j); omega, ⟨rfl, rfl, rfl, rfl, trivial⟩⟩
                  · refine R.ixp Try.underlying22 Try.sizeOf37 rfl rfl rfl (by omega) ix4' ?_
                    refine TL.nil (Plan.e1 (HLe.refl _) ?_)
                    refine Plan.s2 2 8 [3, 8, 9] [2, 3, 9] (by kernel_rfl) (by kernel_rfl) (by kernel_rfl) rfl rfl ?_ ?_
                    · refine R.ixp Try.underlying22 Try.sizeOf37 rfl rfl rfl (by omega) ix3' ?_
                      refine TL.nil (Plan.e1 (HLe.refl _) ?_)
                      refine Plan.s2 3 8 [8, 9] [3, 9] (by kernel_rfl) (by kernel_rfl) (by kernel_rfl) rfl rfl ?_ ?_
                      · refine R.ldAt Try.isAgg37 Try.sizeOf37 rfl rfl .hd rfl hcs3 ?_
                        refine TL.nil (Plan.e1 (HLe.refl _) ?_)
                        refine Plan.s1 8 [9] (by kernel_rfl) (by kernel_rfl) rfl ?_
                        refine R.ldAt Try.isAgg37 Try.sizeOf37 rfl rfl .hd rfl hcs4 ?_
                        refine TL.nil (Plan.e1 (HLe.refl _) ?_)
                        refine Plan.v 9 [] (by kernel_rfl) (by kernel_rfl) (by kernel_rfl) (by kernel_rfl) rfl (fun _ _ h_ => R.neP (a := y2) (b := z2) Tryc_eqP Tryc_eqG rfl rfl rfl (TL.nil h_)) ?_
                        refine Plan.done (Post.thnN ?_)
                        refine T.condD rfl (fun c44 => ?_) (fun c44 => ?_)
                        · refine T.seq ?_
                          refine T.region ?_
                          refine R.mvE rfl (by conv => lhs; whnf) ?_
                          refine R.mvE rfl (by conv => lhs; whnf) ?_
                          refine R.mvE rfl (by conv => lhs; whnf) ?_
                          refine R.mvE rfl (by conv => lhs; whnf) ?_
                          refine R.ixp Try.underlying22 Try.sizeOf37 rfl rfl rfl (by omega) ix3' ?_
                          refine R.ldAt Try.isAgg37 Try.sizeOf37 rfl rfl .hd rfl hcs3 ?_
                          refine R.ixp Try.underlying22 Try.sizeOf37 rfl rfl rfl (by omega) (by rw [← hcl]; exact ix5) ?_
                          refine R.stEA (y := y2) (l := [.int .i64 y2.1, .int .i64 y2.2]) Try.sizeOf37 rfl hw .hd ix5 rfl rfl rfl ?_
                          intro c51 w51
                          refine TL.nil (Post.thnN ?_)
                          refine T.region ?_
                          refine R.mvE rfl (by conv => lhs; whnf) ?_
                          refine R.addI rfl rfl rfl (by omega) ?_
                          refine R.asE rfl (by conv => lhs; whnf) ?_
                          refine TL.nil (Post.blkN ?_)
                          refine id (Post.thnN ?_)
                          refine T.region ?_
                          refine R.mvE rfl (by conv => lhs; whnf) ?_
                          refine R.addI rfl rfl rfl (by omega) ?_
                          refine R.asE rfl (by conv => lhs; whnf) ?_
                          refine TL.nil (Post.thnN ?_)
                          -- round's end, way ny11yy100y
                          exact ⟨(i + 1, j + 1, cur.set i y2, c51), s_6, ⟨⟨by omega, by show k + (j + 1) ≤ _; omega, by show i + 1 + 1 ≤ k + (j + 1); omega, by rw [List.length_set]; exact hcl⟩, rfl, rfl, by rw [List.length_set]; exact w51, by rw [set_take (by omega), htk, hkj, compact_take hz2 hy2', if_neg c44, hkj1], fun q hq => by rw [List.getElem?_set_ne (by omega)]; exact hrest q (by omega)⟩, by show xs.length - (k + (j + 1)) < xs.length - (k + j); omega, ⟨rfl, rfl, rfl, rfl, trivial⟩⟩
                        · refine T.skip (Post.blkN ?_)
                          refine id (Post.thnN ?_)
                          refine T.region ?_
                          refine R.mvE rfl (by conv => lhs; whnf) ?_
                          refine R.addI rfl rfl rfl (by omega) ?_
                          refine R.asE rfl (by conv => lhs; whnf) ?_
                          refine TL.nil (Post.thnN ?_)
                          -- round's end, way ny11yy100n
                          exact ⟨(i, j + 1, cur, [(b3, .cells cs3 37)]), s_6, ⟨⟨by omega, by show k + (j + 1) ≤ _; omega, by show i + 1 ≤ k + (j + 1); omega, hcl⟩, rfl, rfl, hw, by rw [htk, hkj, compact_take hz2 hy2', if_pos (Decidable.of_not_not c44), hkj1], hrest⟩, by show xs.length - (k + (j + 1)) < xs.length - (k + j); omega, ⟨rfl, rfl, rfl, rfl, trivial⟩⟩
                      · refine R.ldAt Try.isAgg37 Try.sizeOf37 rfl rfl .hd rfl hcs4 ?_
                        refine TL.nil (Plan.e1 (HLe.refl _) ?_)
                        refine Plan.s1 3 [9] (by kernel_rfl) (by kernel_rfl) rfl ?_
                        refine R.ldAt Try.isAgg37 Try.sizeOf37 rfl rfl .hd rfl hcs3 ?_
                        refine TL.nil (Plan.e1 (HLe.refl _) ?_)
                        refine Plan.v 9 [] (by kernel_rfl) (by kernel_rfl) (by kernel_rfl) (by kernel_rfl) rfl (fun _ _ h_ => R.neP (a := y2) (b := z2) Tryc_eqP Tryc_eqG rfl rfl rfl (TL.nil h_)) ?_
                        refine Plan.done (Post.thnN ?_)
                        refine T.condD rfl (fun c44 => ?_) (fun c44 => ?_)
                        · refine T.seq ?_
                          refine T.region ?_
                          refine R.mvE rfl (by conv => lhs; whnf) ?_
                          refine R.mvE rfl (by conv => lhs; whnf) ?_
                          refine R.mvE rfl (by conv => lhs; whnf) ?_
                          refine R.mvE rfl (by conv => lhs; whnf) ?_
                          refine R.ixp Try.underlying22 Try.sizeOf37 rfl rfl rfl (by omega) ix3' ?_
                          refine R.ldAt Try.isAgg37 Try.sizeOf37 rfl rfl .hd rfl hcs3 ?_
                          refine R.ixp Try.underlying22 Try.sizeOf37 rfl rfl rfl (by omega) (by rw [← hcl]; exact ix5) ?_
                          refine R.stEA (y := y2) (l := [.int .i64 y2.1, .int .i64 y2.2]) Try.sizeOf37 rfl hw .hd ix5 rfl rfl rfl ?_
                          intro c51 w51
                          refine TL.nil (Post.thnN ?_)
                          refine T.region ?_
                          refine R.mvE rfl (by conv => lhs; whnf) ?_
                          refine R.addI rfl rfl rfl (by omega) ?_
                          refine R.asE rfl (by conv => lhs; whnf) ?_
                          refine TL.nil (Post.blkN ?_)
                          refine id (Post.thnN ?_)
                          refine T.region ?_
                          refine R.mvE rfl (by conv => lhs; whnf) ?_
                          refine R.addI rfl rfl rfl (by omega) ?_
                          refine R.asE rfl (by conv => lhs; whnf) ?_
                          refine TL.nil (Post.thnN ?_)
                          -- round's end, way ny11yy101y
                          exact ⟨(i + 1, j + 1, cur.set i y2, c51), s_6, ⟨⟨by omega, by show k + (j + 1) ≤ _; omega, by show i + 1 + 1 ≤ k + (j + 1); omega, by rw [List.length_set]; exact hcl⟩, rfl, rfl, by rw [List.length_set]; exact w51, by rw [set_take (by omega), htk, hkj, compact_take hz2 hy2', if_neg c44, hkj1], fun q hq => by rw [List.getElem?_set_ne (by omega)]; exact hrest q (by omega)⟩, by show xs.length - (k + (j + 1)) < xs.length - (k + j); omega, ⟨rfl, rfl, rfl, rfl, trivial⟩⟩
                        · refine T.skip (Post.blkN ?_)
                          refine id (Post.thnN ?_)
                          refine T.region ?_
                          refine R.mvE rfl (by conv => lhs; whnf) ?_
                          refine R.addI rfl rfl rfl (by omega) ?_
                          refine R.asE rfl (by conv => lhs; whnf) ?_
                          refine TL.nil (Post.thnN ?_)
                          -- round's end, way ny11yy101n
                          exact ⟨(i, j + 1, cur, [(b3, .cells cs3 37)]), s_6, ⟨⟨by omega, by show k + (j + 1) ≤ _; omega, by show i + 1 ≤ k + (j + 1); omega, hcl⟩, rfl, rfl, hw, by rw [htk, hkj, compact_take hz2 hy2', if_pos (Decidable.of_not_not c44), hkj1], hrest⟩, by show xs.length - (k + (j + 1)) < xs.length - (k + j); omega, ⟨rfl, rfl, rfl, rfl, trivial⟩⟩
                    · refine R.ldAt Try.isAgg37 Try.sizeOf37 rfl rfl .hd rfl hcs4 ?_
                      refine TL.nil (Plan.e1 (HLe.refl _) ?_)
                      refine Plan.s1 2 [3, 9] (by kernel_rfl) (by kernel_rfl) rfl ?_
                      refine R.ixp Try.underlying22 Try.sizeOf37 rfl rfl rfl (by omega) ix3' ?_
                      refine TL.nil (Plan.e1 (HLe.refl _) ?_)
                      refine Plan.s1 3 [9] (by kernel_rfl) (by kernel_rfl) rfl ?_
                      refine R.ldAt Try.isAgg37 Try.sizeOf37 rfl rfl .hd rfl hcs3 ?_
                      refine TL.nil (Plan.e1 (HLe.refl _) ?_)
                      refine Plan.v 9 [] (by kernel_rfl) (by kernel_rfl) (by kernel_rfl) (by kernel_rfl) rfl (fun _ _ h_ => R.neP (a := y2) (b := z2) Tryc_eqP Tryc_eqG rfl rfl rfl (TL.nil h_)) ?_
                      refine Plan.done (Post.thnN ?_)
                      refine T.condD rfl (fun c44 => ?_) (fun c44 => ?_)
                      · refine T.seq ?_
                        refine T.region ?_
                        refine R.mvE rfl (by conv => lhs; whnf) ?_
                        refine R.mvE rfl (by conv => lhs; whnf) ?_
                        refine R.mvE rfl (by conv => lhs; whnf) ?_
                        refine R.mvE rfl (by conv => lhs; whnf) ?_
                        refine R.ixp Try.underlying22 Try.sizeOf37 rfl rfl rfl (by omega) ix3' ?_
                        refine R.ldAt Try.isAgg37 Try.sizeOf37 rfl rfl .hd rfl hcs3 ?_
                        refine R.ixp Try.underlying22 Try.sizeOf37 rfl rfl rfl (by omega) (by rw [← hcl]; exact ix5) ?_
                        refine R.stEA (y := y2) (l := [.int .i64 y2.1, .int .i64 y2.2]) Try.sizeOf37 rfl hw .hd ix5 rfl rfl rfl ?_
                        intro c51 w51
                        refine TL.nil (Post.thnN ?_)
                        refine T.region ?_
                        refine R.mvE rfl (by conv => lhs; whnf) ?_
                        refine R.addI rfl rfl rfl (by omega) ?_
                        refine R.asE rfl (by conv => lhs; whnf) ?_
                        refine TL.nil (Post.blkN ?_)
                        refine id (Post.thnN ?_)
                        refine T.region ?_
                        refine R.mvE rfl (by conv => lhs; whnf) ?_
                        refine R.addI rfl rfl rfl (by omega) ?_
                        refine R.asE rfl (by conv => lhs; whnf) ?_
                        refine TL.nil (Post.thnN ?_)
                        -- round's end, way ny11yy11y
                        exact ⟨(i + 1, j + 1, cur.set i y2, c51), s_6, ⟨⟨by omega, by show k + (j + 1) ≤ _; omega, by show i + 1 + 1 ≤ k + (j + 1); omega, by rw [List.length_set]; exact hcl⟩, rfl, rfl, by rw [List.length_set]; exact w51, by rw [set_take (by omega), htk, hkj, compact_take hz2 hy2', if_neg c44, hkj1], fun q hq => by rw [List.getElem?_set_ne (by omega)]; exact hrest q (by omega)⟩, by show xs.length - (k + (j + 1)) < xs.length - (k + j); omega, ⟨rfl, rfl, rfl, rfl, trivial⟩⟩
                      · refine T.skip (Post.blkN ?_)
                        refine id (Post.thnN ?_)
                        refine T.region ?_
                        refine R.mvE rfl (by conv => lhs; whnf) ?_
                        refine R.addI rfl rfl rfl (by omega) ?_
                        refine R.asE rfl (by conv => lhs; whnf) ?_
                        refine TL.nil (Post.thnN ?_)
                        -- round's end, way ny11yy11n
                        exact ⟨(i, j + 1, cur, [(b3, .cells cs3 37)]), s_6, ⟨⟨by omega, by show k + (j + 1) ≤ _; omega, by show i + 1 ≤ k + (j + 1); omega, hcl⟩, rfl, rfl, hw, by rw [htk, hkj, compact_take hz2 hy2', if_pos (Decidable.of_not_not c44), hkj1], hrest⟩, by show xs.length - (k + (j + 1)) < xs.length - (k + j); omega, ⟨rfl, rfl, rfl, rfl, trivial⟩⟩
                · have hje : k + j = xs.length := by omega
                  rw [hje, List.take_length] at htk
                  have hil : (cur.take i).length = i := by simp; omega
                  refine T.exit (Post.thnE (Post.thnE (Post.blkX ?_)))
                  refine id (Post.thnN ?_)
                  refine T.seq ?_
                  refine T.region ?_
                  refine R.mvE rfl (by conv => lhs; whnf) ?_
                  refine R.mvE rfl (by conv => lhs; whnf) ?_
                  refine R.sL Try.underlying22 Try.sizeOf37 rfl rfl rfl (by omega) (by omega) ?_
                  refine R.clr (dd := none) (xs := cur.take i) Try_ty22 (zone_of (z := .agg #[.int .i64 0, .int .i64 0]) (by kernel_rfl) (by intro v hv; simp [Value.cells] at hv; rcases hv with rfl | rfl <;> rfl)) rfl (fun q h => by cases h) (m := xs.length) (by rw [hil]; rfl) (by rw [hil]; exact own_take0 hw (by omega)) .hd (by omega) (by omega) ?_
                  intro c57 w57
                  refine TL.nil (Post.thnN ?_)
                  refine T.seq ?_
                  refine T.region ?_
                  refine R.mvE rfl (by conv => lhs; whnf) ?_
                  refine R.mvE rfl (by conv => lhs; whnf) ?_
                  refine R.sH Try.underlying22 Try.sizeOf37 rfl rfl rfl (by omega) (by omega) ?_
                  refine R.asE rfl (by conv => lhs; whnf) ?_
                  refine TL.nil (Post.thnN ?_)
                  refine T.ret (Post.blkR (Post.thnR (Post.thnR (Post.blkR (Post.thnR ?_)))))
                  -- way ny11yn
                  refine fin1L [c57] rfl rfl (List.Sublist.refl _) ⟨_, rfl, ?_⟩
                  show OwnS pairE 37 _ (slcV (.slice A xs.length cap) 0 i cap 2) (compactL xs) c57
                  rw [slc_take0, ← htk]
                  rw [hil] at w57
                  exact w57
            · refine T.skip (Post.blkN ?_)
              refine id (Post.thnN ?_)
              refine T.region ?_
              refine R.mvE rfl (by conv => lhs; whnf) ?_
              refine R.addI rfl rfl rfl (by omega) ?_
              refine R.asE rfl (by conv => lhs; whnf) ?_
              refine TL.nil (Post.thnN ?_)
              -- round's end, way ny11n
              exact ⟨k + 1, s_0, ⟨⟨by omega, by omega⟩, rfl, rfl, by rw [show k + 1 = (k - 1) + 2 by omega, compact_take hz hy1, if_neg c25, show k - 1 + 1 = k by omega, hco, show k - 1 + 2 = k + 1 by omega, take_snoc _ _ _ hy]⟩, by omega, ⟨rfl, rfl, trivial⟩⟩
      · have hkx : k = xs.length := by omega
        rw [hkx, List.take_length] at hco
        refine T.exit (Post.thnE (Post.thnE (Post.blkX ?_)))
        refine id (Post.thnN ?_)
        refine T.seq ?_
        refine T.region ?_
        refine R.mvE rfl (by conv => lhs; whnf) ?_
        refine R.asE rfl (by conv => lhs; whnf) ?_
        refine TL.nil (Post.thnN ?_)
        refine T.ret ?_
        -- way nn
        exact fin1L [ch] rfl rfl (List.Sublist.refl _) ⟨_, rfl, by rw [hco]; exact ho⟩


set_option maxHeartbeats 1600000 in
theorem indexFP_c (H : Heap) (v fv : Value) (xs : List Lk) (p : Lk → Bool) (hr : RdS pairE H v xs) (hp : ∀ H', HLe H H' → ∀ y : Lk, Fv Try.prog fv [.agg #[.int .i64 y.1, .int .i64 y.2]] H' (.bool (p y))) : Fv Try.prog (fnv 79) [v, fv] H (.int .i64 (fidxI p xs)) := by
  refine Fc.of_body (N := 19) Try.func79 rfl (by kernel_rfl) rfl rfl ?_
  intro w0
  obtain ⟨A, c, rfl, hc1, hc2, hr⟩ := hr.shape
  refine T.seq ?_
  refine T.region ?_
  refine R.asE rfl (by conv => lhs; whnf) ?_
  refine TL.nil (Post.thnN ?_)
  refine T.seq ?_
  refine T.seq ?_
  refine T.region ?_
  refine R.mvE rfl (by conv => lhs; whnf) ?_
  refine R.len Try.underlying22 rfl rfl ?_
  refine R.mvE rfl (by conv => lhs; whnf) ?_
  refine TL.nil (Post.thnN ?_)
  refine T.block ?_
  refine T.loop (ι := Nat) (fun k H' L' ds' => k ≤ xs.length ∧ ∀ (j : Nat) z, j < k → xs[j]? = some z → p z = false) (fun k => [(0, .slice A xs.length c), (1, fv), (7, .int .i64 xs.length), (8, .int .i64 k)]) (fun k => xs.length - k) (0) ?_ ?_ ?_
  · exact ⟨Nat.zero_le _, fun j z h => absurd h (by omega)⟩
  · exact ⟨rfl, rfl, rfl, rfl, trivial⟩
  · intro k σ0 H_0 L_0 ds_0 s_0 hI_0
    obtain ⟨hk, hw⟩ := hI_0
    refine T.seq ?_
    refine T.region ?_
    refine R.lss rfl rfl rfl ?_
    refine TL.nil (Post.thnN ?_)
    refine T.seq ?_
    refine T.condD rfl (fun c9 => ?_) (fun c9 => ?_)
    · have hlt : k < xs.length := by omega
      obtain ⟨a, hx⟩ := getk hlt
      refine T.skip (Post.thnN ?_)
      refine T.seq ?_
      refine T.block ?_
      refine T.seq ?_
      refine T.region ?_
      refine R.mvE rfl (by conv => lhs; whnf) ?_
      refine R.asE rfl (by conv => lhs; whnf) ?_
      refine TL.nil (Post.thnN ?_)
      refine T.seq ?_
      refine T.region ?_
      refine R.mvE rfl (by conv => lhs; whnf) ?_
      refine R.mvE rfl (by conv => lhs; whnf) ?_
      refine R.mvE rfl (by conv => lhs; whnf) ?_
      obtain ⟨b14, o14, i14, e14⟩ := (hr.mono s_0).elem (hx)
      refine R.ixp Try.underlying22 Try.sizeOf37 rfl rfl rfl (by omega) i14 ?_
      refine R.ldP Try.isAgg37 Try.sizeOf37 rfl rfl (e14) ?_
      refine R.callv rfl rfl rfl (hp _ s_0 a) ?_
      refine TL.nil (Post.thnN ?_)
      refine T.cond rfl (fun c16 => ?_) (fun c16 => ?_)
      · refine T.seq ?_
        refine T.region ?_
        refine R.mvE rfl (by conv => lhs; whnf) ?_
        refine R.asE rfl (by conv => lhs; whnf) ?_
        refine TL.nil (Post.thnN ?_)
        refine T.ret (Post.blkR (Post.thnR (Post.thnR (Post.blkR (Post.thnR ?_)))))
        -- way yy
        exact fin1 rfl rfl ⟨rfl, congrArg (Value.int .i64) (fidxI_at (p := p) hx c16 hw).symm⟩
      · refine T.skip (Post.blkN ?_)
        refine id (Post.thnN ?_)
        refine T.region ?_
        refine R.addI rfl rfl rfl (by omega) ?_
        refine R.mvE rfl (by conv => lhs; whnf) ?_
        refine TL.nil (Post.thnN ?_)
        -- round's end, way yn
        exact ⟨k + 1, s_0, ⟨by omega, fun j z h1 h2 => if e : j = k then by subst e; rw [hx] at h2; injection h2 with h2; subst h2; exact c16 else hw j z (by omega) h2⟩, by omega, ⟨rfl, rfl, rfl, rfl, trivial⟩⟩
    · refine T.exit (Post.thnE (Post.thnE (Post.blkX ?_)))
      refine id (Post.thnN ?_)
      refine T.seq ?_
      refine T.region ?_
      refine R.asE rfl (by conv => lhs; whnf) ?_
      refine TL.nil (Post.thnN ?_)
      refine T.ret ?_
      -- way n
      exact fin1 rfl rfl ⟨rfl, congrArg (Value.int .i64) (fidxI_none (p := p) (fun j z h => hw j z (by have := (List.getElem?_eq_some_iff.1 h).1; omega) h)).symm⟩


set_option maxHeartbeats 1600000 in
theorem containsFP_c (H : Heap) (v fv : Value) (xs : List Lk) (p : Lk → Bool) (hr : RdS pairE H v xs) (hp : ∀ H', HLe H H' → ∀ y : Lk, Fv Try.prog fv [.agg #[.int .i64 y.1, .int .i64 y.2]] H' (.bool (p y))) : Fv Try.prog (fnv 40) [v, fv] H (.bool (xs.any p)) := by
  refine Fc.of_body (N := 9) Try.func40 rfl (by kernel_rfl) rfl rfl ?_
  intro w0
  refine T.seq ?_
  refine T.region ?_
  refine R.asE rfl (by conv => lhs; whnf) ?_
  refine TL.nil (Post.thnN ?_)
  refine T.seq ?_
  refine T.region ?_
  refine R.mvE rfl (by conv => lhs; whnf) ?_
  refine R.mvE rfl (by conv => lhs; whnf) ?_
  refine R.callv rfl rfl rfl (indexFP_c _ _ _ _ p hr hp) ?_
  refine R.geq rfl rfl rfl ?_
  refine R.asE rfl (by conv => lhs; whnf) ?_
  refine TL.nil (Post.thnN ?_)
  refine T.ret ?_
  exact fin1 rfl rfl ⟨rfl, congrArg Value.bool (by rw [Bool.eq_iff_iff, decide_eq_true_eq]; exact fidxI_ge)⟩


set_option maxHeartbeats 1600000 in
theorem indexP_c (H : Heap) (v : Value) (xs : List Lk) (z : Lk) (hr : RdS pairE H v xs) : Fv Try.prog (fnv 81) [v, .agg #[.int .i64 z.1, .int .i64 z.2]] H (.int .i64 (fidxI (fun y => decide (z = y)) xs)) := by
  refine Fc.of_body (N := 19) Try.func81 rfl (by kernel_rfl) rfl rfl ?_
  intro w0
  obtain ⟨A, c, rfl, hc1, hc2, hr⟩ := hr.shape
  refine T.seq ?_
  refine T.region ?_
  refine R.box rfl (by conv => lhs; whnf) ?_
  intro b3
  refine R.asE rfl (by conv => lhs; whnf) ?_
  refine TL.nil (Post.thnN ?_)
  refine T.seq ?_
  refine T.seq ?_
  refine T.shut .hd ?_
  intro H3 s3 q3
  have h3 : H3 b3 = some (.cells #[.int .i64 z.1, .int .i64 z.2] 37) := shut1 q3
  refine T.region ?_
  refine R.mvE rfl (by conv => lhs; whnf) ?_
  refine R.len Try.underlying22 rfl rfl ?_
  refine R.mvE rfl (by conv => lhs; whnf) ?_
  refine TL.nil (Post.thnN ?_)
  refine T.block ?_
  refine T.loop (ι := Nat) (fun k H' L' ds' => k ≤ xs.length ∧ L' = [] ∧ ds' = [] ∧ ∀ (j : Nat) y, j < k → xs[j]? = some y → decide (z = y) = false) (fun k => [(0, .slice A xs.length c), (3, .pointer (some ⟨b3, 0, none⟩)), (7, .int .i64 xs.length), (8, .int .i64 k)]) (fun k => xs.length - k) (0) ?_ ?_ ?_
  · exact ⟨Nat.zero_le _, rfl, rfl, fun j z h => absurd h (by omega)⟩
  · exact ⟨rfl, rfl, rfl, rfl, trivial⟩
  · intro k σ0 H_0 L_0 ds_0 s_0 hI_0
    obtain ⟨hk, rfl, rfl, hw⟩ := hI_0
    refine T.seq ?_
    refine T.region ?_
    refine R.lss rfl rfl rfl ?_
    refine TL.nil (Post.thnN ?_)
    refine T.seq ?_
    refine T.condD rfl (fun c9 => ?_) (fun c9 => ?_)
    · have hlt : k < xs.length := by omega
      obtain ⟨a, hx⟩ := getk hlt
      refine T.skip (Post.thnN ?_)
      refine T.seq ?_
      refine T.block ?_
      refine T.seq ?_
      refine T.region ?_
      refine R.mvE rfl (by conv => lhs; whnf) ?_
      refine R.asE rfl (by conv => lhs; whnf) ?_
      refine TL.nil (Post.thnN ?_)
      refine T.seq ?_
      refine T.draw Try_mixed (by kernel_rfl) ?_
      refine Plan.v 0 [1, 2, 3, 4, 5] (by kernel_rfl) (by kernel_rfl) (by kernel_rfl) (by kernel_rfl) rfl (fun _ _ h_ => R.ldAH Try.isAgg37 Try.sizeOf37 rfl rfl rfl (s_0 _ _ h3) (TL.nil h_)) ?_
      refine Plan.v 1 [2, 3, 4, 5] (by kernel_rfl) (by kernel_rfl) (by kernel_rfl) (by kernel_rfl) rfl (fun _ _ h_ => R.mvE rfl (by conv => lhs; whnf) (TL.nil h_)) ?_
      refine Plan.v 2 [3, 4, 5] (by kernel_rfl) (by kernel_rfl) (by kernel_rfl) (by kernel_rfl) rfl (fun _ _ h_ => R.mvE rfl (by conv => lhs; whnf) (TL.nil h_)) ?_
      obtain ⟨b14, o14, i14, e14⟩ := ((hr.mono s3).mono s_0).elem (hx)
      refine Plan.v 3 [4, 5] (by kernel_rfl) (by kernel_rfl) (by kernel_rfl) (by kernel_rfl) rfl (fun _ _ h_ => R.ixp Try.underlying22 Try.sizeOf37 rfl rfl rfl (by omega) i14 (TL.nil h_)) ?_
      refine Plan.v 4 [5] (by kernel_rfl) (by kernel_rfl) (by kernel_rfl) (by kernel_rfl) rfl (fun _ _ h_ => R.ldP Try.isAgg37 Try.sizeOf37 rfl rfl (e14) (TL.nil h_)) ?_
      refine Plan.v 5 [] (by kernel_rfl) (by kernel_rfl) (by kernel_rfl) (by kernel_rfl) rfl (fun _ _ h_ => R.eqP (a := z) (b := a) Tryc_eqP Tryc_eqG rfl rfl rfl (TL.nil h_)) ?_
      refine Plan.done (Post.thnN ?_)
      refine T.condD rfl (fun c16 => ?_) (fun c16 => ?_)
      · refine T.seq ?_
        refine T.region ?_
        refine R.mvE rfl (by conv => lhs; whnf) ?_
        refine R.asE rfl (by conv => lhs; whnf) ?_
        refine TL.nil (Post.thnN ?_)
        refine T.ret (Post.blkR (Post.thnR (Post.thnR (Post.blkR (Post.thnR ?_)))))
        -- way yy
        exact fin1 rfl rfl ⟨rfl, congrArg (Value.int .i64) (fidxI_at (p := fun y => decide (z = y)) hx (decide_eq_true c16) hw).symm⟩
      · refine T.skip (Post.blkN ?_)
        refine id (Post.thnN ?_)
        refine T.region ?_
        refine R.addI rfl rfl rfl (by omega) ?_
        refine R.mvE rfl (by conv => lhs; whnf) ?_
        refine TL.nil (Post.thnN ?_)
        -- round's end, way yn
        exact ⟨k + 1, s_0, ⟨by omega, rfl, rfl, fun j z h1 h2 => if e : j = k then by subst e; rw [hx] at h2; injection h2 with h2; subst h2; exact decide_eq_false c16 else hw j z (by omega) h2⟩, by omega, ⟨rfl, rfl, rfl, rfl, trivial⟩⟩
    · refine T.exit (Post.thnE (Post.thnE (Post.blkX ?_)))
      refine id (Post.thnN ?_)
      refine T.seq ?_
      refine T.region ?_
      refine R.asE rfl (by conv => lhs; whnf) ?_
      refine TL.nil (Post.thnN ?_)
      refine T.ret ?_
      -- way n
      exact fin1 rfl rfl ⟨rfl, congrArg (Value.int .i64) (fidxI_none (p := fun y => decide (z = y)) (fun j z h => hw j z (by have := (List.getElem?_eq_some_iff.1 h).1; omega) h)).symm⟩


set_option maxHeartbeats 1600000 in
theorem containsP_c (H : Heap) (v : Value) (xs : List Lk) (z : Lk) (hr : RdS pairE H v xs) : Fv Try.prog (fnv 44) [v, .agg #[.int .i64 z.1, .int .i64 z.2]] H (.bool (xs.any (fun y => decide (z = y)))) := by
  refine Fc.of_body (N := 9) Try.func44 rfl (by kernel_rfl) rfl rfl ?_
  intro w0
  refine T.seq ?_
  refine T.region ?_
  refine R.box rfl (by conv => lhs; whnf) ?_
  intro b3
  refine R.asE rfl (by conv => lhs; whnf) ?_
  refine TL.nil (Post.thnN ?_)
  refine T.seq ?_
  refine T.shut .hd ?_
  intro H3 s3 q3
  have h3 : H3 b3 = some (.cells #[.int .i64 z.1, .int .i64 z.2] 37) := shut1 q3
  refine T.region ?_
  refine R.mvE rfl (by conv => lhs; whnf) ?_
  refine R.ldAH Try.isAgg37 Try.sizeOf37 rfl rfl rfl h3 ?_
  refine R.callv rfl rfl rfl (indexP_c _ _ _ z (hr.mono s3)) ?_
  refine R.geq rfl rfl rfl ?_
  refine R.asE rfl (by conv => lhs; whnf) ?_
  refine TL.nil (Post.thnN ?_)
  refine T.ret ?_
  exact fin1 rfl rfl ⟨rfl, congrArg Value.bool (by rw [Bool.eq_iff_iff, decide_eq_true_eq]; exact fidxI_ge)⟩


set_option maxHeartbeats 1600000 in
theorem putP_c (H : Heap) (v : Value) (xs : List Lk) (x : Lk) (hr : RdS pairE H v xs) (hl : xs.length ≤ 100000) : Fp Try.prog (fnv 80) [v, .agg #[.int .i64 x.1, .int .i64 x.2]] H (fun v' H' => RdS pairE H' v' (putP xs x)) := by
  refine Fc.of_body (N := 45) Try.func80 rfl (by kernel_rfl) rfl rfl ?_
  intro w0
  obtain ⟨A, c, rfl, hc1, hc2, hr⟩ := hr.shape
  refine T.seq ?_
  refine T.region ?_
  refine R.box rfl (by conv => lhs; whnf) ?_
  intro b3
  refine R.asE rfl (by conv => lhs; whnf) ?_
  refine TL.nil (Post.thnN ?_)
  refine T.seq ?_
  refine T.shut .hd ?_
  intro H3 s3 q3
  have h3 : H3 b3 = some (.cells #[.int .i64 x.1, .int .i64 x.2] 37) := shut1 q3
  refine T.region ?_
  refine R.asE rfl (by conv => lhs; whnf) ?_
  refine TL.nil (Post.thnN ?_)
  refine T.seq ?_
  refine T.block ?_
  refine T.loop (ι := Nat) (fun k H' L' ds' => k ≤ xs.length ∧ L' = [] ∧ ds' = [] ∧ ∀ (j : Nat) y, j < k → xs[j]? = some y → ltP y x) (fun k => [(0, .slice A xs.length c), (3, .pointer (some ⟨b3, 0, none⟩)), (5, .int .i64 k)]) (fun k => xs.length - k) (0) ?_ ?_ ?_
  · exact ⟨Nat.zero_le _, rfl, rfl, fun j y h => absurd h (Nat.not_lt_zero _)⟩
  · exact ⟨rfl, rfl, rfl, trivial⟩
  · intro k σ0 H_0 L_0 ds_0 s_0 hI_0
    obtain ⟨hk, rfl, rfl, hw⟩ := hI_0
    refine T.seq ?_
    refine T.seq ?_
    refine T.draw Try_mixed (by kernel_rfl) ?_
    refine Plan.v 0 [1, 2, 3, 4, 5, 6, 7, 8, 9, 10, 11] (by kernel_rfl) (by kernel_rfl) (by kernel_rfl) (by kernel_rfl) rfl (fun _ _ h_ => R.mvE rfl (by conv => lhs; whnf) (TL.nil h_)) ?_
    refine Plan.v 1 [2, 3, 4, 5, 6, 7, 8, 9, 10, 11] (by kernel_rfl) (by kernel_rfl) (by kernel_rfl) (by kernel_rfl) rfl (fun _ _ h_ => R.mvE rfl (by conv => lhs; whnf) (TL.nil h_)) ?_
    refine Plan.v 2 [3, 4, 5, 6, 7, 8, 9, 10, 11] (by kernel_rfl) (by kernel_rfl) (by kernel_rfl) (by kernel_rfl) rfl (fun _ _ h_ => R.len Try.underlying22 rfl rfl (TL.nil h_)) ?_
    refine Plan.v 3 [4, 5, 6, 7, 8, 9, 10, 11] (by kernel_rfl) (by kernel_rfl) (by kernel_rfl) (by kernel_rfl) rfl (fun _ _ h_ => R.lss rfl rfl rfl (TL.nil h_)) ?_
    refine Plan.v 4 [5, 6, 7, 8, 9, 10, 11] (by kernel_rfl) (by kernel_rfl) (by kernel_rfl) (by kernel_rfl) rfl (fun _ _ h_ => R.mvE rfl (by conv => lhs; whnf) (TL.nil h_)) ?_
    refine Plan.gsplitD 10 rfl (fun g10 => ?_) (fun g10 => ?_)
    · have hlt : k < xs.length := by omega
      obtain ⟨y, hy⟩ := getk hlt
      refine Plan.v 5 [6, 7, 8, 9, 10, 11] (by kernel_rfl) (by kernel_rfl) (by kernel_rfl) (by kernel_rfl) rfl (fun _ _ h_ => R.mvE rfl (by conv => lhs; whnf) (TL.nil h_)) ?_
      refine Plan.v 6 [7, 8, 9, 10, 11] (by kernel_rfl) (by kernel_rfl) (by kernel_rfl) (by kernel_rfl) rfl (fun _ _ h_ => R.mvE rfl (by conv => lhs; whnf) (TL.nil h_)) ?_
      obtain ⟨b13, o13, i13, e13⟩ := ((hr.mono s3).mono s_0).elem (hy)
      refine Plan.v 7 [8, 9, 10, 11] (by kernel_rfl) (by kernel_rfl) (by kernel_rfl) (by kernel_rfl) rfl (fun _ _ h_ => R.ixp Try.underlying22 Try.sizeOf37 rfl rfl rfl (by omega) i13 (TL.nil h_)) ?_
      refine Plan.v 8 [9, 10, 11] (by kernel_rfl) (by kernel_rfl) (by kernel_rfl) (by kernel_rfl) rfl (fun _ _ h_ => R.ldP Try.isAgg37 Try.sizeOf37 rfl rfl (e13) (TL.nil h_)) ?_
      refine Plan.v 9 [10, 11] (by kernel_rfl) (by kernel_rfl) (by kernel_rfl) (by kernel_rfl) rfl (fun _ _ h_ => R.ldAH Try.isAgg37 Try.sizeOf37 rfl rfl rfl (s_0 _ _ h3) (TL.nil h_)) ?_
      refine Plan.v 10 [11] (by kernel_rfl) (by kernel_rfl) (by kernel_rfl) (by kernel_rfl) rfl (fun _ _ h_ => R.callv rfl rfl rfl (rahead_c _ _ _) (TL.nil h_)) ?_
      refine Plan.v 11 [] (by kernel_rfl) (by kernel_rfl) (by kernel_rfl) (by kernel_rfl) rfl (fun _ _ h_ => R.pkTE rfl rfl (by conv => lhs; whnf) (TL.nil h_)) ?_
      refine Plan.done (Post.thnN ?_)
      refine T.cond rfl (fun c17 => ?_) (fun c17 => ?_)
      · refine T.skip (Post.thnN ?_)
        refine T.block ?_
        refine T.region ?_
        refine R.mvE rfl (by conv => lhs; whnf) ?_
        refine R.addI rfl rfl rfl (by omega) ?_
        refine R.asE rfl (by conv => lhs; whnf) ?_
        refine TL.nil (Post.blkN ?_)
        refine id (Post.thnN ?_)
        -- round's end, way yy
        exact ⟨k + 1, s_0, ⟨by omega, rfl, rfl, fun j z h1 h2 => if e : j = k then by subst e; rw [hy] at h2; injection h2 with h2; subst h2; exact of_decide_eq_true c17 else hw j z (by omega) h2⟩, by omega, ⟨rfl, rfl, rfl, trivial⟩⟩
      · have hkk : putKP xs x = k := putKP_eq hw hk (fun z hz => by rw [hy] at hz; injection hz with hz; subst hz; exact of_decide_eq_false c17)
        refine T.exit (Post.thnE (Post.thnE (Post.blkX ?_)))
        refine id (Post.thnN ?_)
        refine T.seq ?_
        refine T.seq ?_
        refine T.draw Try_mixed (by kernel_rfl) ?_
        refine Plan.v 0 [1, 2, 3, 4, 5, 6, 7, 8, 9, 10, 11] (by kernel_rfl) (by kernel_rfl) (by kernel_rfl) (by kernel_rfl) rfl (fun _ _ h_ => R.mvE rfl (by conv => lhs; whnf) (TL.nil h_)) ?_
        refine Plan.v 1 [2, 3, 4, 5, 6, 7, 8, 9, 10, 11] (by kernel_rfl) (by kernel_rfl) (by kernel_rfl) (by kernel_rfl) rfl (fun _ _ h_ => R.mvE rfl (by conv => lhs; whnf) (TL.nil h_)) ?_
        refine Plan.v 2 [3, 4, 5, 6, 7, 8, 9, 10, 11] (by kernel_rfl) (by kernel_rfl) (by kernel_rfl) (by kernel_rfl) rfl (fun _ _ h_ => R.len Try.underlying22 rfl rfl (TL.nil h_)) ?_
        refine Plan.v 3 [4, 5, 6, 7, 8, 9, 10, 11] (by kernel_rfl) (by kernel_rfl) (by kernel_rfl) (by kernel_rfl) rfl (fun _ _ h_ => R.lss rfl rfl rfl (TL.nil h_)) ?_
        refine Plan.v 4 [5, 6, 7, 8, 9, 10, 11] (by kernel_rfl) (by kernel_rfl) (by kernel_rfl) (by kernel_rfl) rfl (fun _ _ h_ => R.mvE rfl (by conv => lhs; whnf) (TL.nil h_)) ?_
        refine Plan.set 24 (.bool true) (congrArg Value.bool (decide_eq_true (by omega))) ?_
        refine Plan.v 5 [6, 7, 8, 9, 10, 11] (by kernel_rfl) (by kernel_rfl) (by kernel_rfl) (by kernel_rfl) rfl (fun _ _ h_ => R.mvE rfl (by conv => lhs; whnf) (TL.nil h_)) ?_
        refine Plan.v 6 [7, 8, 9, 10, 11] (by kernel_rfl) (by kernel_rfl) (by kernel_rfl) (by kernel_rfl) rfl (fun _ _ h_ => R.mvE rfl (by conv => lhs; whnf) (TL.nil h_)) ?_
        obtain ⟨b27, o27, i27, e27⟩ := ((hr.mono s3).mono s_0).elem (hy)
        refine Plan.v 7 [8, 9, 10, 11] (by kernel_rfl) (by kernel_rfl) (by kernel_rfl) (by kernel_rfl) rfl (fun _ _ h_ => R.ixp Try.underlying22 Try.sizeOf37 rfl rfl rfl (by omega) i27 (TL.nil h_)) ?_
        refine Plan.v 8 [9, 10, 11] (by kernel_rfl) (by kernel_rfl) (by kernel_rfl) (by kernel_rfl) rfl (fun _ _ h_ => R.ldP Try.isAgg37 Try.sizeOf37 rfl rfl (e27) (TL.nil h_)) ?_
        refine Plan.v 9 [10, 11] (by kernel_rfl) (by kernel_rfl) (by kernel_rfl) (by kernel_rfl) rfl (fun _ _ h_ => R.ldAH Try.isAgg37 Try.sizeOf37 rfl rfl rfl (s_0 _ _ h3) (TL.nil h_)) ?_
        refine Plan.v 10 [11] (by kernel_rfl) (by kernel_rfl) (by kernel_rfl) (by kernel_rfl) rfl (fun _ _ h_ => R.eqP (a := y) (b := x) Tryc_eqP Tryc_eqG rfl rfl rfl (TL.nil h_)) ?_
        refine Plan.v 11 [] (by kernel_rfl) (by kernel_rfl) (by kernel_rfl) (by kernel_rfl) rfl (fun _ _ h_ => R.pkTE rfl rfl (by conv => lhs; whnf) (TL.nil h_)) ?_
        refine Plan.done (Post.thnN ?_)
        refine T.condD rfl (fun c31 => ?_) (fun c31 => ?_)
        · refine T.seq ?_
          refine T.region ?_
          refine R.mvE rfl (by conv => lhs; whnf) ?_
          refine R.asE rfl (by conv => lhs; whnf) ?_
          refine TL.nil (Post.thnN ?_)
          refine T.ret (Post.thnR ?_)
          -- way yny
          have hpe : putP xs x = xs := by unfold putP; rw [hkk, hy, c31, if_pos rfl]
          exact fin1 rfl rfl ⟨rfl, by rw [hpe]; exact (hr.mono s3).mono s_0⟩
        · refine T.skip (Post.thnN ?_)
          refine T.seq ?_
          refine T.draw Try_mixed (by kernel_rfl) ?_
          refine Plan.v 1 [0, 2, 3, 4, 5, 6, 7, 8, 9, 10, 11, 12] (by kernel_rfl) (by kernel_rfl) (by kernel_rfl) (by kernel_rfl) rfl (fun _ _ h_ => R.mvE rfl (by conv => lhs; whnf) (TL.nil h_)) ?_
          refine Plan.v 2 [0, 3, 4, 5, 6, 7, 8, 9, 10, 11, 12] (by kernel_rfl) (by kernel_rfl) (by kernel_rfl) (by kernel_rfl) rfl (fun _ _ h_ => R.mvE rfl (by conv => lhs; whnf) (TL.nil h_)) ?_
          refine Plan.v 3 [0, 4, 5, 6, 7, 8, 9, 10, 11, 12] (by kernel_rfl) (by kernel_rfl) (by kernel_rfl) (by kernel_rfl) rfl (fun _ _ h_ => R.sH Try.underlying22 Try.sizeOf37 rfl rfl rfl  (by omega) (by omega)  (TL.nil h_)) ?_
          refine Plan.v 5 [0, 4, 6, 7, 8, 9, 10, 11, 12] (by kernel_rfl) (by kernel_rfl) (by kernel_rfl) (by kernel_rfl) rfl (fun _ _ h_ => R.ldAH Try.isAgg37 Try.sizeOf37 rfl rfl rfl (s_0 _ _ h3) (TL.nil h_)) ?_
          refine Plan.v 8 [0, 4, 6, 7, 9, 10, 11, 12] (by kernel_rfl) (by kernel_rfl) (by kernel_rfl) (by kernel_rfl) rfl (fun _ _ h_ => R.mvE rfl (by conv => lhs; whnf) (TL.nil h_)) ?_
          refine Plan.v 9 [0, 4, 6, 7, 10, 11, 12] (by kernel_rfl) (by kernel_rfl) (by kernel_rfl) (by kernel_rfl) rfl (fun _ _ h_ => R.mvE rfl (by conv => lhs; whnf) (TL.nil h_)) ?_
          refine Plan.v 10 [0, 4, 6, 7, 11, 12] (by kernel_rfl) (by kernel_rfl) (by kernel_rfl) (by kernel_rfl) rfl (fun _ _ h_ => R.sL Try.underlying22 Try.sizeOf37 rfl rfl rfl  (by omega) (by omega)  (TL.nil h_)) ?_
          refine Plan.s2 0 6 [4, 6, 7, 11, 12] [0, 4, 7, 11, 12] (by kernel_rfl) (by kernel_rfl) (by kernel_rfl) rfl rfl ?_ ?_
          · refine R.bs0 (E := pairE) rfl Try.underlying22 Try.sizeOf37 ?_
            intro v33 c33 w33
            refine TL.nil (Plan.e1 (HLe.refl _) ?_)
            refine Plan.s2 4 6 [6, 7, 11, 12] [4, 7, 11, 12] (by kernel_rfl) (by kernel_rfl) (by kernel_rfl) rfl rfl ?_ ?_
            · obtain ⟨cs37, y37, r37⟩ := Src.rdA (((hr.mono s3).mono s_0).takeC hk hc1)
              refine R.app Try_ty22 rfl rfl rfl w33 (by first | exact .hd | exact .tl .hd | exact .tl (.tl .hd) | exact .tl (.tl (.tl .hd)) | exact .tl (.tl (.tl (.tl .hd))) | exact .tl (.tl (.tl (.tl (.tl .hd)))) | exact .tl (.tl (.tl (.tl (.tl (.tl .hd))))) | exact .tl (.tl (.tl (.tl (.tl (.tl (.tl .hd)))))) | exact .tl (.tl (.tl (.tl (.tl (.tl (.tl (.tl .hd))))))) | exact .tl (.tl (.tl (.tl (.tl (.tl (.tl (.tl (.tl .hd))))))))) (r37 _) y37 (by simp; omega) (by simp; omega) ?_
              intro v37 c37 w37
              rw [List.nil_append] at w37
              refine TL.nil (Plan.e1 (HLe.refl _) ?_)
              refine Plan.s1 6 [7, 11, 12] (by kernel_rfl) (by kernel_rfl) rfl ?_
              refine R.bs (e := 37) (cs := [.int .i64 x.1, .int .i64 x.2]) rfl (fun _ => by kernel_rfl) ?_
              intro b39
              refine TL.nil (Plan.e1 (HLe.refl _) ?_)
              refine Plan.s1 7 [11, 12] (by kernel_rfl) (by kernel_rfl) rfl ?_
              refine R.app (ys := [x]) Try_ty22 rfl rfl rfl w37 (by first | exact .hd | exact .tl .hd | exact .tl (.tl .hd) | exact .tl (.tl (.tl .hd)) | exact .tl (.tl (.tl (.tl .hd))) | exact .tl (.tl (.tl (.tl (.tl .hd)))) | exact .tl (.tl (.tl (.tl (.tl (.tl .hd))))) | exact .tl (.tl (.tl (.tl (.tl (.tl (.tl .hd)))))) | exact .tl (.tl (.tl (.tl (.tl (.tl (.tl (.tl .hd))))))) | exact .tl (.tl (.tl (.tl (.tl (.tl (.tl (.tl (.tl .hd))))))))) (Src.lit (vs := [.int .i64 x.1, .int .i64 x.2]) (by first | exact .hd | exact .tl .hd | exact .tl (.tl .hd) | exact .tl (.tl (.tl .hd)) | exact .tl (.tl (.tl (.tl .hd))) | exact .tl (.tl (.tl (.tl (.tl .hd)))) | exact .tl (.tl (.tl (.tl (.tl (.tl .hd))))) | exact .tl (.tl (.tl (.tl (.tl (.tl (.tl .hd)))))) | exact .tl (.tl (.tl (.tl (.tl (.tl (.tl (.tl .hd))))))) | exact .tl (.tl (.tl (.tl (.tl (.tl (.tl (.tl (.tl .hd)))))))))) ⟨[.int .i64 x.1, .int .i64 x.2], [], rfl, rfl, rfl⟩ (by simp; omega) (by simp; omega) ?_
              intro v40 c40 w40
              refine TL.nil (Plan.e1 (HLe.refl _) ?_)
              refine Plan.s1 11 [12] (by kernel_rfl) (by kernel_rfl) rfl ?_
              obtain ⟨cs44, y44, r44⟩ := Src.rdA (((hr.mono s3).mono s_0).drop hk hc1)
              refine R.app Try_ty22 rfl rfl rfl w40 (by first | exact .hd | exact .tl .hd | exact .tl (.tl .hd) | exact .tl (.tl (.tl .hd)) | exact .tl (.tl (.tl (.tl .hd))) | exact .tl (.tl (.tl (.tl (.tl .hd)))) | exact .tl (.tl (.tl (.tl (.tl (.tl .hd))))) | exact .tl (.tl (.tl (.tl (.tl (.tl (.tl .hd)))))) | exact .tl (.tl (.tl (.tl (.tl (.tl (.tl (.tl .hd))))))) | exact .tl (.tl (.tl (.tl (.tl (.tl (.tl (.tl (.tl .hd))))))))) (r44 _) y44 (by simp; omega) (by simp; omega) ?_
              intro v44 c44 w44
              refine TL.shut .hd ?_
              intro H44 s44 q44
              have hw44 := w44.read s44 q44
              refine TL.nil (Plan.e1 (s44) ?_)
              refine Plan.v 12 [] (by kernel_rfl) (by kernel_rfl) (by kernel_rfl) (by kernel_rfl) rfl (fun _ _ h_ => R.asE rfl (by conv => lhs; whnf) (TL.nil h_)) ?_
              refine Plan.done (Post.thnN ?_)
              refine T.ret ?_
              -- way ynn00
              have hpe : putP xs x = xs.take k ++ [x] ++ xs.drop k := by unfold putP; rw [hkk, if_neg (by rw [hy]; simpa using c31)]
              exact fin1 rfl rfl ⟨rfl, by rw [hpe]; exact hw44⟩
            · refine R.bs (e := 37) (cs := [.int .i64 x.1, .int .i64 x.2]) rfl (fun _ => by kernel_rfl) ?_
              intro b39
              refine TL.nil (Plan.e1 (HLe.refl _) ?_)
              refine Plan.s1 4 [7, 11, 12] (by kernel_rfl) (by kernel_rfl) rfl ?_
              obtain ⟨cs37, y37, r37⟩ := Src.rdA (((hr.mono s3).mono s_0).takeC hk hc1)
              refine R.app Try_ty22 rfl rfl rfl w33 (by first | exact .hd | exact .tl .hd | exact .tl (.tl .hd) | exact .tl (.tl (.tl .hd)) | exact .tl (.tl (.tl (.tl .hd))) | exact .tl (.tl (.tl (.tl (.tl .hd)))) | exact .tl (.tl (.tl (.tl (.tl (.tl .hd))))) | exact .tl (.tl (.tl (.tl (.tl (.tl (.tl .hd)))))) | exact .tl (.tl (.tl (.tl (.tl (.tl (.tl (.tl .hd))))))) | exact .tl (.tl (.tl (.tl (.tl (.tl (.tl (.tl (.tl .hd))))))))) (r37 _) y37 (by simp; omega) (by simp; omega) ?_
              intro v37 c37 w37
              rw [List.nil_append] at w37
              refine TL.nil (Plan.e1 (HLe.refl _) ?_)
              refine Plan.s1 7 [11, 12] (by kernel_rfl) (by kernel_rfl) rfl ?_
              refine R.app (ys := [x]) Try_ty22 rfl rfl rfl w37 (by first | exact .hd | exact .tl .hd | exact .tl (.tl .hd) | exact .tl (.tl (.tl .hd)) | exact .tl (.tl (.tl (.tl .hd))) | exact .tl (.tl (.tl (.tl (.tl .hd)))) | exact .tl (.tl (.tl (.tl (.tl (.tl .hd))))) | exact .tl (.tl (.tl (.tl (.tl (.tl (.tl .hd)))))) | exact .tl (.tl (.tl (.tl (.tl (.tl (.tl (.tl .hd))))))) | exact .tl (.tl (.tl (.tl (.tl (.tl (.tl (.tl (.tl .hd))))))))) (Src.lit (vs := [.int .i64 x.1, .int .i64 x.2]) (by first | exact .hd | exact .tl .hd | exact .tl (.tl .hd) | exact .tl (.tl (.tl .hd)) | exact .tl (.tl (.tl (.tl .hd))) | exact .tl (.tl (.tl (.tl (.tl .hd)))) | exact .tl (.tl (.tl (.tl (.tl (.tl .hd))))) | exact .tl (.tl (.tl (.tl (.tl (.tl (.tl .hd)))))) | exact .tl (.tl (.tl (.tl (.tl (.tl (.tl (.tl .hd))))))) | exact .tl (.tl (.tl (.tl (.tl (.tl (.tl (.tl (.tl .hd)))))))))) ⟨[.int .i64 x.1, .int .i64 x.2], [], rfl, rfl, rfl⟩ (by simp; omega) (by simp; omega) ?_
              intro v40 c40 w40
              refine TL.nil (Plan.e1 (HLe.refl _) ?_)
              refine Plan.s1 11 [12] (by kernel_rfl) (by kernel_rfl) rfl ?_
              obtain ⟨cs44, y44, r44⟩ := Src.rdA (((hr.mono s3).mono s_0).drop hk hc1)
              refine R.app Try_ty22 rfl rfl rfl w40 (by first | exact .hd | exact .tl .hd | exact .tl (.tl .hd) | exact .tl (.tl (.tl .hd)) | exact .tl (.tl (.tl (.tl .hd))) | exact .tl (.tl (.tl (.tl (.tl .hd)))) | exact .tl (.tl (.tl (.tl (.tl (.tl .hd))))) | exact .tl (.tl (.tl (.tl (.tl (.tl (.tl .hd)))))) | exact .tl (.tl (.tl (.tl (.tl (.tl (.tl (.tl .hd))))))) | exact .tl (.tl (.tl (.tl (.tl (.tl (.tl (.tl (.tl .hd))))))))) (r44 _) y44 (by simp; omega) (by simp; omega) ?_
              intro v44 c44 w44
              refine TL.shut .hd ?_
              intro H44 s44 q44
              have hw44 := w44.read s44 q44
              refine TL.nil (Plan.e1 (s44) ?_)
              refine Plan.v 12 [] (by kernel_rfl) (by kernel_rfl) (by kernel_rfl) (by kernel_rfl) rfl (fun _ _ h_ => R.asE rfl (by conv => lhs; whnf) (TL.nil h_)) ?_
              refine Plan.done (Post.thnN ?_)
              refine T.ret ?_
              -- way ynn01
              have hpe : putP xs x = xs.take k ++ [x] ++ xs.drop k := by unfold putP; rw [hkk, if_neg (by rw [hy]; simpa using c31)]
              exact fin1 rfl rfl ⟨rfl, by rw [hpe]; exact hw44⟩
          · refine R.bs (e := 37) (cs := [.int .i64 x.1, .int .i64 x.2]) rfl (fun _ => by kernel_rfl) ?_
            intro b39
            refine TL.nil (Plan.e1 (HLe.refl _) ?_)
            refine Plan.s1 0 [4, 7, 11, 12] (by kernel_rfl) (by kernel_rfl) rfl ?_
            refine R.bs0 (E := pairE) rfl Try.underlying22 Try.sizeOf37 ?_
            intro v33 c33 w33
            refine TL.nil (Plan.e1 (HLe.refl _) ?_)
            refine Plan.s1 4 [7, 11, 12] (by kernel_rfl) (by kernel_rfl) rfl ?_
            obtain ⟨cs37, y37, r37⟩ := Src.rdA (((hr.mono s3).mono s_0).takeC hk hc1)
            refine R.app Try_ty22 rfl rfl rfl w33 (by first | exact .hd | exact .tl .hd | exact .tl (.tl .hd) | exact .tl (.tl (.tl .hd)) | exact .tl (.tl (.tl (.tl .hd))) | exact .tl (.tl (.tl (.tl (.tl .hd)))) | exact .tl (.tl (.tl (.tl (.tl (.tl .hd))))) | exact .tl (.tl (.tl (.tl (.tl (.tl (.tl .hd)))))) | exact .tl (.tl (.tl (.tl (.tl (.tl (.tl (.tl .hd))))))) | exact .tl (.tl (.tl (.tl (.tl (.tl (.tl (.tl (.tl .hd))))))))) (r37 _) y37 (by simp; omega) (by simp; omega) ?_
            intro v37 c37 w37
            rw [List.nil_append] at w37
            refine TL.nil (Plan.e1 (HLe.refl _) ?_)
            refine Plan.s1 7 [11, 12] (by kernel_rfl) (by kernel_rfl) rfl ?_
            refine R.app (ys := [x]) Try_ty22 rfl rfl rfl w37 (by first | exact .hd | exact .tl .hd | exact .tl (.tl .hd) | exact .tl (.tl (.tl .hd)) | exact .tl (.tl (.tl (.tl .hd))) | exact .tl (.tl (.tl (.tl (.tl .hd)))) | exact .tl (.tl (.tl (.tl (.tl (.tl .hd))))) | exact .tl (.tl (.tl (.tl (.tl (.tl (.tl .hd)))))) | exact .tl (.tl (.tl (.tl (.tl (.tl (.tl (.tl .hd))))))) | exact .tl (.tl (.tl (.tl (.tl (.tl (.tl (.tl (.tl .hd))))))))) (Src.lit (vs := [.int .i64 x.1, .int .i64 x.2]) (by first | exact .hd | exact .tl .hd | exact .tl (.tl .hd) | exact .tl (.tl (.tl .hd)) | exact .tl (.tl (.tl (.tl .hd))) | exact .tl (.tl (.tl (.tl (.tl .hd)))) | exact .tl (.tl (.tl (.tl (.tl (.tl .hd))))) | exact .tl (.tl (.tl (.tl (.tl (.tl (.tl .hd)))))) | exact .tl (.tl (.tl (.tl (.tl (.tl (.tl (.tl .hd))))))) | exact .tl (.tl (.tl (.tl (.tl (.tl (.tl (.tl (.tl .hd)))))))))) ⟨[.int .i64 x.1, .int .i64 x.2], [], rfl, rfl, rfl⟩ (by simp; omega) (by simp; omega) ?_
            intro v40 c40 w40
            refine TL.nil (Plan.e1 (HLe.refl _) ?_)
            refine Plan.s1 11 [12] (by kernel_rfl) (by kernel_rfl) rfl ?_
            obtain ⟨cs44, y44, r44⟩ := Src.rdA (((hr.mono s3).mono s_0).drop hk hc1)
            refine R.app Try_ty22 rfl rfl rfl w40 (by first | exact .hd | exact .tl .hd | exact .tl (.tl .hd) | exact .tl (.tl (.tl .hd)) | exact .tl (.tl (.tl (.tl .hd))) | exact .tl (.tl (.tl (.tl (.tl .hd)))) | exact .tl (.tl (.tl (.tl (.tl (.tl .hd))))) | exact .tl (.tl (.tl (.tl (.tl (.tl (.tl .hd)))))) | exact .tl (.tl (.tl (.tl (.tl (.tl (.tl (.tl .hd))))))) | exact .tl (.tl (.tl (.tl (.tl (.tl (.tl (.tl (.tl .hd))))))))) (r44 _) y44 (by simp; omega) (by simp; omega) ?_
            intro v44 c44 w44
            refine TL.shut .hd ?_
            intro H44 s44 q44
            have hw44 := w44.read s44 q44
            refine TL.nil (Plan.e1 (s44) ?_)
            refine Plan.v 12 [] (by kernel_rfl) (by kernel_rfl) (by kernel_rfl) (by kernel_rfl) rfl (fun _ _ h_ => R.asE rfl (by conv => lhs; whnf) (TL.nil h_)) ?_
            refine Plan.done (Post.thnN ?_)
            refine T.ret ?_
            -- way ynn1
            have hpe : putP xs x = xs.take k ++ [x] ++ xs.drop k := by unfold putP; rw [hkk, if_neg (by rw [hy]; simpa using c31)]
            exact fin1 rfl rfl ⟨rfl, by rw [hpe]; exact hw44⟩
    · have hkk : putKP xs x = k := putKP_eq hw hk (fun z hz => absurd (List.getElem?_eq_some_iff.1 hz).1 (by omega))
      have hnk : xs[k]? = none := List.getElem?_eq_none (by omega)
      refine Plan.v 5 [6, 7, 8, 9, 10, 11] (by kernel_rfl) (by kernel_rfl) (by kernel_rfl) (by kernel_rfl) rfl (fun _ _ h_ => TL.off rfl rfl rfl (TL.nil h_)) ?_
      refine Plan.v 6 [7, 8, 9, 10, 11] (by kernel_rfl) (by kernel_rfl) (by kernel_rfl) (by kernel_rfl) rfl (fun _ _ h_ => TL.off rfl rfl rfl (TL.nil h_)) ?_
      refine Plan.v 7 [8, 9, 10, 11] (by kernel_rfl) (by kernel_rfl) (by kernel_rfl) (by kernel_rfl) rfl (fun _ _ h_ => TL.off rfl rfl rfl (TL.nil h_)) ?_
      refine Plan.v 8 [9, 10, 11] (by kernel_rfl) (by kernel_rfl) (by kernel_rfl) (by kernel_rfl) rfl (fun _ _ h_ => TL.off rfl rfl rfl (TL.nil h_)) ?_
      refine Plan.v 9 [10, 11] (by kernel_rfl) (by kernel_rfl) (by kernel_rfl) (by kernel_rfl) rfl (fun _ _ h_ => TL.off rfl rfl rfl (TL.nil h_)) ?_
      refine Plan.v 10 [11] (by kernel_rfl) (by kernel_rfl) (by kernel_rfl) (by kernel_rfl) rfl (fun _ _ h_ => TL.off rfl rfl rfl (TL.nil h_)) ?_
      refine Plan.v 11 [] (by kernel_rfl) (by kernel_rfl) (by kernel_rfl) (by kernel_rfl) rfl (fun _ _ h_ => R.pkFE rfl rfl (by conv => lhs; whnf) (TL.nil h_)) ?_
      refine Plan.done (Post.thnN ?_)
      refine T.condN rfl ?_
      refine T.exit (Post.thnE (Post.thnE (Post.blkX ?_)))
      refine id (Post.thnN ?_)
      refine T.seq ?_
      refine T.seq ?_
      refine T.draw Try_mixed (by kernel_rfl) ?_
      refine Plan.v 0 [1, 2, 3, 4, 5, 6, 7, 8, 9, 10, 11] (by kernel_rfl) (by kernel_rfl) (by kernel_rfl) (by kernel_rfl) rfl (fun _ _ h_ => R.mvE rfl (by conv => lhs; whnf) (TL.nil h_)) ?_
      refine Plan.v 1 [2, 3, 4, 5, 6, 7, 8, 9, 10, 11] (by kernel_rfl) (by kernel_rfl) (by kernel_rfl) (by kernel_rfl) rfl (fun _ _ h_ => R.mvE rfl (by conv => lhs; whnf) (TL.nil h_)) ?_
      refine Plan.v 2 [3, 4, 5, 6, 7, 8, 9, 10, 11] (by kernel_rfl) (by kernel_rfl) (by kernel_rfl) (by kernel_rfl) rfl (fun _ _ h_ => R.len Try.underlying22 rfl rfl (TL.nil h_)) ?_
      refine Plan.v 3 [4, 5, 6, 7, 8, 9, 10, 11] (by kernel_rfl) (by kernel_rfl) (by kernel_rfl) (by kernel_rfl) rfl (fun _ _ h_ => R.lss rfl rfl rfl (TL.nil h_)) ?_
      refine Plan.v 4 [5, 6, 7, 8, 9, 10, 11] (by kernel_rfl) (by kernel_rfl) (by kernel_rfl) (by kernel_rfl) rfl (fun _ _ h_ => R.mvE rfl (by conv => lhs; whnf) (TL.nil h_)) ?_
      refine Plan.set 24 (.bool false) (congrArg Value.bool (decide_eq_false (by omega))) ?_
      refine Plan.v 5 [6, 7, 8, 9, 10, 11] (by kernel_rfl) (by kernel_rfl) (by kernel_rfl) (by kernel_rfl) rfl (fun _ _ h_ => TL.off rfl rfl rfl (TL.nil h_)) ?_
      refine Plan.v 6 [7, 8, 9, 10, 11] (by kernel_rfl) (by kernel_rfl) (by kernel_rfl) (by kernel_rfl) rfl (fun _ _ h_ => TL.off rfl rfl rfl (TL.nil h_)) ?_
      refine Plan.v 7 [8, 9, 10, 11] (by kernel_rfl) (by kernel_rfl) (by kernel_rfl) (by kernel_rfl) rfl (fun _ _ h_ => TL.off rfl rfl rfl (TL.nil h_)) ?_
      refine Plan.v 8 [9, 10, 11] (by kernel_rfl) (by kernel_rfl) (by kernel_rfl) (by kernel_rfl) rfl (fun _ _ h_ => TL.off rfl rfl rfl (TL.nil h_)) ?_
      refine Plan.v 9 [10, 11] (by kernel_rfl) (by kernel_rfl) (by kernel_rfl) (by kernel_rfl) rfl (fun _ _ h_ => TL.off rfl rfl rfl (TL.nil h_)) ?_
      refine Plan.v 10 [11] (by kernel_rfl) (by kernel_rfl) (by kernel_rfl) (by kernel_rfl) rfl (fun _ _ h_ => TL.off rfl rfl rfl (TL.nil h_)) ?_
      refine Plan.v 11 [] (by kernel_rfl) (by kernel_rfl) (by kernel_rfl) (by kernel_rfl) rfl (fun _ _ h_ => R.pkFE rfl rfl (by conv => lhs; whnf) (TL.nil h_)) ?_
      refine Plan.done (Post.thnN ?_)
      refine T.condN rfl ?_
      refine T.skip (Post.thnN ?_)
      refine T.seq ?_
      refine T.draw Try_mixed (by kernel_rfl) ?_
      refine Plan.v 1 [0, 2, 3, 4, 5, 6, 7, 8, 9, 10, 11, 12] (by kernel_rfl) (by kernel_rfl) (by kernel_rfl) (by kernel_rfl) rfl (fun _ _ h_ => R.mvE rfl (by conv => lhs; whnf) (TL.nil h_)) ?_
      refine Plan.v 2 [0, 3, 4, 5, 6, 7, 8, 9, 10, 11, 12] (by kernel_rfl) (by kernel_rfl) (by kernel_rfl) (by kernel_rfl) rfl (fun _ _ h_ => R.mvE rfl (by conv => lhs; whnf) (TL.nil h_)) ?_
      refine Plan.v 3 [0, 4, 5, 6, 7, 8, 9, 10, 11, 12] (by kernel_rfl) (by kernel_rfl) (by kernel_rfl) (by kernel_rfl) rfl (fun _ _ h_ => R.sH Try.underlying22 Try.sizeOf37 rfl rfl rfl  (by omega) (by omega)  (TL.nil h_)) ?_
      refine Plan.v 5 [0, 4, 6, 7, 8, 9, 10, 11, 12] (by kernel_rfl) (by kernel_rfl) (by kernel_rfl) (by kernel_rfl) rfl (fun _ _ h_ => R.ldAH Try.isAgg37 Try.sizeOf37 rfl rfl rfl (s_0 _ _ h3) (TL.nil h_)) ?_
      refine Plan.v 8 [0, 4, 6, 7, 9, 10, 11, 12] (by kernel_rfl) (by kernel_rfl) (by kernel_rfl) (by kernel_rfl) rfl (fun _ _ h_ => R.mvE rfl (by conv => lhs; whnf) (TL.nil h_)) ?_
      refine Plan.v 9 [0, 4, 6, 7, 10, 11, 12] (by kernel_rfl) (by kernel_rfl) (by kernel_rfl) (by kernel_rfl) rfl (fun _ _ h_ => R.mvE rfl (by conv => lhs; whnf) (TL.nil h_)) ?_
      refine Plan.v 10 [0, 4, 6, 7, 11, 12] (by kernel_rfl) (by kernel_rfl) (by kernel_rfl) (by kernel_rfl) rfl (fun _ _ h_ => R.sL Try.underlying22 Try.sizeOf37 rfl rfl rfl  (by omega) (by omega)  (TL.nil h_)) ?_
      refine Plan.s2 0 6 [4, 6, 7, 11, 12] [0, 4, 7, 11, 12] (by kernel_rfl) (by kernel_rfl) (by kernel_rfl) rfl rfl ?_ ?_
      · refine R.bs0 (E := pairE) rfl Try.underlying22 Try.sizeOf37 ?_
        intro v33 c33 w33
        refine TL.nil (Plan.e1 (HLe.refl _) ?_)
        refine Plan.s2 4 6 [6, 7, 11, 12] [4, 7, 11, 12] (by kernel_rfl) (by kernel_rfl) (by kernel_rfl) rfl rfl ?_ ?_
        · obtain ⟨cs37, y37, r37⟩ := Src.rdA (((hr.mono s3).mono s_0).takeC hk hc1)
          refine R.app Try_ty22 rfl rfl rfl w33 (by first | exact .hd | exact .tl .hd | exact .tl (.tl .hd) | exact .tl (.tl (.tl .hd)) | exact .tl (.tl (.tl (.tl .hd))) | exact .tl (.tl (.tl (.tl (.tl .hd)))) | exact .tl (.tl (.tl (.tl (.tl (.tl .hd))))) | exact .tl (.tl (.tl (.tl (.tl (.tl (.tl .hd)))))) | exact .tl (.tl (.tl (.tl (.tl (.tl (.tl (.tl .hd))))))) | exact .tl (.tl (.tl (.tl (.tl (.tl (.tl (.tl (.tl .hd))))))))) (r37 _) y37 (by simp; omega) (by simp; omega) ?_
          intro v37 c37 w37
          rw [List.nil_append] at w37
          refine TL.nil (Plan.e1 (HLe.refl _) ?_)
          refine Plan.s1 6 [7, 11, 12] (by kernel_rfl) (by kernel_rfl) rfl ?_
          refine R.bs (e := 37) (cs := [.int .i64 x.1, .int .i64 x.2]) rfl (fun _ => by kernel_rfl) ?_
          intro b39
          refine TL.nil (Plan.e1 (HLe.refl _) ?_)
          refine Plan.s1 7 [11, 12] (by kernel_rfl) (by kernel_rfl) rfl ?_
          refine R.app (ys := [x]) Try_ty22 rfl rfl rfl w37 (by first | exact .hd | exact .tl .hd | exact .tl (.tl .hd) | exact .tl (.tl (.tl .hd)) | exact .tl (.tl (.tl (.tl .hd))) | exact .tl (.tl (.tl (.tl (.tl .hd)))) | exact .tl (.tl (.tl (.tl (.tl (.tl .hd))))) | exact .tl (.tl (.tl (.tl (.tl (.tl (.tl .hd)))))) | exact .tl (.tl (.tl (.tl (.tl (.tl (.tl (.tl .hd))))))) | exact .tl (.tl (.tl (.tl (.tl (.tl (.tl (.tl (.tl .hd))))))))) (Src.lit (vs := [.int .i64 x.1, .int .i64 x.2]) (by first | exact .hd | exact .tl .hd | exact .tl (.tl .hd) | exact .tl (.tl (.tl .hd)) | exact .tl (.tl (.tl (.tl .hd))) | exact .tl (.tl (.tl (.tl (.tl .hd)))) | exact .tl (.tl (.tl (.tl (.tl (.tl .hd))))) | exact .tl (.tl (.tl (.tl (.tl (.tl (.tl .hd)))))) | exact .tl (.tl (.tl (.tl (.tl (.tl (.tl (.tl .hd))))))) | exact .tl (.tl (.tl (.tl (.tl (.tl (.tl (.tl (.tl .hd)))))))))) ⟨[.int .i64 x.1, .int .i64 x.2], [], rfl, rfl, rfl⟩ (by simp; omega) (by simp; omega) ?_
          intro v40 c40 w40
          refine TL.nil (Plan.e1 (HLe.refl _) ?_)
          refine Plan.s1 11 [12] (by kernel_rfl) (by kernel_rfl) rfl ?_
          obtain ⟨cs44, y44, r44⟩ := Src.rdA (((hr.mono s3).mono s_0).drop hk hc1)
          refine R.app Try_ty22 rfl rfl rfl w40 (by first | exact .hd | exact .tl .hd | exact .tl (.tl .hd) | exact .tl (.tl (.tl .hd)) | exact .tl (.tl (.tl (.tl .hd))) | exact .tl (.tl (.tl (.tl (.tl .hd)))) | exact .tl (.tl (.tl (.tl (.tl (.tl .hd))))) | exact .tl (.tl (.tl (.tl (.tl (.tl (.tl .hd)))))) | exact .tl (.tl (.tl (.tl (.tl (.tl (.tl (.tl .hd))))))) | exact .tl (.tl (.tl (.tl (.tl (.tl (.tl (.tl (.tl .hd))))))))) (r44 _) y44 (by simp; omega) (by simp; omega) ?_
          intro v44 c44 w44
          refine TL.shut .hd ?_
          intro H44 s44 q44
          have hw44 := w44.read s44 q44
          refine TL.nil (Plan.e1 (s44) ?_)
          refine Plan.v 12 [] (by kernel_rfl) (by kernel_rfl) (by kernel_rfl) (by kernel_rfl) rfl (fun _ _ h_ => R.asE rfl (by conv => lhs; whnf) (TL.nil h_)) ?_
          refine Plan.done (Post.thnN ?_)
          refine T.ret ?_
          -- way n00
          have hpe : putP xs x = xs.take k ++ [x] ++ xs.drop k := by unfold putP; rw [hkk, if_neg (by rw [hnk]; simp)]
          exact fin1 rfl rfl ⟨rfl, by rw [hpe]; exact hw44⟩
        · refine R.bs (e := 37) (cs := [.int .i64 x.1, .int .i64 x.2]) rfl (fun _ => by kernel_rfl) ?_
          intro b39
          refine TL.nil (Plan.e1 (HLe.refl _) ?_)
          refine Plan.s1 4 [7, 11, 12] (by kernel_rfl) (by kernel_rfl) rfl ?_
          obtain ⟨cs37, y37, r37⟩ := Src.rdA (((hr.mono s3).mono s_0).takeC hk hc1)
          refine R.app Try_ty22 rfl rfl rfl w33 (by first | exact .hd | exact .tl .hd | exact .tl (.tl .hd) | exact .tl (.tl (.tl .hd)) | exact .tl (.tl (.tl (.tl .hd))) | exact .tl (.tl (.tl (.tl (.tl .hd)))) | exact .tl (.tl (.tl (.tl (.tl (.tl .hd))))) | exact .tl (.tl (.tl (.tl (.tl (.tl (.tl .hd)))))) | exact .tl (.tl (.tl (.tl (.tl (.tl (.tl (.tl .hd))))))) | exact .tl (.tl (.tl (.tl (.tl (.tl (.tl (.tl (.tl .hd))))))))) (r37 _) y37 (by simp; omega) (by simp; omega) ?_
          intro v37 c37 w37
          rw [List.nil_append] at w37
          refine TL.nil (Plan.e1 (HLe.refl _) ?_)
          refine Plan.s1 7 [11, 12] (by kernel_rfl) (by kernel_rfl) rfl ?_
          refine R.app (ys := [x]) Try_ty22 rfl rfl rfl w37 (by first | exact .hd | exact .tl .hd | exact .tl (.tl .hd) | exact .tl (.tl (.tl .hd)) | exact .tl (.tl (.tl (.tl .hd))) | exact .tl (.tl (.tl (.tl (.tl .hd)))) | exact .tl (.tl (.tl (.tl (.tl (.tl .hd))))) | exact .tl (.tl (.tl (.tl (.tl (.tl (.tl .hd)))))) | exact .tl (.tl (.tl (.tl (.tl (.tl (.tl (.tl .hd))))))) | exact .tl (.tl (.tl (.tl (.tl (.tl (.tl (.tl (.tl .hd))))))))) (Src.lit (vs := [.int .i64 x.1, .int .i64 x.2]) (by first | exact .hd | exact .tl .hd | exact .tl (.tl .hd) | exact .tl (.tl (.tl .hd)) | exact .tl (.tl (.tl (.tl .hd))) | exact .tl (.tl (.tl (.tl (.tl .hd)))) | exact .tl (.tl (.tl (.tl (.tl (.tl .hd))))) | exact .tl (.tl (.tl (.tl (.tl (.tl (.tl .hd)))))) | exact .tl (.tl (.tl (.tl (.tl (.tl (.tl (.tl .hd))))))) | exact .tl (.tl (.tl (.tl (.tl (.tl (.tl (.tl (.tl .hd)))))))))) ⟨[.int .i64 x.1, .int .i64 x.2], [], rfl, rfl, rfl⟩ (by simp; omega) (by simp; omega) ?_
          intro v40 c40 w40
          refine TL.nil (Plan.e1 (HLe.refl _) ?_)
          refine Plan.s1 11 [12] (by kernel_rfl) (by kernel_rfl) rfl ?_
          obtain ⟨cs44, y44, r44⟩ := Src.rdA (((hr.mono s3).mono s_0).drop hk hc1)
          refine R.app Try_ty22 rfl rfl rfl w40 (by first | exact .hd | exact .tl .hd | exact .tl (.tl .hd) | exact .tl (.tl (.tl .hd)) | exact .tl (.tl (.tl (.tl .hd))) | exact .tl (.tl (.tl (.tl (.tl .hd)))) | exact .tl (.tl (.tl (.tl (.tl (.tl .hd))))) | exact .tl (.tl (.tl (.tl (.tl (.tl (.tl .hd)))))) | exact .tl (.tl (.tl (.tl (.tl (.tl (.tl (.tl .hd))))))) | exact .tl (.tl (.tl (.tl (.tl (.tl (.tl (.tl (.tl .hd))))))))) (r44 _) y44 (by simp; omega) (by simp; omega) ?_
          intro v44 c44 w44
          refine TL.shut .hd ?_
          intro H44 s44 q44
          have hw44 := w44.read s44 q44
          refine TL.nil (Plan.e1 (s44) ?_)
          refine Plan.v 12 [] (by kernel_rfl) (by kernel_rfl) (by kernel_rfl) (by kernel_rfl) rfl (fun _ _ h_ => R.asE rfl (by conv => lhs; whnf) (TL.nil h_)) ?_
          refine Plan.done (Post.thnN ?_)
          refine T.ret ?_
          -- way n01
          have hpe : putP xs x = xs.take k ++ [x] ++ xs.drop k := by unfold putP; rw [hkk, if_neg (by rw [hnk]; simp)]
          exact fin1 rfl rfl ⟨rfl, by rw [hpe]; exact hw44⟩
      · refine R.bs (e := 37) (cs := [.int .i64 x.1, .int .i64 x.2]) rfl (fun _ => by kernel_rfl) ?_
        intro b39
        refine TL.nil (Plan.e1 (HLe.refl _) ?_)
        refine Plan.s1 0 [4, 7, 11, 12] (by kernel_rfl) (by kernel_rfl) rfl ?_
        refine R.bs0 (E := pairE) rfl Try.underlying22 Try.sizeOf37 ?_
        intro v33 c33 w33
        refine TL.nil (Plan.e1 (HLe.refl _) ?_)
        refine Plan.s1 4 [7, 11, 12] (by kernel_rfl) (by kernel_rfl) rfl ?_
        obtain ⟨cs37, y37, r37⟩ := Src.rdA (((hr.mono s3).mono s_0).takeC hk hc1)
        refine R.app Try_ty22 rfl rfl rfl w33 (by first | exact .hd | exact .tl .hd | exact .tl (.tl .hd) | exact .tl (.tl (.tl .hd)) | exact .tl (.tl (.tl (.tl .hd))) | exact .tl (.tl (.tl (.tl (.tl .hd)))) | exact .tl (.tl (.tl (.tl (.tl (.tl .hd))))) | exact .tl (.tl (.tl (.tl (.tl (.tl (.tl .hd)))))) | exact .tl (.tl (.tl (.tl (.tl (.tl (.tl (.tl .hd))))))) | exact .tl (.tl (.tl (.tl (.tl (.tl (.tl (.tl (.tl .hd))))))))) (r37 _) y37 (by simp; omega) (by simp; omega) ?_
        intro v37 c37 w37
        rw [List.nil_append] at w37
        refine TL.nil (Plan.e1 (HLe.refl _) ?_)
        refine Plan.s1 7 [11, 12] (by kernel_rfl) (by kernel_rfl) rfl ?_
        refine R.app (ys := [x]) Try_ty22 rfl rfl rfl w37 (by first | exact .hd | exact .tl .hd | exact .tl (.tl .hd) | exact .tl (.tl (.tl .hd)) | exact .tl (.tl (.tl (.tl .hd))) | exact .tl (.tl (.tl (.tl (.tl .hd)))) | exact .tl (.tl (.tl (.tl (.tl (.tl .hd))))) | exact .tl (.tl (.tl (.tl (.tl (.tl (.tl .hd)))))) | exact .tl (.tl (.tl (.tl (.tl (.tl (.tl (.tl .hd))))))) | exact .tl (.tl (.tl (.tl (.tl (.tl (.tl (.tl (.tl .hd))))))))) (Src.lit (vs := [.int .i64 x.1, .int .i64 x.2]) (by first | exact .hd | exact .tl .hd | exact .tl (.tl .hd) | exact .tl (.tl (.tl .hd)) | exact .tl (.tl (.tl (.tl .hd))) | exact .tl (.tl (.tl (.tl (.tl .hd)))) | exact .tl (.tl (.tl (.tl (.tl (.tl .hd))))) | exact .tl (.tl (.tl (.tl (.tl (.tl (.tl .hd)))))) | exact .tl (.tl (.tl (.tl (.tl (.tl (.tl (.tl .hd))))))) | exact .tl (.tl (.tl (.tl (.tl (.tl (.tl (.tl (.tl .hd)))))))))) ⟨[.int .i64 x.1, .int .i64 x.2], [], rfl, rfl, rfl⟩ (by simp; omega) (by simp; omega) ?_
        intro v40 c40 w40
        refine TL.nil (Plan.e1 (HLe.refl _) ?_)
        refine Plan.s1 11 [12] (by kernel_rfl) (by kernel_rfl) rfl ?_
        obtain ⟨cs44, y44, r44⟩ := Src.rdA (((hr.mono s3).mono s_0).drop hk hc1)
        refine R.app Try_ty22 rfl rfl rfl w40 (by first | exact .hd | exact .tl .hd | exact .tl (.tl .hd) | exact .tl (.tl (.tl .hd)) | exact .tl (.tl (.tl (.tl .hd))) | exact .tl (.tl (.tl (.tl (.tl .hd)))) | exact .tl (.tl (.tl (.tl (.tl (.tl .hd))))) | exact .tl (.tl (.tl (.tl (.tl (.tl (.tl .hd)))))) | exact .tl (.tl (.tl (.tl (.tl (.tl (.tl (.tl .hd))))))) | exact .tl (.tl (.tl (.tl (.tl (.tl (.tl (.tl (.tl .hd))))))))) (r44 _) y44 (by simp; omega) (by simp; omega) ?_
        intro v44 c44 w44
        refine TL.shut .hd ?_
        intro H44 s44 q44
        have hw44 := w44.read s44 q44
        refine TL.nil (Plan.e1 (s44) ?_)
        refine Plan.v 12 [] (by kernel_rfl) (by kernel_rfl) (by kernel_rfl) (by kernel_rfl) rfl (fun _ _ h_ => R.asE rfl (by conv => lhs; whnf) (TL.nil h_)) ?_
        refine Plan.done (Post.thnN ?_)
        refine T.ret ?_
        -- way n1
        have hpe : putP xs x = xs.take k ++ [x] ++ xs.drop k := by unfold putP; rw [hkk, if_neg (by rw [hnk]; simp)]
        exact fin1 rfl rfl ⟨rfl, by rw [hpe]; exact hw44⟩


set_option maxHeartbeats 1600000 in
theorem rof_c (H : Heap) (v : Value) (xs : List Lk) (hr : RdS pairE H v xs) (hl : xs.length ≤ 100000) : Fp Try.prog (fnv 43) [v] H (fun v' H' => RdS pairE H' v' (ofP xs)) := by
  refine Fc.of_body (N := 17) Try.func43 rfl (by kernel_rfl) rfl rfl ?_
  intro w0
  obtain ⟨A, c, rfl, hc1, hc2, hr⟩ := hr.shape
  refine T.seq ?_
  refine T.region ?_
  refine R.asE rfl (by conv => lhs; whnf) ?_
  refine TL.nil (Post.thnN ?_)
  refine T.seq ?_
  refine T.region ?_
  refine R.asE rfl (by conv => lhs; whnf) ?_
  refine TL.nil (Post.thnN ?_)
  refine T.seq ?_
  refine T.seq ?_
  refine T.region ?_
  refine R.mvE rfl (by conv => lhs; whnf) ?_
  refine R.len Try.underlying22 rfl rfl ?_
  refine R.mvE rfl (by conv => lhs; whnf) ?_
  refine TL.nil (Post.thnN ?_)
  refine T.block ?_
  refine T.loop (ι := Nat × Value) (fun ⟨k, vw⟩ H' L' ds' => k ≤ xs.length ∧ L' = [] ∧ ds' = [] ∧ RdS pairE H' vw (ofP (xs.take k))) (fun ⟨k, vw⟩ => [(3, vw), (6, .slice A xs.length c), (7, .int .i64 xs.length), (8, .int .i64 k)]) (fun ⟨k, vw⟩ => xs.length - k) ((0, .slice none 0 0)) ?_ ?_ ?_
  · exact ⟨Nat.zero_le _, rfl, rfl, RdS.nil⟩
  · exact ⟨rfl, rfl, rfl, rfl, trivial⟩
  · intro ⟨k, vw⟩ σ0 H_0 L_0 ds_0 s_0 hI_0
    obtain ⟨hk, rfl, rfl, ho⟩ := hI_0
    refine T.seq ?_
    refine T.region ?_
    refine R.lss rfl rfl rfl ?_
    refine TL.nil (Post.thnN ?_)
    refine T.seq ?_
    refine T.condD rfl (fun c9 => ?_) (fun c9 => ?_)
    · have hlt : k < xs.length := by omega
      obtain ⟨y, hy⟩ := getk hlt
      refine T.skip (Post.thnN ?_)
      refine T.seq ?_
      refine T.block ?_
      refine T.seq ?_
      refine T.region ?_
      obtain ⟨b10, o10, i10, e10⟩ := (hr.mono s_0).elem (hy)
      refine R.ixp Try.underlying22 Try.sizeOf37 rfl rfl rfl (by omega) i10 ?_
      refine R.ldP Try.isAgg37 Try.sizeOf37 rfl rfl (e10) ?_
      refine R.alloc Try.zeroValue37 rfl ?_
      intro b5
      refine R.stA (old := [.int .i64 0, .int .i64 0]) Try.sizeOf37 rfl rfl rfl rfl rfl (by intro v hv; simp at hv; rcases hv with rfl | rfl <;> rfl) .hd ?_
      refine TL.nil (Post.thnN ?_)
      refine T.shut .hd ?_
      intro H5 s5 q5
      have h5 : H5 b5 = some (.cells #[.int .i64 y.1, .int .i64 y.2] 37) := shut1 q5
      refine T.region ?_
      refine R.mvE rfl (by conv => lhs; whnf) ?_
      refine R.ldAH Try.isAgg37 Try.sizeOf37 rfl rfl rfl h5 ?_
      refine R.callp rfl rfl rfl (putP_c _ _ _ y (ho.mono s5) (by have := ofP_len (xs.take k); simp at this; omega)) ?_
      intro v14 H14 s14 q14
      refine R.asE rfl (by conv => lhs; whnf) ?_
      refine TL.nil (Post.blkN ?_)
      refine id (Post.thnN ?_)
      refine T.region ?_
      refine R.addI rfl rfl rfl (by omega) ?_
      refine R.mvE rfl (by conv => lhs; whnf) ?_
      refine TL.nil (Post.thnN ?_)
      -- round's end, way y
      exact ⟨(k + 1, v14), s_0.trans (s5.trans s14), ⟨by show k + 1 ≤ _; omega, rfl, rfl, by rw [ofP_snoc hy]; exact q14⟩, by show xs.length - (k + 1) < xs.length - k; omega, ⟨rfl, rfl, rfl, rfl, trivial⟩⟩
    · have hkx : k = xs.length := by omega
      rw [hkx, List.take_length] at ho
      refine T.exit (Post.thnE (Post.thnE (Post.blkX ?_)))
      refine id (Post.thnN ?_)
      refine T.seq ?_
      refine T.region ?_
      refine R.mvE rfl (by conv => lhs; whnf) ?_
      refine R.asE rfl (by conv => lhs; whnf) ?_
      refine TL.nil (Post.thnN ?_)
      refine T.ret ?_
      -- way n
      exact fin1 rfl rfl ⟨rfl, ho⟩


set_option maxHeartbeats 1600000 in
theorem of_c (H : Heap) (v : Value) (xs : List Lk) (hr : RdS pairE H v xs) (hl : xs.length ≤ 100000) : Fp Try.prog (fnv 39) [v] H (fun v' H' => ∃ w, v' = .tuple #[w, .int .i64 (ofR xs).2] ∧ RdS pairE H' w (ofR xs).1) := by
  refine Fc.of_body (N := 15) Try.func39 rfl (by kernel_rfl) rfl rfl ?_
  intro w0
  obtain ⟨A, c, rfl, hc1, hc2, hr⟩ := hr.shape
  have hol := ofP_len xs
  refine T.seq ?_
  refine T.region ?_
  refine R.asE rfl (by conv => lhs; whnf) ?_
  refine R.asE rfl (by conv => lhs; whnf) ?_
  refine TL.nil (Post.thnN ?_)
  refine T.seq ?_
  refine T.seq ?_
  refine T.region ?_
  refine R.mvE rfl (by conv => lhs; whnf) ?_
  refine R.callv rfl rfl rfl (containsFP_c _ _ _ _ (fun y => !linkB y) hr (fun H2 h2 y => of1_c H2 y)) ?_
  refine TL.nil (Post.thnN ?_)
  refine T.cond rfl (fun c6 => ?_) (fun c6 => ?_)
  · have hal : xs.all linkB = false := by have := not_all (xs := xs); rw [c6] at this; unfold allLink at this; cases h : xs.all linkB with
      | false => rfl
      | true => rw [h] at this; cases this
    have hR : ofR xs = ([], 2) := by unfold ofR; rw [if_neg (by rw [hal]; simp)]
    refine T.seq ?_
    refine T.region ?_
    refine R.asE rfl (by conv => lhs; whnf) ?_
    refine R.asE rfl (by conv => lhs; whnf) ?_
    refine TL.nil (Post.thnN ?_)
    refine T.ret (Post.thnR ?_)
    -- way y
    exact fin2 rfl rfl rfl ⟨rfl, _, by rw [hR]; rfl, by rw [hR]; exact RdS.nil⟩
  · have hal : xs.all linkB = true := by have := not_all (xs := xs); rw [c6] at this; unfold allLink at this; cases h : xs.all linkB with
      | true => rfl
      | false => rw [h] at this; cases this
    have hR : ofR xs = (ofP xs, 0) := by unfold ofR; rw [if_pos hal, if_pos (by omega)]
    refine T.skip (Post.thnN ?_)
    refine T.seq ?_
    refine T.region ?_
    refine R.mvE rfl (by conv => lhs; whnf) ?_
    refine R.callp rfl rfl rfl (values_c _ _ _ hr) ?_
    intro v8 H8 s8 q8
    obtain ⟨lb, rfl, hit⟩ := q8
    refine TL.call [] rfl rfl rfl (sortedF_c _ _ lb xs (enters_of Try.func95 (by kernel_rfl) rfl) hl hit) ?_
    intro v9 H9 L9 s9 q9
    obtain ⟨c9, rfl, w9⟩ := q9
    refine TL.call [true] rfl rfl rfl (compactP_c _ _ _ c9 w9) ?_
    intro v10 H10 L10 s10 q10
    obtain ⟨c10, rfl, w10⟩ := q10
    rw [of_eq] at w10
    refine TL.shut .hd ?_
    intro HW sW qW
    have hw := w10.read sW qW
    obtain ⟨Aw, kw, rfl, mw, nw, hw⟩ := hw.shape
    refine R.asE rfl (by conv => lhs; whnf) ?_
    refine TL.nil (Post.thnN ?_)
    refine T.seq ?_
    refine T.seq ?_
    refine T.region ?_
    refine R.mvE rfl (by conv => lhs; whnf) ?_
    refine R.len Try.underlying22 rfl rfl ?_
    refine R.gtr rfl rfl rfl ?_
    refine TL.nil (Post.thnN ?_)
    refine T.set 13 (.bool false) (congrArg Value.bool (decide_eq_false (by omega))) ?_
    refine T.condN rfl ?_
    refine T.skip (Post.thnN ?_)
    refine T.seq ?_
    refine T.region ?_
    refine R.mvE rfl (by conv => lhs; whnf) ?_
    refine R.asE rfl (by conv => lhs; whnf) ?_
    refine R.asE rfl (by conv => lhs; whnf) ?_
    refine TL.nil (Post.thnN ?_)
    refine T.ret ?_
    -- way n
    exact fin2 rfl rfl rfl ⟨rfl, _, by rw [hR]; rfl, by rw [hR]; exact hw⟩

end Go.SX
