/- 'TypesPairs' answers true, whatever it is handed, and what it is handed reads behind it as it did. -/
import Derived.RangeFuncNested
import Derived.RangeFuncBound
import Derived.RangeFuncCalls
import Derived.RangeFuncLeaves
import Derived.Shelf.Abstract
import Derived.Laws.AppendOwn
import Derived.Laws.OwnMore
import Derived.KernelRfl
import Derived.IntWalk
import Derived.Laws.Append
import Derived.WideLaws
import Derived.Laws.Slices
import Derived.Laws.MakeOwn
import Derived.OrdersIn
import Derived.Laws.Cover3
import Derived.Test.YtmigaagkfglabaaProg
import Derived.Laws.StructEq
import Derived.Shelf.Sort.Plain
import Derived.Sort.OwnSortedInts
import Derived.Shelf.Slices.In.SortNone
import Derived.Lib.AppendZeros
import Derived.Sort.AssemblyPlain
import Derived.Shelf.Small.Bits
import Derived.Sort.Walk7a
import Derived.Laws.Bits64
import Derived.Laws.Bits64b
import Derived.ProofKit
import Derived.ChangeSlices
import Derived.Carry
import Derived.Test.YtmigaagkfglabaaRows
import Derived.Test.YtmigaagkfglabaaKP2
set_option linter.unusedVariables false
set_option linter.unusedSimpArgs false
namespace Go.SX
open Go Go.Proofs

def types_with_m (a0 : List Int) (a1 : Int) : (List Int) :=
  LR.seq (slices_BinarySearch_Id_m a0 a1) (fun r10 => if r10.2 = true then a0 else ((((a0.take r10.1.toNat) ++ [a1]) ++ (a0.drop r10.1.toNat))))
set_option maxHeartbeats 3200000 in
theorem types_with_c (H : Heap) (va0 : Value) (a0 : List Int) (ha0 : RdS (intE .u64) H va0 a0) (a1 : Int) (hl : a0.length ≤ 2000000) : Fp Try.prog (fnv 103) [va0, .int .u64 a1] H (fun v' H' => ∃ u0_0, v' = u0_0 ∧ RdS (intE .u64) H' u0_0 (types_with_m a0 a1)) := by
  refine Fc.of_body (N := 26) Try.func103 rfl (by kernel_rfl) rfl rfl ?_
  intro w0
  obtain ⟨Aa0, ca0, rfl, hca0, hda0, ha0⟩ := ha0.shape
  refine T.seq ?_
  refine T.region ?_
  refine R.asE rfl (by conv => lhs; whnf) ?_
  refine TL.nil (Post.thnN ?_)
  refine T.seq ?_
  refine T.region ?_
  refine R.mvE rfl (by conv => lhs; whnf) ?_
  refine R.mvE rfl (by conv => lhs; whnf) ?_
  obtain ⟨r10, er10⟩ : ∃ r, r = (slices_BinarySearch_Id_m a0 a1) := ⟨_, rfl⟩
  refine R.callv (v := .tuple #[.int .i64 r10.1, .bool r10.2]) rfl rfl rfl (by rw [er10]; exact slices_BinarySearch_Id_c _ _ a0 ha0 (a1) (by first | omega | (simp; done) | (simp; omega) | (simp at *; omega))) ?_
  have tb10 := bs_rng _ _ _ er10 (by first | omega | (simp; done) | (simp; omega) | (simp at *; omega))
  refine R.mvE rfl (by conv => lhs; whnf) ?_
  refine R.ext rfl rfl rfl ?_
  refine R.ext rfl rfl rfl ?_
  refine R.asE rfl (by conv => lhs; whnf) ?_
  refine R.asE rfl (by conv => lhs; whnf) ?_
  refine TL.nil (Post.thnN ?_)
  refine T.seq ?_
  refine T.seq ?_
  refine T.region ?_
  refine R.mvE rfl (by conv => lhs; whnf) ?_
  refine TL.nil (Post.thnN ?_)
  refine T.cond rfl (fun c13 => ?_) (fun c13 => ?_)
  · refine T.set 13 (.bool true) (congrArg Value.bool c13) ?_
    refine T.seq ?_
    refine T.region ?_
    refine R.mvE rfl (by conv => lhs; whnf) ?_
    refine R.asE rfl (by conv => lhs; whnf) ?_
    refine TL.nil (Post.thnN ?_)
    refine T.has Has.nil ?_
    refine T.ret (Post.thnR ?_)
    have hM : types_with_m a0 a1 = a0 := by subst er10; rw [types_with_m, LR.seq_go, if_t c13]
    exact fin1L (v := .slice Aa0 a0.length ca0) [] rfl rfl (List.Sublist.refl _) ⟨rfl, .slice Aa0 a0.length ca0, by first | rw [hM] | rfl, by rw [hM]; exact ha0⟩
  · refine T.set 13 (.bool false) (congrArg Value.bool c13) ?_
    refine T.skip (Post.thnN ?_)
    refine T.seq ?_
    refine T.draw Try_mixed (by kernel_rfl) ?_
    refine Plan.v 0 [1, 2, 3, 4, 5, 6, 7, 8, 9, 10, 11] (by kernel_rfl) (by kernel_rfl) (by kernel_rfl) (by kernel_rfl) rfl (fun _ _ h_ => R.mvE rfl (by conv => lhs; whnf) (TL.nil h_)) ?_
    refine Plan.v 1 [2, 3, 4, 5, 6, 7, 8, 9, 10, 11] (by kernel_rfl) (by kernel_rfl) (by kernel_rfl) (by kernel_rfl) rfl (fun _ _ h_ => R.mvE rfl (by conv => lhs; whnf) (TL.nil h_)) ?_
    refine Plan.v 2 [3, 4, 5, 6, 7, 8, 9, 10, 11] (by kernel_rfl) (by kernel_rfl) (by kernel_rfl) (by kernel_rfl) rfl (fun _ _ h_ => R.mvE rfl (by conv => lhs; whnf) (TL.nil h_)) ?_
    have z18 := RdS.take ha0 (i := r10.1.toNat) (by omega) (by omega)
    obtain ⟨x18, e18⟩ : ∃ x, x = (a0.take r10.1.toNat) := ⟨_, rfl⟩
    rw [← e18] at z18
    have t18 : x18.length = r10.1.toNat := by rw [e18, List.length_take]; omega
    refine Plan.v 3 [4, 5, 6, 7, 8, 9, 10, 11] (by kernel_rfl) (by kernel_rfl) (by kernel_rfl) (by kernel_rfl) rfl (fun _ _ h_ => R.sHM Try.underlying22 Try.sizeOf26 rfl rfl rfl rfl (by omega) (by omega) (by omega) (TL.nil h_)) ?_
    refine Plan.set 18 (.slice Aa0 x18.length x18.length) (by rw [t18]; exact slc_take00 (A := Aa0) (n := a0.length) (c := ca0) (sz := 1)) ?_
    refine Plan.v 4 [5, 6, 7, 8, 9, 10, 11] (by kernel_rfl) (by kernel_rfl) (by kernel_rfl) (by kernel_rfl) rfl (fun _ _ h_ => R.mvE rfl (by conv => lhs; whnf) (TL.nil h_)) ?_
    refine Plan.v 7 [5, 6, 8, 9, 10, 11] (by kernel_rfl) (by kernel_rfl) (by kernel_rfl) (by kernel_rfl) rfl (fun _ _ h_ => R.mvE rfl (by conv => lhs; whnf) (TL.nil h_)) ?_
    refine Plan.v 8 [5, 6, 9, 10, 11] (by kernel_rfl) (by kernel_rfl) (by kernel_rfl) (by kernel_rfl) rfl (fun _ _ h_ => R.mvE rfl (by conv => lhs; whnf) (TL.nil h_)) ?_
    have z24 := RdS.drop ha0 (i := r10.1.toNat) (by omega) (by omega)
    obtain ⟨x24, e24⟩ : ∃ x, x = (a0.drop r10.1.toNat) := ⟨_, rfl⟩
    rw [← e24] at z24
    obtain ⟨A24, p24, q24, m24, n24, r24⟩ := RdS.shape z24
    have t24 : x24.length ≤ a0.length := by rw [e24]; simp; try omega
    refine Plan.v 9 [5, 6, 10, 11] (by kernel_rfl) (by kernel_rfl) (by kernel_rfl) (by kernel_rfl) rfl (fun _ _ h_ => R.sL Try.underlying22 Try.sizeOf26 rfl rfl rfl (by omega) (by omega)  (TL.nil h_)) ?_
    refine Plan.set 24 (.slice A24 x24.length p24) (by first | exact q24 | (rw [← q24]; simp; done) | (rw [← q24]; rfl)) ?_
    refine Plan.s1 5 [6, 10, 11] (by kernel_rfl) (by kernel_rfl) rfl ?_
    refine R.bs rfl (run_buildSlice1 Try.underlying22 Try.sizeOf26 Try.zeroValue26 rfl rfl) ?_
    intro b20
    have w20 : OwnS (intE .u64) 26 H (.slice (some ⟨b20, 0, none⟩) 1 1) [a1] [(b20, .cells #[.int .u64 a1] 26)] := OwnS.lit (xs := [a1]) (cellsOf_cons (a := [.int .u64 a1]) rfl cellsOf_nil) (by show 1 ≤ maxLen; decide)
    refine TL.nil (Plan.e1 (HLe.refl _) ?_)
    refine Plan.s1 6 [10, 11] (by kernel_rfl) (by kernel_rfl) rfl ?_
    obtain ⟨k21, y21, r21⟩ := Src.ownA w20
    refine R.appN (E := (intE .u64)) (xs := x18) (ys := [a1]) Try_ty22 rfl rfl rfl z18 (r21 _ .hd) y21 (by simp) (by (try simp only [List.length_append, List.length_cons, List.length_nil, List.length_replicate, List.length_take, List.length_drop]); omega) (by (try simp only [List.length_append, List.length_cons, List.length_nil, List.length_replicate, List.length_take, List.length_drop]); omega) ?_
    intro v21 c21 w21
    obtain ⟨A21, p21, rfl, m21, n21⟩ := OwnS.shape w21
    refine TL.del (.tl .hd) ?_
    refine TL.nil (Plan.e1 (HLe.refl _) ?_)
    refine Plan.s1 10 [11] (by kernel_rfl) (by kernel_rfl) rfl ?_
    obtain ⟨k25, y25, r25⟩ := Src.rdA r24
    refine R.app (E := (intE .u64)) (e := 26) (xs := (x18 ++ [a1])) (ys := x24) Try_ty22 rfl rfl rfl w21 .hd (r25 _) y25 (by (try simp only [List.length_append, List.length_cons, List.length_nil, List.length_replicate, List.length_take, List.length_drop]); omega) (by (try simp only [List.length_append, List.length_cons, List.length_nil, List.length_replicate, List.length_take, List.length_drop]); omega) ?_
    intro v25 c25 w25
    obtain ⟨A25, p25, rfl, m25, n25⟩ := OwnS.shape w25
    refine TL.nil (Plan.e1 (HLe.refl _) ?_)
    refine Plan.v 11 [] (by kernel_rfl) (by kernel_rfl) (by kernel_rfl) (by kernel_rfl) rfl (fun _ _ h_ => R.asE rfl (by conv => lhs; whnf) (TL.nil h_)) ?_
    refine Plan.done (Post.thnN ?_)
    refine T.shut .hd ?_
    intro HF25_1 sF25_1 qF25_1
    have fF25_1 := OwnS.read w25 sF25_1 qF25_1
    refine T.has Has.nil ?_
    refine T.ret ?_
    have hM : types_with_m a0 a1 = ((x18 ++ [a1]) ++ x24) := by subst e24; subst e18; subst er10; rw [types_with_m, LR.seq_go, if_f c13]
    exact fin1L (v := .slice A25 ((x18 ++ [a1]) ++ x24).length p25) [] rfl rfl (List.Sublist.refl _) ⟨rfl, .slice A25 ((x18 ++ [a1]) ++ x24).length p25, by first | rw [hM] | rfl, by rw [hM]; exact fF25_1⟩

theorem with_len (a : List Int) (x : Int) (r : List Int) (e : r = types_with_m a x) (hl : a.length ≤ 2000000) : r.length ≤ a.length + 1 := by
  unfold types_with_m at e
  rw [LR.seq_go] at e
  have h := bs_rng a x _ rfl hl
  generalize slices_BinarySearch_Id_m a x = q at *
  subst e
  split
  · omega
  · simp; omega
def types_Of_l1  : List Int → ((List Int)) → LR ((List Int) × Int) ((List Int))
  | [], sl1 => .go sl1
  | yl1 :: ysl1, sl1 => if (!(types_may_m yl1)) = true then (.ret (([], 2))) else (LR.seq (types_with_m sl1 yl1) (fun r18 => types_Of_l1 ysl1 r18))
def types_Of_m (a0 : List Int) : (List Int) × Int :=
  LR.on (types_Of_l1 a0 []) (fun r => r) (fun ol1 => if (12 : Int) < (ol1.length : Int) then (([], 6)) else ((ol1, 0)))
set_option maxHeartbeats 3200000 in
theorem types_Of_c (H : Heap) (va0 : Value) (a0 : List Int) (ha0 : RdS (intE .u64) H va0 a0) (hl : a0.length ≤ 1000) : Fp Try.prog (fnv 45) [va0] H (fun v' H' => ∃ u0_0, v' = .tuple #[u0_0, .int .i64 (types_Of_m a0).2] ∧ RdS (intE .u64) H' u0_0 (types_Of_m a0).1) := by
  refine Fc.of_body (N := 24) Try.func45 rfl (by kernel_rfl) rfl rfl ?_
  intro w0
  obtain ⟨Aa0, ca0, rfl, hca0, hda0, ha0⟩ := ha0.shape
  refine T.seq ?_
  refine T.region ?_
  refine R.asE rfl (by conv => lhs; whnf) ?_
  refine R.asE rfl (by conv => lhs; whnf) ?_
  refine TL.nil (Post.thnN ?_)
  refine T.seq ?_
  refine T.region ?_
  refine R.asE rfl (by conv => lhs; whnf) ?_
  refine TL.nil (Post.thnN ?_)
  refine T.seq ?_
  refine T.seq ?_
  refine T.region ?_
  refine R.mvE rfl (by conv => lhs; whnf) ?_
  refine R.len Try.underlying22 rfl rfl ?_
  refine R.mvE rfl (by conv => lhs; whnf) ?_
  refine TL.nil (Post.thnN ?_)
  refine T.block ?_
  refine T.loop (ι := Nat × Value × (List Int)) (fun ⟨kl1, v4l1, x4l1⟩ H' L' ds' => kl1 ≤ a0.length ∧ Has L' [] ∧ RdS (intE .u64) H' v4l1 x4l1 ∧ x4l1.length ≤ kl1 ∧ types_Of_l1 (a0.drop kl1) x4l1 = types_Of_l1 a0 []) (fun ⟨kl1, v4l1, x4l1⟩ => [(9, .int .i64 (kl1 : Int)), (4, v4l1), (7, .slice Aa0 a0.length ca0), (8, .int .i64 (a0.length : Int))]) (fun ⟨kl1, v4l1, x4l1⟩ => a0.length - kl1) (0, .slice none 0 0, []) ?_ ?_ ?_
  · exact ⟨(by omega), Has.nil, RdS.nil, (by first | omega | (simp; done) | (simp; omega) | (simp at *; omega)), (by rfl)⟩
  · exact ⟨rfl, rfl, rfl, rfl, trivial⟩
  · intro ⟨kl1, v4l1, x4l1⟩ σ_l1 H_l1 L_l1 ds_l1 s_l1 hI_l1
    obtain ⟨hkl1, hI_l1⟩ := hI_l1
    obtain ⟨hLl1, w4l1, hBl1_0, hQl1⟩ := hI_l1
    obtain ⟨A4l1, p4l1, rfl, m4l1, n4l1_, w4l1⟩ := RdS.shape w4l1
    refine T.has hLl1 ?_
    refine T.seq ?_
    refine T.region ?_
    refine R.lss rfl rfl rfl ?_
    refine TL.nil (Post.thnN ?_)
    refine T.seq ?_
    refine T.condD rfl (fun c10 => ?_) (fun c10 => ?_)
    · have hltl1 : kl1 < a0.length := by omega
      obtain ⟨yl1, hyl1⟩ := getk (xs := a0) (k := kl1) (by omega)
      refine T.skip (Post.thnN ?_)
      refine T.seq ?_
      refine T.block ?_
      refine T.seq ?_
      refine T.region ?_
      obtain ⟨b11, o11, i11, k11⟩ := RdS.elem (ha0.mono s_l1) hyl1
      obtain ⟨l11, g11, k11⟩ := k11
      obtain rfl : l11 = [.int .u64 yl1] := g11
      refine R.ixp Try.underlying22 Try.sizeOf26 rfl rfl rfl (by omega) i11 ?_
      refine R.ldC Try.isAgg26 rfl rfl (k11 0 _ rfl) ?_
      refine R.asE rfl (by conv => lhs; whnf) ?_
      refine TL.nil (Post.thnN ?_)
      refine T.seq ?_
      refine T.seq ?_
      refine T.region ?_
      refine R.mvE rfl (by conv => lhs; whnf) ?_
      refine R.callv rfl rfl rfl (types_may_c _ (yl1)) ?_
      refine R.not rfl rfl ?_
      refine TL.nil (Post.thnN ?_)
      refine T.cond rfl (fun c15 => ?_) (fun c15 => ?_)
      · refine T.set 15 (.bool true) (congrArg Value.bool c15) ?_
        refine T.seq ?_
        refine T.region ?_
        refine R.asE rfl (by conv => lhs; whnf) ?_
        refine R.asE rfl (by conv => lhs; whnf) ?_
        refine TL.nil (Post.thnN ?_)
        refine T.has Has.nil ?_
        refine T.ret (Post.thnR (Post.blkR (Post.thnR (Post.thnR (Post.blkR (Post.thnR ?_))))))
        have hXl1 : types_Of_l1 a0 [] = .ret (([], 2)) := by rw [← hQl1, drop_cons hyl1, types_Of_l1]; rw [if_t c15]
        have hM : types_Of_m a0 = ([], 2) := by rw [types_Of_m, hXl1, LR.on_ret]
        exact fin2L (v := .slice none 0 0) (v' := .int .i64 2) [] rfl rfl rfl (List.Sublist.refl _) ⟨rfl, .slice none 0 0, by first | rw [hM] | rfl, by rw [hM]; exact RdS.nil⟩
      · refine T.set 15 (.bool false) (congrArg Value.bool c15) ?_
        refine T.skip (Post.thnN ?_)
        refine T.region ?_
        refine R.mvE rfl (by conv => lhs; whnf) ?_
        refine R.mvE rfl (by conv => lhs; whnf) ?_
        obtain ⟨r18, er18⟩ : ∃ r, r = (types_with_m x4l1 yl1) := ⟨_, rfl⟩
        refine R.callp rfl rfl rfl (types_with_c _ _ x4l1 w4l1 (yl1) (by first | omega | (simp; done) | (simp; omega) | (simp at *; omega))) ?_
        intro v18 H18 s18 q18
        rw [← er18] at q18
        obtain ⟨u18_0_0, rfl, w18_0_0⟩ := q18
        obtain ⟨A18_0_0, p18_0_0, rfl, m18_0_0, n18_0_0, w18_0_0⟩ := RdS.shape w18_0_0
        have tw18 := with_len _ _ _ er18 (by first | omega | (simp; done) | (simp; omega) | (simp at *; omega))
        refine R.asE rfl (by conv => lhs; whnf) ?_
        refine TL.nil (Post.blkN ?_)
        refine id (Post.thnN ?_)
        refine T.region ?_
        refine R.addI rfl rfl rfl (by omega) ?_
        refine R.mvE rfl (by conv => lhs; whnf) ?_
        refine TL.nil (Post.thnN ?_)
        exact ⟨(kl1 + 1, .slice A18_0_0 r18.length p18_0_0, r18), (s_l1.trans s18), ⟨(by omega), Has.nil, w18_0_0, (by first | omega | (simp; done) | (simp; omega) | (simp at *; omega)), (by subst er18; rw [← hQl1, drop_cons hyl1, types_Of_l1]; rw [if_f c15, LR.seq_go])⟩, by show a0.length - (kl1 + 1) < a0.length - kl1; omega, rfl, rfl, rfl, rfl, trivial⟩
    · refine T.exit (Post.thnE (Post.thnE (Post.blkX ?_)))
      have hEl1 : types_Of_l1 a0 [] = .go x4l1 := (hQl1.symm.trans (by rw [show kl1 = a0.length by omega, List.drop_length, types_Of_l1]))
      refine id (Post.thnN ?_)
      refine T.seq ?_
      refine T.seq ?_
      refine T.region ?_
      refine R.mvE rfl (by conv => lhs; whnf) ?_
      refine R.len Try.underlying22 rfl rfl ?_
      refine R.gtr rfl rfl rfl ?_
      refine TL.nil (Post.thnN ?_)
      refine T.condD rfl (fun c22 => ?_) (fun c22 => ?_)
      · refine T.set 22 (.bool true) (congrArg Value.bool (decide_eq_true c22)) ?_
        refine T.seq ?_
        refine T.region ?_
        refine R.asE rfl (by conv => lhs; whnf) ?_
        refine R.asE rfl (by conv => lhs; whnf) ?_
        refine TL.nil (Post.thnN ?_)
        refine T.has Has.nil ?_
        refine T.ret (Post.thnR ?_)
        have hM : types_Of_m a0 = ([], 6) := by rw [types_Of_m, hEl1, LR.on_go, if_pos c22]
        exact fin2L (v := .slice none 0 0) (v' := .int .i64 6) [] rfl rfl rfl (List.Sublist.refl _) ⟨rfl, .slice none 0 0, by first | rw [hM] | rfl, by rw [hM]; exact RdS.nil⟩
      · refine T.set 22 (.bool false) (congrArg Value.bool (decide_eq_false c22)) ?_
        refine T.skip (Post.thnN ?_)
        refine T.seq ?_
        refine T.region ?_
        refine R.mvE rfl (by conv => lhs; whnf) ?_
        refine R.asE rfl (by conv => lhs; whnf) ?_
        refine R.asE rfl (by conv => lhs; whnf) ?_
        refine TL.nil (Post.thnN ?_)
        refine T.has Has.nil ?_
        refine T.ret ?_
        have hM : types_Of_m a0 = (x4l1, 0) := by rw [types_Of_m, hEl1, LR.on_go, if_neg c22]
        exact fin2L (v := .slice A4l1 x4l1.length p4l1) (v' := .int .i64 0) [] rfl rfl rfl (List.Sublist.refl _) ⟨rfl, .slice A4l1 x4l1.length p4l1, by first | rw [hM] | rfl, by rw [hM]; exact w4l1⟩

theorem of_l1r : ∀ (l a : List Int) (r : List Int × Int), types_Of_l1 l a = .ret r → r = ([], 2)
  | [], a, r, h => by rw [types_Of_l1] at h; cases h
  | y :: ys, a, r, h => by
    rw [types_Of_l1] at h
    split at h
    · injection h with h; exact h.symm
    · rw [LR.seq_go] at h; exact of_l1r ys _ r h
theorem of_len (a : List Int) (r : List Int × Int) (e : r = types_Of_m a) : r.1.length ≤ 12 := by
  unfold types_Of_m at e
  cases h : types_Of_l1 a [] with
  | ret q => rw [h, LR.on_ret, of_l1r a [] q h] at e; rw [e]; exact Nat.zero_le _
  | go o =>
    rw [h, LR.on_go] at e
    rw [e]
    split
    · exact Nat.zero_le _
    · simp only; omega
def types_own_m (a0 : List Int) : (List Int) :=
  a0
set_option maxHeartbeats 3200000 in
theorem types_own_c (H : Heap) (va0 : Value) (a0 : List Int) (ha0 : RdS (intE .u64) H va0 a0) (hl : a0.length ≤ 2000000) : Fc Try.prog (fnv 106) [va0] H [] (fun v' H' L' => ∃ u0_0 c0_0, v' = u0_0 ∧ L' = [c0_0] ∧ OwnS (intE .u64) 26 H' u0_0 (types_own_m a0) c0_0) := by
  refine Fc.of_body (N := 11) Try.func106 rfl (by kernel_rfl) rfl rfl ?_
  intro w0
  obtain ⟨Aa0, ca0, rfl, hca0, hda0, ha0⟩ := ha0.shape
  refine T.seq ?_
  refine T.region ?_
  refine R.asE rfl (by conv => lhs; whnf) ?_
  refine TL.nil (Post.thnN ?_)
  refine T.seq ?_
  refine T.region ?_
  refine R.mvE rfl (by conv => lhs; whnf) ?_
  refine R.len Try.underlying22 rfl rfl ?_
  refine R.mks (E := (intE .u64)) (q := a0.length) (z0 := ((0 : Int))) (zc := [.int .u64 0]) Try_ty22 (zcells_of (z := .int .u64 0) (by kernel_rfl)) (fun _ => rfl) rfl rfl rfl (by omega) (by omega) ?_
  intro v6 c6 w6
  obtain ⟨A6, p6, rfl, m6, n6⟩ := w6.shape
  refine R.asE rfl (by conv => lhs; whnf) ?_
  refine TL.nil (Post.thnN ?_)
  refine T.seq ?_
  refine T.region ?_
  refine R.mvE rfl (by conv => lhs; whnf) ?_
  refine R.mvE rfl (by conv => lhs; whnf) ?_
  obtain ⟨k9, y9, r9⟩ := Src.rdA ha0
  refine R.copyD (v := (.slice A6 (List.replicate a0.length ((0 : Int))).length p6)) Try_ty22 rfl rfl rfl w6 .hd (r9 _) y9 (by simp) ?_
  intro cm61 wm61
  refine TL.nil (Post.thnN ?_)
  refine T.seq ?_
  refine T.region ?_
  refine R.mvE rfl (by conv => lhs; whnf) ?_
  refine R.asE rfl (by conv => lhs; whnf) ?_
  refine TL.nil (Post.thnN ?_)
  refine T.has (Has.cons .hd Has.nil) ?_
  refine T.ret ?_
  have hM : types_own_m a0 = a0 := by rw [types_own_m]
  exact fin1L (v := .slice A6 (List.replicate a0.length ((0 : Int))).length p6) [cm61] rfl rfl (List.Sublist.refl _) ⟨.slice A6 (List.replicate a0.length ((0 : Int))).length p6, cm61, by first | rw [hM] | rfl, rfl, by rw [hM]; exact wm61⟩

theorem own_id (a : List Int) : types_own_m a = a := rfl
attribute [irreducible] types_own_m
def types_Without_m (a0 : List Int) (a1 : Int) : (List Int) × Int :=
  if ((types_Check_m a0) : Int) ≠ 0 then (([], (types_Check_m a0))) else (LR.seq (slices_BinarySearch_Id_m a0 a1) (fun r17 => if (!r17.2) = true then (([], 4)) else (LR.seq (types_own_m a0) (fun r23 => ((r23.take r17.1.toNat ++ r23.drop (r17.1 + 1).toNat), 0)))))
set_option maxHeartbeats 3200000 in
theorem types_Without_c (H : Heap) (va0 : Value) (a0 : List Int) (ha0 : RdS (intE .u64) H va0 a0) (a1 : Int) (hl : a0.length ≤ 2000000) : Fc Try.prog (fnv 46) [va0, .int .u64 a1] H [] (fun v' H' L' => ∃ u0_0 c0_0, v' = .tuple #[u0_0, .int .i64 (types_Without_m a0 a1).2] ∧ L' = [c0_0] ∧ OwnS (intE .u64) 26 H' u0_0 (types_Without_m a0 a1).1 c0_0) := by
  refine Fc.of_body (N := 28) Try.func46 rfl (by kernel_rfl) rfl rfl ?_
  intro w0
  obtain ⟨Aa0, ca0, rfl, hca0, hda0, ha0⟩ := ha0.shape
  refine T.seq ?_
  refine T.region ?_
  refine R.asE rfl (by conv => lhs; whnf) ?_
  refine R.asE rfl (by conv => lhs; whnf) ?_
  refine TL.nil (Post.thnN ?_)
  refine T.seq ?_
  refine T.seq ?_
  refine T.region ?_
  refine R.mvE rfl (by conv => lhs; whnf) ?_
  refine R.callv rfl rfl rfl (types_Check_c _ _ a0 ha0) ?_
  refine R.asE rfl (by conv => lhs; whnf) ?_
  refine TL.nil (Post.thnN ?_)
  refine T.seq ?_
  refine T.region ?_
  refine R.mvE rfl (by conv => lhs; whnf) ?_
  refine R.neq rfl rfl rfl ?_
  refine TL.nil (Post.thnN ?_)
  refine T.condD rfl (fun c12 => ?_) (fun c12 => ?_)
  · refine T.set 12 (.bool true) (congrArg Value.bool (decide_eq_true c12)) ?_
    refine T.seq ?_
    refine T.region ?_
    refine R.mvE rfl (by conv => lhs; whnf) ?_
    refine R.asE rfl (by conv => lhs; whnf) ?_
    refine R.asE rfl (by conv => lhs; whnf) ?_
    refine TL.nil (Post.thnN ?_)
    refine T.has (Has.none Has.nil) ?_
    refine T.ret (Post.thnR ?_)
    have hM : types_Without_m a0 a1 = ([], (types_Check_m a0)) := by rw [types_Without_m, if_pos c12]
    exact fin2L (v := .slice none 0 0) (v' := .int .i64 (types_Check_m a0)) [[]] rfl rfl rfl (List.Sublist.refl _) ⟨.slice none 0 0, [], by first | rw [hM] | rfl, rfl, by rw [hM]; exact OwnS.nil⟩
  · refine T.set 12 (.bool false) (congrArg Value.bool (decide_eq_false c12)) ?_
    refine T.skip (Post.thnN ?_)
    refine T.seq ?_
    refine T.region ?_
    refine R.mvE rfl (by conv => lhs; whnf) ?_
    refine R.mvE rfl (by conv => lhs; whnf) ?_
    obtain ⟨r17, er17⟩ : ∃ r, r = (slices_BinarySearch_Id_m a0 a1) := ⟨_, rfl⟩
    refine R.callv (v := .tuple #[.int .i64 r17.1, .bool r17.2]) rfl rfl rfl (by rw [er17]; exact slices_BinarySearch_Id_c _ _ a0 ha0 (a1) (by first | omega | (simp; done) | (simp; omega) | (simp at *; omega))) ?_
    have tb17 := bs_rng _ _ _ er17 (by first | omega | (simp; done) | (simp; omega) | (simp at *; omega))
    refine R.mvE rfl (by conv => lhs; whnf) ?_
    refine R.ext rfl rfl rfl ?_
    refine R.ext rfl rfl rfl ?_
    refine R.asE rfl (by conv => lhs; whnf) ?_
    refine R.asE rfl (by conv => lhs; whnf) ?_
    refine TL.nil (Post.thnN ?_)
    refine T.seq ?_
    refine T.seq ?_
    refine T.region ?_
    refine R.mvE rfl (by conv => lhs; whnf) ?_
    refine R.not rfl rfl ?_
    refine TL.nil (Post.thnN ?_)
    refine T.cond rfl (fun c21 => ?_) (fun c21 => ?_)
    · refine T.set 21 (.bool true) (congrArg Value.bool c21) ?_
      refine T.seq ?_
      refine T.region ?_
      refine R.asE rfl (by conv => lhs; whnf) ?_
      refine R.asE rfl (by conv => lhs; whnf) ?_
      refine TL.nil (Post.thnN ?_)
      refine T.has (Has.none Has.nil) ?_
      refine T.ret (Post.thnR ?_)
      have hM : types_Without_m a0 a1 = ([], 4) := by subst er17; rw [types_Without_m, if_neg c12, LR.seq_go, if_t c21]
      exact fin2L (v := .slice none 0 0) (v' := .int .i64 4) [[]] rfl rfl rfl (List.Sublist.refl _) ⟨.slice none 0 0, [], by first | rw [hM] | rfl, rfl, by rw [hM]; exact OwnS.nil⟩
    · refine T.set 21 (.bool false) (congrArg Value.bool c21) ?_
      refine T.skip (Post.thnN ?_)
      refine T.seq ?_
      have tq := tb17.2.2 (by simpa using c21)
      refine T.region ?_
      refine R.mvE rfl (by conv => lhs; whnf) ?_
      obtain ⟨r23, er23⟩ : ∃ r, r = (types_own_m a0) := ⟨_, rfl⟩
      refine TL.call [] rfl rfl rfl (types_own_c _ _ a0 ha0 (by first | omega | (simp; done) | (simp; omega) | (simp at *; omega))) ?_
      intro v23 H23 L23 s23 q23
      rw [← er23] at q23
      obtain ⟨u23_0_0, c23_0_0, rfl, rfl, w23_0_0⟩ := q23
      obtain ⟨A23_0_0, p23_0_0, rfl, m23_0_0, n23_0_0⟩ := OwnS.shape w23_0_0
      have to23 := congrArg List.length (er23.trans (own_id _))
      refine R.mvE rfl (by conv => lhs; whnf) ?_
      refine R.mvE rfl (by conv => lhs; whnf) ?_
      refine R.addI rfl rfl rfl (by omega) ?_
      refine TL.call [true] rfl rfl rfl (delete_c _ _ r23 (r17.1) ((r17.1 + 1)) _ w23_0_0 (by first | omega | (simp; done) | (simp; omega) | (simp at *; omega))) ?_
      intro v27 H27 L27 s27 q27
      obtain ⟨c27, rfl, w27⟩ := q27
      obtain ⟨x27, e27⟩ : ∃ x, x = (r23.take r17.1.toNat ++ r23.drop (r17.1 + 1).toNat) := ⟨_, rfl⟩
      rw [← e27] at w27
      obtain ⟨A27, p27, rfl, m27, n27⟩ := OwnS.shape w27
      refine R.asE rfl (by conv => lhs; whnf) ?_
      refine R.asE rfl (by conv => lhs; whnf) ?_
      refine TL.nil (Post.thnN ?_)
      refine T.has (Has.cons .hd Has.nil) ?_
      refine T.ret ?_
      have hM : types_Without_m a0 a1 = (x27, 0) := by subst e27; subst er23; subst er17; rw [types_Without_m, if_neg c12, LR.seq_go, if_f c21, LR.seq_go]
      exact fin2L (v := .slice A27 x27.length p27) (v' := .int .i64 0) [c27] rfl rfl rfl (List.Sublist.refl _) ⟨.slice A27 x27.length p27, c27, by first | rw [hM] | rfl, rfl, by rw [hM]; exact w27⟩

theorem without_len (a : List Int) (x : Int) (r : List Int × Int) (e : r = types_Without_m a x) : r.1.length ≤ 2 * a.length := by
  unfold types_Without_m at e
  rw [LR.seq_go] at e
  rw [e]
  split
  · exact Nat.zero_le _
  · split
    · exact Nat.zero_le _
    · rw [LR.seq_go, own_id]; simp only [List.length_append, List.length_take, List.length_drop]; omega
def types_Has_1_m (q0 : Int) (a0 : Int) : Bool :=
  (decide (a0 = q0))
set_option maxHeartbeats 3200000 in
theorem types_Has_1_c (H : Heap) (b1000 : Nat) (q0 : Int) (hb0 : H b1000 = some (.cells #[.int .u64 q0] 26)) (a0 : Int) : Fv Try.prog (.func (.func 107) #[] ([.pointer (some ⟨b1000, 0, none⟩)] : List Value).toArray) [.int .u64 a0] H (.bool (types_Has_1_m q0 a0)) := by
  refine Fc.of_body (N := 7) Try.func107 rfl (by kernel_rfl) rfl rfl ?_
  intro w0
  refine T.seq ?_
  refine T.region ?_
  refine R.asE rfl (by conv => lhs; whnf) ?_
  refine TL.nil (Post.thnN ?_)
  refine T.seq ?_
  refine T.region ?_
  refine R.mvE rfl (by conv => lhs; whnf) ?_
  refine R.ldH Try.isAgg26 rfl rfl hb0 rfl ?_
  refine R.eql rfl rfl rfl ?_
  refine R.asE rfl (by conv => lhs; whnf) ?_
  refine TL.nil (Post.thnN ?_)
  refine T.has Has.nil ?_
  refine T.ret ?_
  have hM : types_Has_1_m q0 a0 = (decide (a0 = q0)) := by rw [types_Has_1_m]
  exact fin1L (v := .bool (decide (a0 = q0))) [] rfl rfl (List.Sublist.refl _) ⟨rfl, by first | rw [hM] | rfl⟩

def types_Has_r1  : List Int → Bool → LR (Bool) (Bool)
  | [], sr1 => .go sr1
  | yr1 :: ysr1, sr1 => .ret true
def types_Has_m (a0 : List Int) (a1 : Int) : Bool :=
  LR.seq (types_some_m a0 ((fun z0 => types_Has_1_m a1 z0))) (fun r7 => LR.on (types_Has_r1 r7 false) (fun br1 => br1) (fun or1 => false))
set_option maxHeartbeats 3200000 in
theorem types_Has_c (H : Heap) (va0 : Value) (a0 : List Int) (ha0 : RdS (intE .u64) H va0 a0) (a1 : Int) : Fv Try.prog (fnv 48) [va0, .int .u64 a1] H (.bool (types_Has_m a0 a1)) := by
  refine Fc.of_body (N := 9) Try.func48 rfl (by kernel_rfl) rfl rfl ?_
  intro w0
  obtain ⟨Aa0, ca0, rfl, hca0, hda0, ha0⟩ := ha0.shape
  refine T.seq ?_
  refine T.region ?_
  refine R.box rfl (by conv => lhs; whnf) ?_
  intro b3
  refine R.alloc Try.zeroValue4 rfl ?_
  intro b4
  refine TL.shut (.tl .hd) ?_
  intro Hb3_1 sb3_1 qb3_1
  have hb3_1 : Hb3_1 b3 = some (.cells #[.int .u64 a1] 26) := shut1 qb3_1
  refine TL.nil (Post.thnN ?_)
  refine T.seq ?_
  refine T.seq ?_
  refine T.region ?_
  refine R.mvE rfl (by conv => lhs; whnf) ?_
  refine R.mkf (cs := [_]) rfl rfl ?_
  obtain ⟨r7, er7⟩ : ∃ r, r = (types_some_m a0 ((fun z0 => types_Has_1_m a1 z0))) := ⟨_, rfl⟩
  refine R.callp rfl rfl rfl (types_some_c _ _ a0 (ha0.mono sb3_1) _ (fun z0 => types_Has_1_m a1 z0) (fun H2 h2 z0 => types_Has_1_c H2 b3 (a1) (h2 _ _ hb3_1) z0) rfl) ?_
  intro v7 H7 s7 q7
  rw [← er7] at q7
  obtain ⟨u7_0_0, rfl, w7_0_0⟩ := q7
  have ts7 := some_len _ _ _ er7
  refine TL.nil (Post.thnN ?_)
  refine T.block ?_
  refine T.rangeFunc (xs := r7) rfl rfl (enters_of Try.func108 (by kernel_rfl) rfl) w7_0_0 (fun _ _ _ h => by subst h; rfl) rfl (fun pre H' L' => ∃ (bb4r1_0 : Bool), Has L' [[(b4, .cells #[.bool (bb4r1_0)] 4)]] ∧ types_Has_r1 (r7.drop pre.length) bb4r1_0 = types_Has_r1 r7 false) (fun c pre H' L' => c = .ret ∧ ∃ (bb4r1_0 : Bool), Has L' [[(b4, .cells #[.bool (bb4r1_0)] 4)]] ∧ types_Has_r1 r7 false = .ret bb4r1_0) (fun pre H H' L hle ⟨bb4r1_0, hL, hQ⟩ => ⟨bb4r1_0, hL, hQ⟩) (fun c pre H H' L hle ⟨hc, bb4r1_0, hL, hQ⟩ => ⟨hc, bb4r1_0, hL, hQ⟩) ?_ ?_ ?_ ?_
  · exact ⟨false, (Has.cons .hd Has.nil), (by rfl)⟩
  · intro lr1 rr1 wr1 prer1 yr1 vsr1 Hr1 Lr1 sr1 hpr1 hIr1 hYr1
    obtain ⟨bb4r1_0, hLr1, hQr1⟩ := hIr1
    obtain rfl := hYr1
    refine T.has hLr1 ?_
    have hlpr1 : prer1.length + 1 ≤ r7.length := by have h0 := hpr1.length_le; simpa using h0
    refine T.skip ?_
    refine onlyN.mk ?_
    refine T.block ?_
    refine T.seq ?_
    refine T.region ?_
    refine R.stX (old := [.bool (bb4r1_0)]) (l := [.bool true]) (new := [.bool true]) (et := 4) Try.sizeOf4 rfl rfl rfl (cells1 rfl) rfl (by show 0 + 1 ≤ 1; decide) rfl (all_one rfl) .hd ?_
    refine TL.nil (Post.thnN ?_)
    refine T.ret (Post.blkR ?_)
    exact ⟨rfl, true, (Has.cons .hd Has.nil), (by rw [← hQr1, drop_pre hpr1, types_Has_r1])⟩
  · intro Dr1 Hr1 Lr1 sr1 hIr1
    obtain ⟨bb4r1_0, hLr1, hQr1⟩ := hIr1
    have hEr1 : types_Has_r1 r7 false = .go bb4r1_0 := by rw [← hQr1, List.drop_length, types_Has_r1]
    refine id (Post.blkN ?_)
    refine id (Post.thnN ?_)
    refine T.has hLr1 ?_
    refine T.seq ?_
    refine T.region ?_
    refine R.stX (old := [.bool (bb4r1_0)]) (l := [.bool false]) (new := [.bool false]) (et := 4) Try.sizeOf4 rfl rfl rfl (cells1 rfl) rfl (by show 0 + 1 ≤ 1; decide) rfl (all_one rfl) .hd ?_
    refine TL.nil (Post.thnN ?_)
    refine T.has (Has.cons .hd Has.nil) ?_
    refine T.ret ?_
    have hM : types_Has_m a0 a1 = false := by subst er7; rw [types_Has_m, LR.seq_go, hEr1, LR.on_go]
    exact finR1 (v := .bool false) [] rfl (.cell1 Try.isAgg4 rfl .hd rfl) (List.sublist_append_left ([] : Own) _) ⟨rfl, by first | rw [hM] | rfl⟩
  · intro Dr1 cr1 prer1 yr1 Hr1 Lr1 sr1 hpr1 hIr1
    obtain ⟨rfl, bb4r1_0, hLr1, hXr1⟩ := hIr1
    refine T.has hLr1 ?_
    refine T.has (Has.cons .hd Has.nil) ?_
    refine T.ret (Post.blkR (Post.thnR ?_))
    have hM : types_Has_m a0 a1 = bb4r1_0 := by subst er7; rw [types_Has_m, LR.seq_go, hXr1, LR.on_ret]
    exact finR1 (v := .bool (bb4r1_0)) [] rfl (.cell1 Try.isAgg4 rfl .hd rfl) (List.sublist_append_left ([] : Own) _) ⟨rfl, by first | rw [hM] | rfl⟩

def windroselaw03_small_m  : (List Int) :=
  [(windroseref01_Made_m 4611686018427387904 0 2), (windroseref01_Made_m 9223372036854775808 2 7), (windroseref01_Made_m 9223372036854775808 3 7)]
set_option maxHeartbeats 3200000 in
theorem windroselaw03_small_c (H : Heap) : Fc Try.prog (fnv 44) [] H [] (fun v' H' L' => ∃ u0_0 c0_0, v' = u0_0 ∧ L' = [c0_0] ∧ OwnS (intE .u64) 26 H' u0_0 windroselaw03_small_m c0_0) := by
  refine Fc.of_body (N := 5) Try.func44 rfl (by kernel_rfl) rfl rfl ?_
  intro w0
  refine T.seq ?_
  refine T.region ?_
  refine R.asE rfl (by conv => lhs; whnf) ?_
  refine TL.nil (Post.thnN ?_)
  refine T.seq ?_
  refine T.region ?_
  refine R.callv rfl rfl rfl (windroseref01_Made_c _ (4611686018427387904) (0) (2)) ?_
  refine R.callv rfl rfl rfl (windroseref01_Made_c _ (9223372036854775808) (2) (7)) ?_
  refine R.callv rfl rfl rfl (windroseref01_Made_c _ (9223372036854775808) (3) (7)) ?_
  refine R.bsN [.int .u64 (windroseref01_Made_m 4611686018427387904 0 2), .int .u64 (windroseref01_Made_m 9223372036854775808 2 7), .int .u64 (windroseref01_Made_m 9223372036854775808 3 7)] rfl Try.underlying22 Try.sizeOf26 Try.zeroValue26 rfl rfl rfl rfl rfl rfl ?_
  intro b4
  have w4 : OwnS (intE .u64) 26 H (.slice (some ⟨b4, 0, none⟩) 3 3) [(windroseref01_Made_m 4611686018427387904 0 2), (windroseref01_Made_m 9223372036854775808 2 7), (windroseref01_Made_m 9223372036854775808 3 7)] [(b4, .cells #[.int .u64 (windroseref01_Made_m 4611686018427387904 0 2), .int .u64 (windroseref01_Made_m 9223372036854775808 2 7), .int .u64 (windroseref01_Made_m 9223372036854775808 3 7)] 26)] := OwnS.lit (xs := [(windroseref01_Made_m 4611686018427387904 0 2), (windroseref01_Made_m 9223372036854775808 2 7), (windroseref01_Made_m 9223372036854775808 3 7)]) (cellsOf_cons (a := [.int .u64 (windroseref01_Made_m 4611686018427387904 0 2)]) rfl (cellsOf_cons (a := [.int .u64 (windroseref01_Made_m 9223372036854775808 2 7)]) rfl (cellsOf_cons (a := [.int .u64 (windroseref01_Made_m 9223372036854775808 3 7)]) rfl cellsOf_nil))) (by show 3 ≤ maxLen; decide)
  refine R.asE rfl (by conv => lhs; whnf) ?_
  refine TL.nil (Post.thnN ?_)
  refine T.has (Has.cons .hd Has.nil) ?_
  refine T.ret ?_
  have hM : windroselaw03_small_m = [(windroseref01_Made_m 4611686018427387904 0 2), (windroseref01_Made_m 9223372036854775808 2 7), (windroseref01_Made_m 9223372036854775808 3 7)] := by rw [windroselaw03_small_m]
  exact fin1L (v := .slice (some ⟨b4, 0, none⟩) 3 3) [[(b4, .cells #[.int .u64 (windroseref01_Made_m 4611686018427387904 0 2), .int .u64 (windroseref01_Made_m 9223372036854775808 2 7), .int .u64 (windroseref01_Made_m 9223372036854775808 3 7)] 26)]] rfl rfl (List.Sublist.refl _) ⟨.slice (some ⟨b4, 0, none⟩) 3 3, [(b4, .cells #[.int .u64 (windroseref01_Made_m 4611686018427387904 0 2), .int .u64 (windroseref01_Made_m 9223372036854775808 2 7), .int .u64 (windroseref01_Made_m 9223372036854775808 3 7)] 26)], by first | rw [hM] | rfl, rfl, by rw [hM]; exact w4⟩

def windroselaw03_wakes_m  : Bool :=
  LR.seq (windroselaw03_small_m) (fun r8 => LR.seq (types_Of_m ([(r8.getD 2 (0 : Int)), (r8.getD 0 (0 : Int)), (r8.getD 1 (0 : Int)), (r8.getD 0 (0 : Int))])) (fun r23 => LR.seq (types_Without_m r23.1 (r8.getD 1 (0 : Int))) (fun r31 => LR.seq (types_Without_m r23.1 ((windroseref01_Made_m 4611686018427387904 0 3))) (fun r37 => if r23.2 = 0 then (if r31.2 = 0 then (if r37.2 = 4 then (if r23.1 = r8 then (if (r31.1.length : Int) = 2 then (if (types_Has_m r23.1 (r8.getD 1 (0 : Int))) = true then (LR.seq (types_Targets_m r23.1 2) (fun r69 => if r69 = [7] then (LR.seq (types_Taken_m r23.1 ((windroseref01_Made_m 9223372036854775808 0 7))) (fun r76 => (decide ((r76.length : Int) = 2)))) else false)) else false) else false) else false) else false) else false) else false))))
set_option maxHeartbeats 3200000 in
theorem windroselaw03_wakes_c (H : Heap) : Fv Try.prog (fnv 8) [] H (.bool windroselaw03_wakes_m) := by
  refine Fc.of_body (N := 80) Try.func8 rfl (by kernel_rfl) rfl rfl ?_
  intro w0
  refine T.seq ?_
  refine T.region ?_
  refine R.asE rfl (by conv => lhs; whnf) ?_
  refine TL.nil (Post.thnN ?_)
  refine T.seq ?_
  refine T.region ?_
  obtain ⟨r8, er8⟩ : ∃ r, r = windroselaw03_small_m := ⟨_, rfl⟩
  refine TL.call [] rfl rfl rfl (windroselaw03_small_c _ ) ?_
  intro v8 H8 L8 s8 q8
  rw [← er8] at q8
  obtain ⟨u8_0_0, c8_0_0, rfl, rfl, w8_0_0⟩ := q8
  obtain ⟨A8_0_0, p8_0_0, rfl, m8_0_0, n8_0_0⟩ := OwnS.shape w8_0_0
  have tz8 : r8.length = 3 := by rw [er8]; rfl
  refine TL.shut .hd ?_
  intro HF8_0_0_1 sF8_0_0_1 qF8_0_0_1
  have fF8_0_0_1 := OwnS.read w8_0_0 sF8_0_0_1 qF8_0_0_1
  refine R.asE rfl (by conv => lhs; whnf) ?_
  refine TL.nil (Post.thnN ?_)
  refine T.seq ?_
  refine T.draw Try_mixed (by kernel_rfl) ?_
  refine Plan.v 0 [1, 2, 3, 4, 5, 6, 7, 8, 9, 10, 11, 12, 13, 14, 15, 16, 17, 18] (by kernel_rfl) (by kernel_rfl) (by kernel_rfl) (by kernel_rfl) rfl (fun _ _ h_ => R.mvE rfl (by conv => lhs; whnf) (TL.nil h_)) ?_
  have hl11 : 2 < r8.length := by first | omega | (simp; done) | (simp; omega) | (simp at *; omega)
  obtain ⟨y11, e11, h11⟩ : ∃ y, y = (r8.getD 2 (0 : Int)) ∧ r8[2]? = some y := ⟨_, rfl, getD_get (by first | exact hl11 | simpa using hl11 | (simp only [List.length_set]; omega) | omega | (rw [(sortI_perm _).length_eq]; exact hl11))⟩
  obtain ⟨b11, o11, i11, k11⟩ := RdS.elem fF8_0_0_1 h11
  obtain ⟨l11, g11, k11⟩ := k11
  obtain rfl : l11 = [.int .u64 y11] := g11
  refine Plan.v 1 [2, 3, 4, 5, 6, 7, 8, 9, 10, 11, 12, 13, 14, 15, 16, 17, 18] (by kernel_rfl) (by kernel_rfl) (by kernel_rfl) (by kernel_rfl) rfl (fun _ _ h_ => R.ixp Try.underlying22 Try.sizeOf26 rfl rfl rfl (by first | omega | (simp; done) | (simp; omega) | (simp at *; omega)) i11 (TL.nil h_)) ?_
  refine Plan.v 2 [3, 4, 5, 6, 7, 8, 9, 10, 11, 12, 13, 14, 15, 16, 17, 18] (by kernel_rfl) (by kernel_rfl) (by kernel_rfl) (by kernel_rfl) rfl (fun _ _ h_ => R.ldC Try.isAgg26 rfl rfl (k11 0 _ rfl) (TL.nil h_)) ?_
  refine Plan.v 3 [4, 5, 6, 7, 8, 9, 10, 11, 12, 13, 14, 15, 16, 17, 18] (by kernel_rfl) (by kernel_rfl) (by kernel_rfl) (by kernel_rfl) rfl (fun _ _ h_ => R.mvE rfl (by conv => lhs; whnf) (TL.nil h_)) ?_
  have hl14 : 0 < r8.length := by first | omega | (simp; done) | (simp; omega) | (simp at *; omega)
  obtain ⟨y14, e14, h14⟩ : ∃ y, y = (r8.getD 0 (0 : Int)) ∧ r8[0]? = some y := ⟨_, rfl, getD_get (by first | exact hl14 | simpa using hl14 | (simp only [List.length_set]; omega) | omega | (rw [(sortI_perm _).length_eq]; exact hl14))⟩
  obtain ⟨b14, o14, i14, k14⟩ := RdS.elem fF8_0_0_1 h14
  obtain ⟨l14, g14, k14⟩ := k14
  obtain rfl : l14 = [.int .u64 y14] := g14
  refine Plan.v 4 [5, 6, 7, 8, 9, 10, 11, 12, 13, 14, 15, 16, 17, 18] (by kernel_rfl) (by kernel_rfl) (by kernel_rfl) (by kernel_rfl) rfl (fun _ _ h_ => R.ixp Try.underlying22 Try.sizeOf26 rfl rfl rfl (by first | omega | (simp; done) | (simp; omega) | (simp at *; omega)) i14 (TL.nil h_)) ?_
  refine Plan.v 5 [6, 7, 8, 9, 10, 11, 12, 13, 14, 15, 16, 17, 18] (by kernel_rfl) (by kernel_rfl) (by kernel_rfl) (by kernel_rfl) rfl (fun _ _ h_ => R.ldC Try.isAgg26 rfl rfl (k14 0 _ rfl) (TL.nil h_)) ?_
  refine Plan.v 6 [7, 8, 9, 10, 11, 12, 13, 14, 15, 16, 17, 18] (by kernel_rfl) (by kernel_rfl) (by kernel_rfl) (by kernel_rfl) rfl (fun _ _ h_ => R.mvE rfl (by conv => lhs; whnf) (TL.nil h_)) ?_
  have hl17 : 1 < r8.length := by first | omega | (simp; done) | (simp; omega) | (simp at *; omega)
  obtain ⟨y17, e17, h17⟩ : ∃ y, y = (r8.getD 1 (0 : Int)) ∧ r8[1]? = some y := ⟨_, rfl, getD_get (by first | exact hl17 | simpa using hl17 | (simp only [List.length_set]; omega) | omega | (rw [(sortI_perm _).length_eq]; exact hl17))⟩
  obtain ⟨b17, o17, i17, k17⟩ := RdS.elem fF8_0_0_1 h17
  obtain ⟨l17, g17, k17⟩ := k17
  obtain rfl : l17 = [.int .u64 y17] := g17
  refine Plan.v 7 [8, 9, 10, 11, 12, 13, 14, 15, 16, 17, 18] (by kernel_rfl) (by kernel_rfl) (by kernel_rfl) (by kernel_rfl) rfl (fun _ _ h_ => R.ixp Try.underlying22 Try.sizeOf26 rfl rfl rfl (by first | omega | (simp; done) | (simp; omega) | (simp at *; omega)) i17 (TL.nil h_)) ?_
  refine Plan.v 8 [9, 10, 11, 12, 13, 14, 15, 16, 17, 18] (by kernel_rfl) (by kernel_rfl) (by kernel_rfl) (by kernel_rfl) rfl (fun _ _ h_ => R.ldC Try.isAgg26 rfl rfl (k17 0 _ rfl) (TL.nil h_)) ?_
  refine Plan.v 9 [10, 11, 12, 13, 14, 15, 16, 17, 18] (by kernel_rfl) (by kernel_rfl) (by kernel_rfl) (by kernel_rfl) rfl (fun _ _ h_ => R.mvE rfl (by conv => lhs; whnf) (TL.nil h_)) ?_
  have hl20 : 0 < r8.length := by first | omega | (simp; done) | (simp; omega) | (simp at *; omega)
  obtain ⟨y20, e20, h20⟩ : ∃ y, y = (r8.getD 0 (0 : Int)) ∧ r8[0]? = some y := ⟨_, rfl, getD_get (by first | exact hl20 | simpa using hl20 | (simp only [List.length_set]; omega) | omega | (rw [(sortI_perm _).length_eq]; exact hl20))⟩
  obtain ⟨b20, o20, i20, k20⟩ := RdS.elem fF8_0_0_1 h20
  obtain ⟨l20, g20, k20⟩ := k20
  obtain rfl : l20 = [.int .u64 y20] := g20
  refine Plan.v 10 [11, 12, 13, 14, 15, 16, 17, 18] (by kernel_rfl) (by kernel_rfl) (by kernel_rfl) (by kernel_rfl) rfl (fun _ _ h_ => R.ixp Try.underlying22 Try.sizeOf26 rfl rfl rfl (by first | omega | (simp; done) | (simp; omega) | (simp at *; omega)) i20 (TL.nil h_)) ?_
  refine Plan.v 11 [12, 13, 14, 15, 16, 17, 18] (by kernel_rfl) (by kernel_rfl) (by kernel_rfl) (by kernel_rfl) rfl (fun _ _ h_ => R.ldC Try.isAgg26 rfl rfl (k20 0 _ rfl) (TL.nil h_)) ?_
  refine Plan.s1 12 [13, 14, 15, 16, 17, 18] (by kernel_rfl) (by kernel_rfl) rfl ?_
  refine R.bsN [.int .u64 y11, .int .u64 y14, .int .u64 y17, .int .u64 y20] rfl Try.underlying22 Try.sizeOf26 Try.zeroValue26 rfl rfl rfl rfl rfl rfl ?_
  intro b22
  have w22 : OwnS (intE .u64) 26 HF8_0_0_1 (.slice (some ⟨b22, 0, none⟩) 4 4) [y11, y14, y17, y20] [(b22, .cells #[.int .u64 y11, .int .u64 y14, .int .u64 y17, .int .u64 y20] 26)] := OwnS.lit (xs := [y11, y14, y17, y20]) (cellsOf_cons (a := [.int .u64 y11]) rfl (cellsOf_cons (a := [.int .u64 y14]) rfl (cellsOf_cons (a := [.int .u64 y17]) rfl (cellsOf_cons (a := [.int .u64 y20]) rfl cellsOf_nil)))) (by show 4 ≤ maxLen; decide)
  refine TL.nil (Plan.e1 (HLe.refl _) ?_)
  refine Plan.s1 13 [14, 15, 16, 17, 18] (by kernel_rfl) (by kernel_rfl) rfl ?_
  refine TL.shut .hd ?_
  intro HF22_3 sF22_3 qF22_3
  have fF22_3 := OwnS.read w22 sF22_3 qF22_3
  obtain ⟨r23, er23⟩ : ∃ r, r = (types_Of_m ([y11, y14, y17, y20])) := ⟨_, rfl⟩
  refine R.callp rfl rfl rfl (types_Of_c _ _ ([y11, y14, y17, y20]) fF22_3 (by first | omega | (simp; done) | (simp; omega) | (simp at *; omega))) ?_
  intro v23 H23 s23 q23
  rw [← er23] at q23
  obtain ⟨u23_0_0, rfl, w23_0_0⟩ := q23
  obtain ⟨A23_0_0, p23_0_0, rfl, m23_0_0, n23_0_0, w23_0_0⟩ := RdS.shape w23_0_0
  have tO23 := of_len _ _ er23
  refine TL.nil (Plan.e1 ((sF22_3.trans s23)) ?_)
  refine Plan.v 14 [15, 16, 17, 18] (by kernel_rfl) (by kernel_rfl) (by kernel_rfl) (by kernel_rfl) rfl (fun _ _ h_ => R.mvE rfl (by conv => lhs; whnf) (TL.nil h_)) ?_
  refine Plan.v 15 [16, 17, 18] (by kernel_rfl) (by kernel_rfl) (by kernel_rfl) (by kernel_rfl) rfl (fun _ _ h_ => R.ext rfl rfl rfl (TL.nil h_)) ?_
  refine Plan.v 16 [17, 18] (by kernel_rfl) (by kernel_rfl) (by kernel_rfl) (by kernel_rfl) rfl (fun _ _ h_ => R.ext rfl rfl rfl (TL.nil h_)) ?_
  refine Plan.v 17 [18] (by kernel_rfl) (by kernel_rfl) (by kernel_rfl) (by kernel_rfl) rfl (fun _ _ h_ => R.asE rfl (by conv => lhs; whnf) (TL.nil h_)) ?_
  refine Plan.v 18 [] (by kernel_rfl) (by kernel_rfl) (by kernel_rfl) (by kernel_rfl) rfl (fun _ _ h_ => R.asE rfl (by conv => lhs; whnf) (TL.nil h_)) ?_
  refine Plan.done (Post.thnN ?_)
  refine T.seq ?_
  refine T.region ?_
  refine R.mvE rfl (by conv => lhs; whnf) ?_
  refine R.mvE rfl (by conv => lhs; whnf) ?_
  have hl29 : 1 < r8.length := by first | omega | (simp; done) | (simp; omega) | (simp at *; omega)
  obtain ⟨y29, e29, h29⟩ : ∃ y, y = (r8.getD 1 (0 : Int)) ∧ r8[1]? = some y := ⟨_, rfl, getD_get (by first | exact hl29 | simpa using hl29 | (simp only [List.length_set]; omega) | omega | (rw [(sortI_perm _).length_eq]; exact hl29))⟩
  obtain ⟨b29, o29, i29, k29⟩ := RdS.elem (fF8_0_0_1.mono (sF22_3.trans s23)) h29
  obtain ⟨l29, g29, k29⟩ := k29
  obtain rfl : l29 = [.int .u64 y29] := g29
  refine R.ixp Try.underlying22 Try.sizeOf26 rfl rfl rfl (by first | omega | (simp; done) | (simp; omega) | (simp at *; omega)) i29 ?_
  refine R.ldC Try.isAgg26 rfl rfl (k29 0 _ rfl) ?_
  obtain ⟨r31, er31⟩ : ∃ r, r = (types_Without_m r23.1 y29) := ⟨_, rfl⟩
  refine TL.call [] rfl rfl rfl (types_Without_c _ _ r23.1 w23_0_0 (y29) (by first | omega | (simp; done) | (simp; omega) | (simp at *; omega))) ?_
  intro v31 H31 L31 s31 q31
  rw [← er31] at q31
  obtain ⟨u31_0_0, c31_0_0, rfl, rfl, w31_0_0⟩ := q31
  obtain ⟨A31_0_0, p31_0_0, rfl, m31_0_0, n31_0_0⟩ := OwnS.shape w31_0_0
  have tx31 := without_len _ _ _ er31
  refine R.mvE rfl (by conv => lhs; whnf) ?_
  refine R.ext rfl rfl rfl ?_
  refine R.ext rfl rfl rfl ?_
  refine R.asE rfl (by conv => lhs; whnf) ?_
  refine R.asE rfl (by conv => lhs; whnf) ?_
  refine TL.nil (Post.thnN ?_)
  refine T.seq ?_
  refine T.region ?_
  refine R.mvE rfl (by conv => lhs; whnf) ?_
  refine R.callv rfl rfl rfl (windroseref01_Made_c _ (4611686018427387904) (0) (3)) ?_
  obtain ⟨r37, er37⟩ : ∃ r, r = (types_Without_m r23.1 ((windroseref01_Made_m 4611686018427387904 0 3))) := ⟨_, rfl⟩
  refine TL.call [] rfl rfl rfl (types_Without_c _ _ r23.1 (w23_0_0.mono s31) ((windroseref01_Made_m 4611686018427387904 0 3)) (by first | omega | (simp; done) | (simp; omega) | (simp at *; omega))) ?_
  intro v37 H37 L37 s37 q37
  rw [← er37] at q37
  obtain ⟨u37_0_0, c37_0_0, rfl, rfl, w37_0_0⟩ := q37
  obtain ⟨A37_0_0, p37_0_0, rfl, m37_0_0, n37_0_0⟩ := OwnS.shape w37_0_0
  have tx37 := without_len _ _ _ er37
  refine R.mvE rfl (by conv => lhs; whnf) ?_
  refine R.ext rfl rfl rfl ?_
  refine R.ext rfl rfl rfl ?_
  refine R.asE rfl (by conv => lhs; whnf) ?_
  refine R.asE rfl (by conv => lhs; whnf) ?_
  refine TL.nil (Post.thnN ?_)
  refine T.seq ?_
  refine T.region ?_
  refine R.mvE rfl (by conv => lhs; whnf) ?_
  refine R.eql rfl rfl rfl ?_
  refine R.mvE rfl (by conv => lhs; whnf) ?_
  refine TL.gsplitD 42 rfl (fun g42 => ?_) (fun g42 => ?_)
  · refine R.mvE rfl (by conv => lhs; whnf) ?_
    refine R.eql rfl rfl rfl ?_
    refine R.pkTE rfl rfl (by conv => lhs; whnf) ?_
    refine R.mvE rfl (by conv => lhs; whnf) ?_
    refine TL.gsplitD 46 rfl (fun g46 => ?_) (fun g46 => ?_)
    · refine R.mvE rfl (by conv => lhs; whnf) ?_
      refine R.eql rfl rfl rfl ?_
      refine R.pkTE rfl rfl (by conv => lhs; whnf) ?_
      refine R.mvE rfl (by conv => lhs; whnf) ?_
      refine TL.gsplitD 50 rfl (fun g50 => ?_) (fun g50 => ?_)
      · refine R.mvE rfl (by conv => lhs; whnf) ?_
        refine R.mvE rfl (by conv => lhs; whnf) ?_
        refine R.callv rfl rfl rfl (slices_Equal_Id_d _ _ r23.1 (w23_0_0.mono (s31.trans s37)) _ r8 (fF8_0_0_1.mono (sF22_3.trans (s23.trans (s31.trans s37))))) ?_
        refine R.pkTE rfl rfl (by conv => lhs; whnf) ?_
        refine R.mvE rfl (by conv => lhs; whnf) ?_
        refine TL.gsplitD 55 rfl (fun g55 => ?_) (fun g55 => ?_)
        · refine R.mvE rfl (by conv => lhs; whnf) ?_
          refine R.len Try.underlying22 rfl rfl ?_
          refine R.eql rfl rfl rfl ?_
          refine R.pkTE rfl rfl (by conv => lhs; whnf) ?_
          refine R.mvE rfl (by conv => lhs; whnf) ?_
          refine TL.gsplitD 60 rfl (fun g60 => ?_) (fun g60 => ?_)
          · refine R.mvE rfl (by conv => lhs; whnf) ?_
            refine R.mvE rfl (by conv => lhs; whnf) ?_
            have hl63 : 1 < r8.length := by first | omega | (simp; done) | (simp; omega) | (simp at *; omega)
            obtain ⟨y63, e63, h63⟩ : ∃ y, y = (r8.getD 1 (0 : Int)) ∧ r8[1]? = some y := ⟨_, rfl, getD_get (by first | exact hl63 | simpa using hl63 | (simp only [List.length_set]; omega) | omega | (rw [(sortI_perm _).length_eq]; exact hl63))⟩
            obtain ⟨b63, o63, i63, k63⟩ := RdS.elem (fF8_0_0_1.mono (sF22_3.trans (s23.trans (s31.trans s37)))) h63
            obtain ⟨l63, g63, k63⟩ := k63
            obtain rfl : l63 = [.int .u64 y63] := g63
            refine R.ixp Try.underlying22 Try.sizeOf26 rfl rfl rfl (by first | omega | (simp; done) | (simp; omega) | (simp at *; omega)) i63 ?_
            refine R.ldC Try.isAgg26 rfl rfl (k63 0 _ rfl) ?_
            refine R.callv rfl rfl rfl (types_Has_c _ _ r23.1 (w23_0_0.mono (s31.trans s37)) (y63)) ?_
            refine R.pkTE rfl rfl (by conv => lhs; whnf) ?_
            refine R.mvE rfl (by conv => lhs; whnf) ?_
            refine TL.gsplit 67 rfl (fun g67 => ?_) (fun g67 => ?_)
            · refine R.mvE rfl (by conv => lhs; whnf) ?_
              obtain ⟨r69, er69⟩ : ∃ r, r = (types_Targets_m r23.1 2) := ⟨_, rfl⟩
              refine TL.call [] rfl rfl rfl (types_Targets_c _ _ r23.1 (w23_0_0.mono (s31.trans s37)) (2) (by first | omega | (simp; done) | (simp; omega) | (simp at *; omega))) ?_
              intro v69 H69 L69 s69 q69
              rw [← er69] at q69
              obtain ⟨u69_0_0, c69_0_0, rfl, rfl, w69_0_0⟩ := q69
              obtain ⟨A69_0_0, p69_0_0, rfl, m69_0_0, n69_0_0⟩ := OwnS.shape w69_0_0
              refine R.bs rfl (run_buildSlice1 Try.underlying37 Try.sizeOf3 Try.zeroValue3 rfl rfl) ?_
              intro b70
              have w70 : OwnS (intE .i64) 3 H69 (.slice (some ⟨b70, 0, none⟩) 1 1) [7] [(b70, .cells #[.int .i64 7] 3)] := OwnS.lit (xs := [7]) (cellsOf_cons (a := [.int .i64 7]) rfl cellsOf_nil) (by show 1 ≤ maxLen; decide)
              refine TL.shut (.tl .hd) ?_
              intro HF69_0_0_4 sF69_0_0_4 qF69_0_0_4
              have fF69_0_0_4 := OwnS.read w69_0_0 sF69_0_0_4 qF69_0_0_4
              refine TL.shut .hd ?_
              intro HF70_5 sF70_5 qF70_5
              have fF70_5 := OwnS.read (OwnS.mono w70 sF69_0_0_4) sF70_5 qF70_5
              refine R.callv rfl rfl rfl (slices_Equal_int_d _ _ r69 (fF69_0_0_4.mono sF70_5) _ ([7]) fF70_5) ?_
              refine R.pkTE rfl rfl (by conv => lhs; whnf) ?_
              refine R.mvE rfl (by conv => lhs; whnf) ?_
              refine TL.gsplitD 73 rfl (fun g73 => ?_) (fun g73 => ?_)
              · refine R.mvE rfl (by conv => lhs; whnf) ?_
                refine R.callv rfl rfl rfl (windroseref01_Made_c _ (9223372036854775808) (0) (7)) ?_
                obtain ⟨r76, er76⟩ : ∃ r, r = (types_Taken_m r23.1 ((windroseref01_Made_m 9223372036854775808 0 7))) := ⟨_, rfl⟩
                refine TL.call [] rfl rfl rfl (types_Taken_c _ _ r23.1 (w23_0_0.mono (s31.trans (s37.trans (s69.trans (sF69_0_0_4.trans sF70_5))))) ((windroseref01_Made_m 9223372036854775808 0 7)) (by first | omega | (simp; done) | (simp; omega) | (simp at *; omega))) ?_
                intro v76 H76 L76 s76 q76
                rw [← er76] at q76
                obtain ⟨u76_0_0, c76_0_0, rfl, rfl, w76_0_0⟩ := q76
                obtain ⟨A76_0_0, p76_0_0, rfl, m76_0_0, n76_0_0⟩ := OwnS.shape w76_0_0
                have tk76 := taken_len _ _ _ er76
                refine R.len Try.underlying22 rfl rfl ?_
                refine R.eql rfl rfl rfl ?_
                refine R.pkTE rfl rfl (by conv => lhs; whnf) ?_
                refine R.asE rfl (by conv => lhs; whnf) ?_
                refine TL.nil (Post.thnN ?_)
                refine T.has Has.nil ?_
                refine T.ret ?_
                have hM : windroselaw03_wakes_m = (decide ((r76.length : Int) = 2)) := by subst er76; subst er69; subst e63; subst er37; subst er31; subst e29; subst er23; subst e20; subst e17; subst e14; subst e11; subst er8; rw [windroselaw03_wakes_m, LR.seq_go, LR.seq_go, LR.seq_go, LR.seq_go, if_pos g42, if_pos g46, if_pos g50, if_pos g55, if_pos g60, if_t g67, LR.seq_go, if_pos g73, LR.seq_go]
                exact fin1L (v := .bool (decide ((r76.length : Int) = 2))) [] rfl rfl (List.Sublist.refl _) ⟨rfl, by first | rw [hM] | rfl⟩
              · refine TL.off rfl rfl rfl ?_
                refine TL.off rfl rfl rfl ?_
                refine TL.off rfl rfl rfl ?_
                refine TL.off rfl rfl rfl ?_
                refine TL.off rfl rfl rfl ?_
                refine R.pkFE rfl rfl (by conv => lhs; whnf) ?_
                refine R.asE rfl (by conv => lhs; whnf) ?_
                refine TL.nil (Post.thnN ?_)
                refine T.has Has.nil ?_
                refine T.ret ?_
                have hM : windroselaw03_wakes_m = false := by subst er69; subst e63; subst er37; subst er31; subst e29; subst er23; subst e20; subst e17; subst e14; subst e11; subst er8; rw [windroselaw03_wakes_m, LR.seq_go, LR.seq_go, LR.seq_go, LR.seq_go, if_pos g42, if_pos g46, if_pos g50, if_pos g55, if_pos g60, if_t g67, LR.seq_go, if_neg g73]
                exact fin1L (v := .bool false) [] rfl rfl (List.Sublist.refl _) ⟨rfl, by first | rw [hM] | rfl⟩
            · refine TL.off rfl rfl rfl ?_
              refine TL.off rfl rfl rfl ?_
              refine TL.off rfl rfl rfl ?_
              refine TL.off rfl rfl rfl ?_
              refine R.pkFE rfl rfl (by conv => lhs; whnf) ?_
              refine R.mvE rfl (by conv => lhs; whnf) ?_
              refine TL.off rfl rfl rfl ?_
              refine TL.off rfl rfl rfl ?_
              refine TL.off rfl rfl rfl ?_
              refine TL.off rfl rfl rfl ?_
              refine TL.off rfl rfl rfl ?_
              refine R.pkFE rfl rfl (by conv => lhs; whnf) ?_
              refine R.asE rfl (by conv => lhs; whnf) ?_
              refine TL.nil (Post.thnN ?_)
              refine T.has Has.nil ?_
              refine T.ret ?_
              have hM : windroselaw03_wakes_m = false := by subst e63; subst er37; subst er31; subst e29; subst er23; subst e20; subst e17; subst e14; subst e11; subst er8; rw [windroselaw03_wakes_m, LR.seq_go, LR.seq_go, LR.seq_go, LR.seq_go, if_pos g42, if_pos g46, if_pos g50, if_pos g55, if_pos g60, if_f g67]
              exact fin1L (v := .bool false) [] rfl rfl (List.Sublist.refl _) ⟨rfl, by first | rw [hM] | rfl⟩
          · refine TL.off rfl rfl rfl ?_
            refine TL.off rfl rfl rfl ?_
            refine TL.off rfl rfl rfl ?_
            refine TL.off rfl rfl rfl ?_
            refine TL.off rfl rfl rfl ?_
            refine R.pkFE rfl rfl (by conv => lhs; whnf) ?_
            refine R.mvE rfl (by conv => lhs; whnf) ?_
            refine TL.off rfl rfl rfl ?_
            refine TL.off rfl rfl rfl ?_
            refine TL.off rfl rfl rfl ?_
            refine TL.off rfl rfl rfl ?_
            refine R.pkFE rfl rfl (by conv => lhs; whnf) ?_
            refine R.mvE rfl (by conv => lhs; whnf) ?_
            refine TL.off rfl rfl rfl ?_
            refine TL.off rfl rfl rfl ?_
            refine TL.off rfl rfl rfl ?_
            refine TL.off rfl rfl rfl ?_
            refine TL.off rfl rfl rfl ?_
            refine R.pkFE rfl rfl (by conv => lhs; whnf) ?_
            refine R.asE rfl (by conv => lhs; whnf) ?_
            refine TL.nil (Post.thnN ?_)
            refine T.has Has.nil ?_
            refine T.ret ?_
            have hM : windroselaw03_wakes_m = false := by subst er37; subst er31; subst e29; subst er23; subst e20; subst e17; subst e14; subst e11; subst er8; rw [windroselaw03_wakes_m, LR.seq_go, LR.seq_go, LR.seq_go, LR.seq_go, if_pos g42, if_pos g46, if_pos g50, if_pos g55, if_neg g60]
            exact fin1L (v := .bool false) [] rfl rfl (List.Sublist.refl _) ⟨rfl, by first | rw [hM] | rfl⟩
        · refine TL.off rfl rfl rfl ?_
          refine TL.off rfl rfl rfl ?_
          refine TL.off rfl rfl rfl ?_
          refine R.pkFE rfl rfl (by conv => lhs; whnf) ?_
          refine R.mvE rfl (by conv => lhs; whnf) ?_
          refine TL.off rfl rfl rfl ?_
          refine TL.off rfl rfl rfl ?_
          refine TL.off rfl rfl rfl ?_
          refine TL.off rfl rfl rfl ?_
          refine TL.off rfl rfl rfl ?_
          refine R.pkFE rfl rfl (by conv => lhs; whnf) ?_
          refine R.mvE rfl (by conv => lhs; whnf) ?_
          refine TL.off rfl rfl rfl ?_
          refine TL.off rfl rfl rfl ?_
          refine TL.off rfl rfl rfl ?_
          refine TL.off rfl rfl rfl ?_
          refine R.pkFE rfl rfl (by conv => lhs; whnf) ?_
          refine R.mvE rfl (by conv => lhs; whnf) ?_
          refine TL.off rfl rfl rfl ?_
          refine TL.off rfl rfl rfl ?_
          refine TL.off rfl rfl rfl ?_
          refine TL.off rfl rfl rfl ?_
          refine TL.off rfl rfl rfl ?_
          refine R.pkFE rfl rfl (by conv => lhs; whnf) ?_
          refine R.asE rfl (by conv => lhs; whnf) ?_
          refine TL.nil (Post.thnN ?_)
          refine T.has Has.nil ?_
          refine T.ret ?_
          have hM : windroselaw03_wakes_m = false := by subst er37; subst er31; subst e29; subst er23; subst e20; subst e17; subst e14; subst e11; subst er8; rw [windroselaw03_wakes_m, LR.seq_go, LR.seq_go, LR.seq_go, LR.seq_go, if_pos g42, if_pos g46, if_pos g50, if_neg g55]
          exact fin1L (v := .bool false) [] rfl rfl (List.Sublist.refl _) ⟨rfl, by first | rw [hM] | rfl⟩
      · refine TL.off rfl rfl rfl ?_
        refine TL.off rfl rfl rfl ?_
        refine TL.off rfl rfl rfl ?_
        refine R.pkFE rfl rfl (by conv => lhs; whnf) ?_
        refine R.mvE rfl (by conv => lhs; whnf) ?_
        refine TL.off rfl rfl rfl ?_
        refine TL.off rfl rfl rfl ?_
        refine TL.off rfl rfl rfl ?_
        refine R.pkFE rfl rfl (by conv => lhs; whnf) ?_
        refine R.mvE rfl (by conv => lhs; whnf) ?_
        refine TL.off rfl rfl rfl ?_
        refine TL.off rfl rfl rfl ?_
        refine TL.off rfl rfl rfl ?_
        refine TL.off rfl rfl rfl ?_
        refine TL.off rfl rfl rfl ?_
        refine R.pkFE rfl rfl (by conv => lhs; whnf) ?_
        refine R.mvE rfl (by conv => lhs; whnf) ?_
        refine TL.off rfl rfl rfl ?_
        refine TL.off rfl rfl rfl ?_
        refine TL.off rfl rfl rfl ?_
        refine TL.off rfl rfl rfl ?_
        refine R.pkFE rfl rfl (by conv => lhs; whnf) ?_
        refine R.mvE rfl (by conv => lhs; whnf) ?_
        refine TL.off rfl rfl rfl ?_
        refine TL.off rfl rfl rfl ?_
        refine TL.off rfl rfl rfl ?_
        refine TL.off rfl rfl rfl ?_
        refine TL.off rfl rfl rfl ?_
        refine R.pkFE rfl rfl (by conv => lhs; whnf) ?_
        refine R.asE rfl (by conv => lhs; whnf) ?_
        refine TL.nil (Post.thnN ?_)
        refine T.has Has.nil ?_
        refine T.ret ?_
        have hM : windroselaw03_wakes_m = false := by subst er37; subst er31; subst e29; subst er23; subst e20; subst e17; subst e14; subst e11; subst er8; rw [windroselaw03_wakes_m, LR.seq_go, LR.seq_go, LR.seq_go, LR.seq_go, if_pos g42, if_pos g46, if_neg g50]
        exact fin1L (v := .bool false) [] rfl rfl (List.Sublist.refl _) ⟨rfl, by first | rw [hM] | rfl⟩
    · refine TL.off rfl rfl rfl ?_
      refine TL.off rfl rfl rfl ?_
      refine R.pkFE rfl rfl (by conv => lhs; whnf) ?_
      refine R.mvE rfl (by conv => lhs; whnf) ?_
      refine TL.off rfl rfl rfl ?_
      refine TL.off rfl rfl rfl ?_
      refine TL.off rfl rfl rfl ?_
      refine R.pkFE rfl rfl (by conv => lhs; whnf) ?_
      refine R.mvE rfl (by conv => lhs; whnf) ?_
      refine TL.off rfl rfl rfl ?_
      refine TL.off rfl rfl rfl ?_
      refine TL.off rfl rfl rfl ?_
      refine R.pkFE rfl rfl (by conv => lhs; whnf) ?_
      refine R.mvE rfl (by conv => lhs; whnf) ?_
      refine TL.off rfl rfl rfl ?_
      refine TL.off rfl rfl rfl ?_
      refine TL.off rfl rfl rfl ?_
      refine TL.off rfl rfl rfl ?_
      refine TL.off rfl rfl rfl ?_
      refine R.pkFE rfl rfl (by conv => lhs; whnf) ?_
      refine R.mvE rfl (by conv => lhs; whnf) ?_
      refine TL.off rfl rfl rfl ?_
      refine TL.off rfl rfl rfl ?_
      refine TL.off rfl rfl rfl ?_
      refine TL.off rfl rfl rfl ?_
      refine R.pkFE rfl rfl (by conv => lhs; whnf) ?_
      refine R.mvE rfl (by conv => lhs; whnf) ?_
      refine TL.off rfl rfl rfl ?_
      refine TL.off rfl rfl rfl ?_
      refine TL.off rfl rfl rfl ?_
      refine TL.off rfl rfl rfl ?_
      refine TL.off rfl rfl rfl ?_
      refine R.pkFE rfl rfl (by conv => lhs; whnf) ?_
      refine R.asE rfl (by conv => lhs; whnf) ?_
      refine TL.nil (Post.thnN ?_)
      refine T.has Has.nil ?_
      refine T.ret ?_
      have hM : windroselaw03_wakes_m = false := by subst er37; subst er31; subst e29; subst er23; subst e20; subst e17; subst e14; subst e11; subst er8; rw [windroselaw03_wakes_m, LR.seq_go, LR.seq_go, LR.seq_go, LR.seq_go, if_pos g42, if_neg g46]
      exact fin1L (v := .bool false) [] rfl rfl (List.Sublist.refl _) ⟨rfl, by first | rw [hM] | rfl⟩
  · refine TL.off rfl rfl rfl ?_
    refine TL.off rfl rfl rfl ?_
    refine R.pkFE rfl rfl (by conv => lhs; whnf) ?_
    refine R.mvE rfl (by conv => lhs; whnf) ?_
    refine TL.off rfl rfl rfl ?_
    refine TL.off rfl rfl rfl ?_
    refine R.pkFE rfl rfl (by conv => lhs; whnf) ?_
    refine R.mvE rfl (by conv => lhs; whnf) ?_
    refine TL.off rfl rfl rfl ?_
    refine TL.off rfl rfl rfl ?_
    refine TL.off rfl rfl rfl ?_
    refine R.pkFE rfl rfl (by conv => lhs; whnf) ?_
    refine R.mvE rfl (by conv => lhs; whnf) ?_
    refine TL.off rfl rfl rfl ?_
    refine TL.off rfl rfl rfl ?_
    refine TL.off rfl rfl rfl ?_
    refine R.pkFE rfl rfl (by conv => lhs; whnf) ?_
    refine R.mvE rfl (by conv => lhs; whnf) ?_
    refine TL.off rfl rfl rfl ?_
    refine TL.off rfl rfl rfl ?_
    refine TL.off rfl rfl rfl ?_
    refine TL.off rfl rfl rfl ?_
    refine TL.off rfl rfl rfl ?_
    refine R.pkFE rfl rfl (by conv => lhs; whnf) ?_
    refine R.mvE rfl (by conv => lhs; whnf) ?_
    refine TL.off rfl rfl rfl ?_
    refine TL.off rfl rfl rfl ?_
    refine TL.off rfl rfl rfl ?_
    refine TL.off rfl rfl rfl ?_
    refine R.pkFE rfl rfl (by conv => lhs; whnf) ?_
    refine R.mvE rfl (by conv => lhs; whnf) ?_
    refine TL.off rfl rfl rfl ?_
    refine TL.off rfl rfl rfl ?_
    refine TL.off rfl rfl rfl ?_
    refine TL.off rfl rfl rfl ?_
    refine TL.off rfl rfl rfl ?_
    refine R.pkFE rfl rfl (by conv => lhs; whnf) ?_
    refine R.asE rfl (by conv => lhs; whnf) ?_
    refine TL.nil (Post.thnN ?_)
    refine T.has Has.nil ?_
    refine T.ret ?_
    have hM : windroselaw03_wakes_m = false := by subst er37; subst er31; subst e29; subst er23; subst e20; subst e17; subst e14; subst e11; subst er8; rw [windroselaw03_wakes_m, LR.seq_go, LR.seq_go, LR.seq_go, LR.seq_go, if_neg g42]
    exact fin1L (v := .bool false) [] rfl rfl (List.Sublist.refl _) ⟨rfl, by first | rw [hM] | rfl⟩

def windroselaw03_few_m (a0 : List Int) : (List Int) :=
  (a0.take ((min a0.length 20)))
set_option maxHeartbeats 3200000 in
theorem windroselaw03_few_c (H : Heap) (va0 : Value) (a0 : List Int) (ha0 : RdS (intE .u64) H va0 a0) : Fc Try.prog (fnv 9) [va0] H [] (fun v' H' L' => ∃ u0_0 c0_0, v' = u0_0 ∧ L' = [c0_0] ∧ OwnS (intE .u64) 26 H' u0_0 (windroselaw03_few_m a0) c0_0) := by
  refine Fc.of_body (N := 9) Try.func9 rfl (by kernel_rfl) rfl rfl ?_
  intro w0
  obtain ⟨Aa0, ca0, rfl, hca0, hda0, ha0⟩ := ha0.shape
  refine T.seq ?_
  refine T.region ?_
  refine R.asE rfl (by conv => lhs; whnf) ?_
  refine TL.nil (Post.thnN ?_)
  refine T.seq ?_
  refine T.region ?_
  refine R.mvE rfl (by conv => lhs; whnf) ?_
  refine R.mvE rfl (by conv => lhs; whnf) ?_
  refine R.len Try.underlying22 rfl rfl ?_
  refine R.min2 rfl rfl rfl ?_
  refine TL.set 6 (.int .i64 ((min a0.length 20 : Nat) : Int)) (congrArg (Value.int .i64) (by split <;> omega)) ?_
  have z7 := RdS.takeC ha0 (i := (min a0.length 20)) (by omega) (by omega)
  obtain ⟨x7, e7⟩ : ∃ x, x = (a0.take ((min a0.length 20))) := ⟨_, rfl⟩
  rw [← e7] at z7
  obtain ⟨A7, p7, q7, m7, n7, r7⟩ := RdS.shape z7
  have t7 : x7.length ≤ a0.length := by rw [e7]; simp; try omega
  have t7_ : x7.length = min ((min a0.length 20)) a0.length := by rw [e7]; simp
  refine R.sH Try.underlying22 Try.sizeOf26 rfl rfl rfl (by omega) (by omega)  ?_
  refine TL.set 7 (.slice A7 x7.length p7) (by first | exact q7 | (rw [← q7]; simp; done) | (rw [← q7]; rfl)) ?_
  refine TL.call [] rfl rfl rfl (clone22_c _ _ x7 r7 (by first | omega | (simp; done) | (simp; omega) | (simp at *; omega))) ?_
  intro v8 H8 L8 s8 q8
  obtain ⟨c8, rfl, w8⟩ := q8
  obtain ⟨x8, e8⟩ : ∃ x, x = x7 := ⟨_, rfl⟩
  rw [← e8] at w8
  obtain ⟨A8, p8, rfl, m8, n8⟩ := OwnS.shape w8
  have t8 : x8.length = x7.length := by rw [e8]
  refine R.asE rfl (by conv => lhs; whnf) ?_
  refine TL.nil (Post.thnN ?_)
  refine T.has (Has.cons .hd Has.nil) ?_
  refine T.ret ?_
  have hM : windroselaw03_few_m a0 = x8 := by subst e8; subst e7; rw [windroselaw03_few_m]
  exact fin1L (v := .slice A8 x8.length p8) [c8] rfl rfl (List.Sublist.refl _) ⟨.slice A8 x8.length p8, c8, by first | rw [hM] | rfl, rfl, by rw [hM]; exact w8⟩

end Go.SX

set_option linter.unusedVariables false
set_option linter.unusedSimpArgs false
namespace Go.SX
open Go
theorem within_go (a b : Int) : ∀ l : List Int, ident_within_l2 a b l true = withinB a b l
  | [] => rfl
  | y :: ys => by
    rw [ident_within_l2]
    simp only [LR.seq, withinB, List.all_cons]
    by_cases h1 : a ≤ y
    · by_cases h2 : y ≤ b
      · simp [h1, h2, within_go a b ys, withinB]
      · simp [h1, h2]
    · simp [h1]
theorem within_eq (a b : Int) (l : List Int) : ident_within_m a b l = withinB a b l := by
  unfold ident_within_m; simp only [LR.seq]; exact within_go a b l
theorem within2 {a b n m : Int} : ident_within_m a b [n, m] = true ↔ (a ≤ n ∧ n ≤ b) ∧ (a ≤ m ∧ m ≤ b) := by
  rw [within_eq]; simp [withinB]
end Go.SX

set_option linter.unusedVariables false
set_option linter.unusedSimpArgs false
namespace Go.SX
open Go
theorem halves_i {x : Int} (h : U x) : ident_halves_m x = (hA x, hB x) := by unfold ident_halves_m; rw [halfA_eq h, halfB_eq h]
theorem packed_i {m a b : Int} (hm : m = 0 ∨ m = 4611686018427387904 ∨ m = 9223372036854775808) (ha : 0 ≤ a ∧ a < 1073741824) (hb : 0 ≤ b ∧ b < 1073741824) : ident_packed_m m a b = made m a b := by unfold ident_packed_m; exact pack_eq hm ha hb
theorem ite_d {p : Prop} [Decidable p] (b : Bool) : (if p then b else false) = (decide p && b) := by by_cases h : p <;> simp [h]
theorem ite_b (a b : Bool) : (if a = true then b else false) = (a && b) := by cases a <;> simp
theorem kind_i {x : Int} (h : U x) : kindG x = kindI x := by
  have hA' := hA_rng x
  have hB' := hB_rng x
  have e1 : kbG x 1 = kb x 1 := by
    unfold kbG kb identKind1_m
    rw [halves_i h]
    simp only
    rw [packed_i (.inl rfl) hA' hB', within_eq, within_eq, ite_b, ite_d, Bool.and_assoc]
  have e2 : kbG x 2 = kb x 2 := by
    unfold kbG kb identKind2_m
    rw [halves_i h]
    simp only
    rw [packed_i (.inr (.inl rfl)) ⟨by omega, by omega⟩ hB', within_eq, ite_d]
  have e3 : kbG x 3 = kb x 3 := by
    unfold kbG kb identKind3_m
    rw [halves_i h]
    simp only
    rw [packed_i (.inr (.inr rfl)) hA' hB', within_eq, ite_d]
  have e4 : kbG x 4 = kb x 4 := by
    unfold kbG kb identKind4_m
    rw [halves_i h]
    simp only
    rw [packed_i (.inr (.inr rfl)) hA' hB', within_eq, ite_d]
  unfold kindG kindI
  rw [e1, e2, e3, e4]
theorem parts_i {x : Int} (h : U x) : ident_Parts_m x = partsI x := by
  unfold ident_Parts_m partsI
  rw [halves_i h, kind_i h]
  simp only [LR.seq]
  by_cases h1 : kindI x = 1
  · simp [h1]
  · by_cases h2 : kindI x = 2
    · simp [h2]
    · by_cases h3 : kindI x = 3
      · simp [h3]
      · by_cases h4 : kindI x = 4
        · simp [h4]
        · simp [h1, h2, h3, h4]
end Go.SX

set_option linter.unusedVariables false
set_option linter.unusedSimpArgs false
namespace Go.SX
open Go
theorem adj_up {l : List Int} (h : ∀ i, i + 1 < l.length → l.getD i 0 < l.getD (i + 1) 0) : l.Pairwise (· < ·) := by
  rw [List.pairwise_iff_getElem]
  have key : ∀ (d i : Nat), i + d + 1 < l.length → l.getD i 0 < l.getD (i + d + 1) 0 := by
    intro d
    induction d with
    | zero => intro i hi; exact h i hi
    | succ d ih => intro i hi; exact Int.lt_trans (ih i (by omega)) (h (i + d + 1) (by omega))
  intro i j hi hj hij
  have := key (j - i - 1) i (by omega)
  rw [show i + (j - i - 1) + 1 = j by omega, List.getD_eq_getElem?_getD, List.getD_eq_getElem?_getD, List.getElem?_eq_getElem hi, List.getElem?_eq_getElem hj] at this
  exact this
theorem tcheck_l2 (a : List Int) : ∀ (xs : List Int) (k : Nat) (b : Bool), types_Check_l2 a xs k b = true → (b = true ∨ xs = []) ∧ ((xs = [] → b = true) ∧ ∀ (i : Nat) (y : Int), xs[i]? = some y → types_may_m y = true ∧ (k + i = 0 ∨ a.getD (k + i - 1) 0 < y))
  | [], k, b, h => ⟨.inr rfl, fun _ => h, fun i y hy => by simp at hy⟩
  | x :: xs, k, b, h => by
    rw [types_Check_l2, LR.seq_go] at h
    cases hb : (if b = true then (if types_may_m x = true then (if (k : Int) = 0 then true else decide (a.getD (((k : Int) - 1)).toNat 0 < x)) else false) else false) with
    | false => rw [hb] at h; cases h
    | true =>
      rw [hb, if_neg (by decide)] at h
      have ih := tcheck_l2 a xs (k + 1) true h
      have hb1 : b = true := by cases b with | true => rfl | false => simp at hb
      have hm : types_may_m x = true := by
        cases hm : types_may_m x with
        | true => rfl
        | false => rw [hb1, hm] at hb; simp at hb
      rw [if_pos hb1, if_pos hm] at hb
      refine ⟨.inl hb1, fun h => (by simp at h), fun i y hy => ?_⟩
      cases i with
      | zero =>
        obtain rfl : x = y := by simpa using hy
        refine ⟨hm, ?_⟩
        by_cases h0 : k = 0
        · exact .inl (by omega)
        · rw [if_neg (by omega)] at hb
          have := of_decide_eq_true hb
          rw [show ((k : Int) - 1).toNat = k + 0 - 1 by omega] at this
          exact .inr this
      | succ i =>
        obtain ⟨q1, q2⟩ := ih.2.2 i y (by simpa using hy)
        refine ⟨q1, .inr ?_⟩
        rcases q2 with q2 | q2
        · omega
        · rw [show k + (i + 1) - 1 = k + 1 + i - 1 by omega]; exact q2
theorem tcheck_ok {l : List Int} (h : types_Check_m l = 0) : l.length ≤ 12 ∧ l.Pairwise (· < ·) ∧ ∀ y ∈ l, types_may_m y = true := by
  unfold types_Check_m at h
  simp only [LR.seq_go] at h
  cases hb : types_Check_l2 l l 0 (decide ((l.length : Int) ≤ 12)) with
  | false => rw [hb] at h; simp at h
  | true =>
    have q := tcheck_l2 l l 0 _ hb
    refine ⟨?_, adj_up (fun i hi => ?_), fun y hy => ?_⟩
    · rcases q.1 with q1 | q1
      · have := of_decide_eq_true q1; omega
      · rw [q1]; exact Nat.zero_le _
    · rcases (q.2.2 (i + 1) (l.getD (i + 1) 0) (by rw [List.getD_eq_getElem?_getD, List.getElem?_eq_getElem hi]; rfl)).2 with q1 | q1
      · omega
      · rw [show 0 + (i + 1) - 1 = i by omega] at q1; exact q1
    · obtain ⟨i, hi⟩ := List.mem_iff_getElem?.1 hy
      exact (q.2.2 i y hi).1
theorem made_halves {a b : Int} (ha : 0 ≤ a ∧ a < 1073741824) (hb : 0 ≤ b ∧ b < 1073741824) : U (made 9223372036854775808 a b) ∧ hA (made 9223372036854775808 a b) = a ∧ hB (made 9223372036854775808 a b) = b := by
  unfold made hA hB
  refine ⟨⟨by omega, by omega⟩, by omega, by omega⟩
theorem kind_pair {x : Int} (hu : U x) : kindI x = 3 ↔ x = made 9223372036854775808 (hA x) (hB x) ∧ (1 ≤ hA x ∧ hA x ≤ 1048578) ∧ (1 ≤ hB x ∧ hB x ≤ 1048578) := by
  unfold kindI kb withinB
  simp only [List.all_cons, List.all_nil, Bool.and_true, Bool.and_eq_true, decide_eq_true_eq]
  constructor
  · intro h
    split at h
    · cases h
    · split at h
      · cases h
      · split at h
        · rename_i h3; exact ⟨h3.1, h3.2.1, h3.2.2⟩
        · split at h <;> cases h
  · rintro ⟨h1, h2, h3⟩
    rw [if_neg, if_neg, if_pos ⟨h1, h2, h3⟩]
    · intro q; have := q.1; unfold made at this h1; omega
    · intro q; have := q.1.1; unfold made at this h1; omega
theorem kind_pat {a b : Int} (ha : 0 ≤ a ∧ a ≤ 1048578) (hb : 0 ≤ b ∧ b ≤ 1048578) (h : a = 0 ∨ b = 0) : kindI (made 9223372036854775808 a b) = 4 := by
  obtain ⟨hu, h1, h2⟩ := made_halves (a := a) (b := b) ⟨ha.1, by omega⟩ ⟨hb.1, by omega⟩
  unfold kindI kb withinB
  rw [h1, h2]
  simp only [List.all_cons, List.all_nil, Bool.and_true, Bool.and_eq_true, decide_eq_true_eq]
  rw [if_neg, if_neg, if_neg, if_pos (by simp only [true_and]; exact ⟨ha, hb⟩)]
  · intro q; omega
  · intro q; have := q.1; unfold made at this; omega
  · intro q; have := q.1.1; unfold made at this; omega
theorem pair_ok {a b : Int} (ha : 0 ≤ a ∧ a ≤ 1048578) (hb : 0 ≤ b ∧ b ≤ 1048578) : ident_Pair_m a b = (made 9223372036854775808 a b, 0) := by
  unfold ident_Pair_m
  rw [within2.2 ⟨ha, hb⟩, Bool.not_true, if_neg Bool.false_ne_true, packed_i (.inr (.inr rfl)) ⟨ha.1, by omega⟩ ⟨hb.1, by omega⟩]
theorem pair_no {a b : Int} (h : ¬ ((0 ≤ a ∧ a ≤ 1048578) ∧ (0 ≤ b ∧ b ≤ 1048578))) : ident_Pair_m a b = (0, 2) := by
  unfold ident_Pair_m
  rw [if_pos]
  cases e : ident_within_m 0 1048578 [a, b] with
  | false => rfl
  | true => exact absurd (within2.1 e) h
/-- is it a pair? -/
def pairB (y : Int) : Bool := decide (kindI y = 3)
theorem takes_pat {a b y : Int} (ha : 0 ≤ a ∧ a ≤ 1048578) (hb : 0 ≤ b ∧ b ≤ 1048578) (h : a = 0 ∨ b = 0) (hy : U y) :
    ident_Takes_m (made 9223372036854775808 a b) y = (pairB y && ((decide (a = 0) || decide (a = hA y)) && (decide (b = 0) || decide (b = hB y)))) := by
  obtain ⟨hu, h1, h2⟩ := made_halves (a := a) (b := b) ⟨ha.1, by omega⟩ ⟨hb.1, by omega⟩
  unfold ident_Takes_m pairB
  rw [kind_i hu, kind_pat ha hb h, if_neg (fun q => q rfl), kind_i hy, halves_i hu, halves_i hy, h1, h2]
  simp only [LR.seq_go]
  by_cases hk : kindI y = 3
  · rw [if_neg (fun q => q hk), decide_eq_true hk, Bool.true_and]
    by_cases e1 : a = 0 <;> by_cases e2 : b = 0 <;> by_cases e3 : a = hA y <;> simp [e1, e2, e3]
  · rw [if_pos hk, decide_eq_false hk, Bool.false_and]
theorem mentions_eq (l : List Int) (n : Int) : types_Mentions_m l n = if types_Check_m l = 0 then l.filter (fun y => types_pairs_1_m (fun z0 z1 => types_Mentions_1_m n z0 z1) y) else [] := by
  unfold types_Mentions_m types_pairs_m types_gather_Id_m
  simp only [LR.seq_go]
  rw [gather_eq, some_eq, List.nil_append]
  have e : ∀ (q : List Int), q.map (fun z0 => types_self_m z0) = q := fun q => by
    rw [show (fun z0 => types_self_m z0) = (fun z : Int => z) from rfl, List.map_id']
  rw [e]
theorem gather_int (g : Int → Int) : ∀ (l a : List Int), types_gather_int_r1 g l a = a ++ l.map g
  | [], a => by simp [types_gather_int_r1]
  | y :: ys, a => by rw [types_gather_int_r1, gather_int g ys]; simp
theorem targets_eq (l : List Int) (n : Int) : types_Targets_m l n = (if types_Check_m l = 0 then l.filter (fun y => types_pairs_1_m (fun z0 z1 => types_Targets_1_m n z0 z1) y) else []).map (fun y => (ident_Parts_m y).2) := by
  unfold types_Targets_m types_pairs_m types_gather_int_m
  simp only [LR.seq_go]
  rw [gather_int, some_eq, List.nil_append]; rfl
theorem parts_pair {y : Int} (hy : U y) (h : kindI y = 3) : ident_Parts_m y = (hA y, hB y) := by
  rw [parts_i hy]; unfold partsI
  rw [if_neg (by omega), if_pos (.inl h)]
theorem pairs1 {y : Int} (hy : U y) (g : Int → Int → Bool) : types_pairs_1_m g y = (pairB y && g (hA y) (hB y)) := by
  unfold types_pairs_1_m pairB
  rw [LR.seq_go, kind_i hy]
  by_cases h : kindI y = 3
  · rw [if_pos h, decide_eq_true h, Bool.true_and, parts_pair hy h]
  · rw [if_neg h, decide_eq_false h, Bool.false_and]
end Go.SX

set_option linter.unusedVariables false
set_option linter.unusedSimpArgs false
namespace Go.SX
open Go Go.Proofs

end Go.SX

set_option linter.unusedVariables false
set_option linter.unusedSimpArgs false
namespace Go.SX
open Go Go.Proofs

def slices_insertionSortOrdered_Id_l2 (a1 : Int) : Nat → (Int × (List Int)) → Int × (List Int)
  | 0, _ => default
  | ml2 + 1, sl2 => LR.seq (if a1 < sl2.1 then ((cmp_Less_Id_m (sl2.2.getD sl2.1.toNat (0 : Int)) (sl2.2.getD (((sl2.1 - 1)).toNat) (0 : Int)))) else false : Bool) (fun sc3 => if sc3 = true then (slices_insertionSortOrdered_Id_l2 a1 ml2 (((sl2.1 - 1), (((sl2.2.set sl2.1.toNat (sl2.2.getD (((sl2.1 - 1)).toNat) (0 : Int)))).set (((sl2.1 - 1)).toNat) (sl2.2.getD sl2.1.toNat (0 : Int)))))) else ((sl2.1, sl2.2)))
def slices_insertionSortOrdered_Id_l1 (a1 : Int) (a2 : Int) : Nat → (Int × (List Int)) → Int × (List Int)
  | 0, _ => default
  | ml1 + 1, sl1 => if sl1.1 < a2 then (LR.seq (slices_insertionSortOrdered_Id_l2 a1 ((sl1.1 - a1).toNat + 1) ((sl1.1, sl1.2))) (fun ol2 => slices_insertionSortOrdered_Id_l1 a1 a2 ml1 (((sl1.1 + 1), ol2.2)))) else ((sl1.1, sl1.2))
def slices_insertionSortOrdered_Id_m (a0 : List Int) (a1 : Int) (a2 : Int) : (List Int) :=
  LR.seq (slices_insertionSortOrdered_Id_l1 a1 a2 ((a2 - ((a1 + 1))).toNat + 1) (((a1 + 1), a0))) (fun ol1 => ol1.2)
set_option maxHeartbeats 3200000 in
theorem slices_insertionSortOrdered_Id_c (H : Heap) (va0 : Value) (a0 : List Int) (Ca0 : Chunk) (ha0 : OwnS (intE .u64) 26 H va0 a0 Ca0) (a1 : Int) (a2 : Int) (h1 : 0 ≤ a1) (h2 : a1 ≤ a2) (h3 : a2 ≤ (a0.length : Int)) (hl : a0.length ≤ 4000000) : Fc Try.prog (fnv 110) [va0, .int .i64 a1, .int .i64 a2] H [Ca0] (fun v' H' L' => ∃ Da0, v' = .tuple #[] ∧ L' = [Da0] ∧ OwnS (intE .u64) 26 H' va0 (slices_insertionSortOrdered_Id_m a0 a1 a2) Da0) := by
  refine Fc.of_body (N := 49) Try.func110 rfl (by kernel_rfl) rfl rfl ?_
  intro w0
  obtain ⟨Aa0, pa0, rfl, ma0, na0⟩ := OwnS.shape ha0
  refine T.seq ?_
  refine T.region ?_
  refine R.mvE rfl (by conv => lhs; whnf) ?_
  refine R.addI rfl rfl rfl (by omega) ?_
  refine R.asE rfl (by conv => lhs; whnf) ?_
  refine TL.nil (Post.thnN ?_)
  refine T.block ?_
  refine T.loop (ι := Nat × Int × (List Int) × Chunk) (fun ⟨kl1, n6l1, xPa0l1, cPa0l1⟩ H' L' ds' => (a2 - n6l1).toNat < kl1 ∧ Has L' [cPa0l1] ∧ OwnS (intE .u64) 26 H' (.slice Aa0 a0.length pa0) xPa0l1 cPa0l1 ∧ a1 ≤ n6l1 ∧ n6l1 ≤ a2 + 1 ∧ slices_insertionSortOrdered_Id_l1 a1 a2 kl1 ((n6l1, xPa0l1)) = slices_insertionSortOrdered_Id_l1 a1 a2 ((a2 - ((a1 + 1))).toNat + 1) (((a1 + 1), a0))) (fun ⟨kl1, n6l1, xPa0l1, cPa0l1⟩ => [(0, .slice Aa0 a0.length pa0), (1, .int .i64 a1), (2, .int .i64 a2), (6, .int .i64 n6l1)]) (fun ⟨kl1, n6l1, xPa0l1, cPa0l1⟩ => kl1) (((a2 - ((a1 + 1))).toNat + 1), (a1 + 1), a0, Ca0) ?_ ?_ ?_
  · exact ⟨(by omega), (Has.cons .hd Has.nil), ha0, (by first | omega | (simp; done) | (simp; omega) | (simp at *; omega)), (by first | omega | (simp; done) | (simp; omega) | (simp at *; omega)), (by rfl)⟩
  · exact ⟨rfl, rfl, rfl, rfl, trivial⟩
  · intro ⟨kl1, n6l1, xPa0l1, cPa0l1⟩ σ_l1 H_l1 L_l1 ds_l1 s_l1 hI_l1
    obtain ⟨hkl1, hI_l1⟩ := hI_l1
    obtain ⟨ml1, rfl⟩ : ∃ m, kl1 = m + 1 := ⟨kl1 - 1, by omega⟩
    obtain ⟨hLl1, wPa0l1, hBl1_0, hBl1_1, hQl1⟩ := hI_l1
    have nPa0l1_ := OwnS.len wPa0l1
    refine T.has hLl1 ?_
    refine T.seq ?_
    refine T.seq ?_
    refine T.region ?_
    refine R.mvE rfl (by conv => lhs; whnf) ?_
    refine R.mvE rfl (by conv => lhs; whnf) ?_
    refine R.lss rfl rfl rfl ?_
    refine TL.nil (Post.thnN ?_)
    refine T.condD rfl (fun c12 => ?_) (fun c12 => ?_)
    · refine T.set 12 (.bool true) (congrArg Value.bool (decide_eq_true c12)) ?_
      refine T.skip (Post.thnN ?_)
      refine T.seq ?_
      refine T.block ?_
      refine T.seq ?_
      refine T.region ?_
      refine R.mvE rfl (by conv => lhs; whnf) ?_
      refine R.asE rfl (by conv => lhs; whnf) ?_
      refine TL.nil (Post.thnN ?_)
      refine T.block ?_
      refine T.loop (ι := Nat × Int × (List Int) × Chunk) (fun ⟨kl2, n7l2, xPa0l2, cPa0l2⟩ H' L' ds' => (n7l2 - a1).toNat < kl2 ∧ Has L' [cPa0l2] ∧ OwnS (intE .u64) 26 H' (.slice Aa0 a0.length pa0) xPa0l2 cPa0l2 ∧ a1 ≤ n7l2 ∧ n7l2 < a2 ∧ slices_insertionSortOrdered_Id_l2 a1 kl2 ((n7l2, xPa0l2)) = slices_insertionSortOrdered_Id_l2 a1 ((n6l1 - a1).toNat + 1) ((n6l1, xPa0l1))) (fun ⟨kl2, n7l2, xPa0l2, cPa0l2⟩ => [(0, .slice Aa0 a0.length pa0), (1, .int .i64 a1), (2, .int .i64 a2), (6, .int .i64 n6l1), (7, .int .i64 n7l2)]) (fun ⟨kl2, n7l2, xPa0l2, cPa0l2⟩ => kl2) (((n6l1 - a1).toNat + 1), n6l1, xPa0l1, cPa0l1) ?_ ?_ ?_
      · exact ⟨(by omega), (Has.cons .hd Has.nil), wPa0l1, (by first | omega | (simp; done) | (simp; omega) | (simp at *; omega)), (by first | omega | (simp; done) | (simp; omega) | (simp at *; omega)), (by rfl)⟩
      · exact ⟨rfl, rfl, rfl, rfl, rfl, trivial⟩
      · intro ⟨kl2, n7l2, xPa0l2, cPa0l2⟩ σ_l2 H_l2 L_l2 ds_l2 s_l2 hI_l2
        obtain ⟨hkl2, hI_l2⟩ := hI_l2
        obtain ⟨ml2, rfl⟩ : ∃ m, kl2 = m + 1 := ⟨kl2 - 1, by omega⟩
        obtain ⟨hLl2, wPa0l2, hBl2_0, hBl2_1, hQl2⟩ := hI_l2
        have nPa0l2_ := OwnS.len wPa0l2
        refine T.has hLl2 ?_
        refine T.seq ?_
        refine T.seq ?_
        refine T.cutK (ι := Bool) (fun b30c3 H' L' ds' => Has L' [cPa0l2] ∧ (if a1 < n7l2 then ((cmp_Less_Id_m (xPa0l2.getD n7l2.toNat (0 : Int)) (xPa0l2.getD (((n7l2 - 1)).toNat) (0 : Int)))) else false : Bool) = b30c3) (fun b30c3 => [(0, .slice Aa0 a0.length pa0), (1, .int .i64 a1), (2, .int .i64 a2), (6, .int .i64 n6l1), (7, .int .i64 n7l2), (30, .bool (b30c3))]) ?_ ?_
        · refine T.draw Try_mixed (by kernel_rfl) ?_
          refine Plan.v 0 [1, 2, 3, 4, 5, 6, 7, 8, 9, 10, 11, 12, 13, 14] (by kernel_rfl) (by kernel_rfl) (by kernel_rfl) (by kernel_rfl) rfl (fun _ _ h_ => R.mvE rfl (by conv => lhs; whnf) (TL.nil h_)) ?_
          refine Plan.v 1 [2, 3, 4, 5, 6, 7, 8, 9, 10, 11, 12, 13, 14] (by kernel_rfl) (by kernel_rfl) (by kernel_rfl) (by kernel_rfl) rfl (fun _ _ h_ => R.mvE rfl (by conv => lhs; whnf) (TL.nil h_)) ?_
          refine Plan.v 2 [3, 4, 5, 6, 7, 8, 9, 10, 11, 12, 13, 14] (by kernel_rfl) (by kernel_rfl) (by kernel_rfl) (by kernel_rfl) rfl (fun _ _ h_ => R.gtr rfl rfl rfl (TL.nil h_)) ?_
          refine Plan.v 3 [4, 5, 6, 7, 8, 9, 10, 11, 12, 13, 14] (by kernel_rfl) (by kernel_rfl) (by kernel_rfl) (by kernel_rfl) rfl (fun _ _ h_ => R.mvE rfl (by conv => lhs; whnf) (TL.nil h_)) ?_
          refine Plan.gsplitD 19 rfl (fun g19 => ?_) (fun g19 => ?_)
          · refine Plan.v 4 [5, 6, 7, 8, 9, 10, 11, 12, 13, 14] (by kernel_rfl) (by kernel_rfl) (by kernel_rfl) (by kernel_rfl) rfl (fun _ _ h_ => R.mvE rfl (by conv => lhs; whnf) (TL.nil h_)) ?_
            refine Plan.v 5 [6, 7, 8, 9, 10, 11, 12, 13, 14] (by kernel_rfl) (by kernel_rfl) (by kernel_rfl) (by kernel_rfl) rfl (fun _ _ h_ => R.mvE rfl (by conv => lhs; whnf) (TL.nil h_)) ?_
            have hl22 : n7l2.toNat < a0.length := by first | omega | (simp; done) | (simp; omega) | (simp at *; omega)
            obtain ⟨y22, e22, h22⟩ : ∃ y, y = (xPa0l2.getD n7l2.toNat (0 : Int)) ∧ xPa0l2[n7l2.toNat]? = some y := ⟨_, rfl, getD_get (by first | exact hl22 | simpa using hl22 | (simp only [List.length_set]; omega) | omega | (rw [(sortI_perm _).length_eq]; exact hl22))⟩
            obtain ⟨b22, u22, cs22, l22, f22, j22, i22, g22, k22⟩ := OwnS.elem wPa0l2 h22
            obtain rfl : l22 = [.int .u64 y22] := g22
            refine Plan.v 6 [7, 8, 9, 10, 11, 12, 13, 14] (by kernel_rfl) (by kernel_rfl) (by kernel_rfl) (by kernel_rfl) rfl (fun _ _ h_ => R.ixp (sz := ((intE .u64)).size) Try.underlying22 Try.sizeOf26 rfl rfl rfl (by first | omega | (simp; done) | (simp; omega) | (simp at *; omega)) i22 (TL.nil h_)) ?_
            refine Plan.v 8 [7, 9, 10, 11, 12, 13, 14] (by kernel_rfl) (by kernel_rfl) (by kernel_rfl) (by kernel_rfl) rfl (fun _ _ h_ => R.mvE rfl (by conv => lhs; whnf) (TL.nil h_)) ?_
            refine Plan.v 9 [7, 10, 11, 12, 13, 14] (by kernel_rfl) (by kernel_rfl) (by kernel_rfl) (by kernel_rfl) rfl (fun _ _ h_ => R.mvE rfl (by conv => lhs; whnf) (TL.nil h_)) ?_
            refine Plan.v 10 [7, 11, 12, 13, 14] (by kernel_rfl) (by kernel_rfl) (by kernel_rfl) (by kernel_rfl) rfl (fun _ _ h_ => R.subI rfl rfl rfl (by omega) (TL.nil h_)) ?_
            have hl27 : ((n7l2 - 1)).toNat < a0.length := by first | omega | (simp; done) | (simp; omega) | (simp at *; omega)
            obtain ⟨y27, e27, h27⟩ : ∃ y, y = (xPa0l2.getD (((n7l2 - 1)).toNat) (0 : Int)) ∧ xPa0l2[((n7l2 - 1)).toNat]? = some y := ⟨_, rfl, getD_get (by first | exact hl27 | simpa using hl27 | (simp only [List.length_set]; omega) | omega | (rw [(sortI_perm _).length_eq]; exact hl27))⟩
            obtain ⟨b27, u27, cs27, l27, f27, j27, i27, g27, k27⟩ := OwnS.elem wPa0l2 h27
            obtain rfl : l27 = [.int .u64 y27] := g27
            refine Plan.v 11 [7, 12, 13, 14] (by kernel_rfl) (by kernel_rfl) (by kernel_rfl) (by kernel_rfl) rfl (fun _ _ h_ => R.ixp (sz := ((intE .u64)).size) Try.underlying22 Try.sizeOf26 rfl rfl rfl (by first | omega | (simp; done) | (simp; omega) | (simp at *; omega)) i27 (TL.nil h_)) ?_
            refine Plan.s2 7 12 [12, 13, 14] [7, 13, 14] (by kernel_rfl) (by kernel_rfl) (by kernel_rfl) rfl rfl ?_ ?_
            · refine R.ld Try.isAgg26 rfl rfl (by rw [← f22]; exact .hd) (k22 0 _ rfl) ?_
              refine TL.nil (Plan.e1 (HLe.refl _) ?_)
              refine Plan.s1 12 [13, 14] (by kernel_rfl) (by kernel_rfl) rfl ?_
              refine R.ld Try.isAgg26 rfl rfl (by rw [← f27]; exact .hd) (k27 0 _ rfl) ?_
              refine TL.nil (Plan.e1 (HLe.refl _) ?_)
              refine Plan.v 13 [14] (by kernel_rfl) (by kernel_rfl) (by kernel_rfl) (by kernel_rfl) rfl (fun _ _ h_ => R.callv rfl rfl rfl (cmp_Less_Id_c _ (y22) (y27)) (TL.nil h_)) ?_
              refine Plan.v 14 [] (by kernel_rfl) (by kernel_rfl) (by kernel_rfl) (by kernel_rfl) rfl (fun _ _ h_ => R.pkTE rfl rfl (by conv => lhs; whnf) (TL.nil h_)) ?_
              refine Plan.done (Post.thnN ?_)
              exact ⟨(cmp_Less_Id_m y22 y27), HLe.refl _, ⟨(Has.cons .hd Has.nil), (by subst e27; subst e22; rw [if_pos g19])⟩, rfl, rfl, rfl, rfl, rfl, rfl, trivial⟩
            · refine R.ld Try.isAgg26 rfl rfl (by rw [← f27]; exact .hd) (k27 0 _ rfl) ?_
              refine TL.nil (Plan.e1 (HLe.refl _) ?_)
              refine Plan.s1 7 [13, 14] (by kernel_rfl) (by kernel_rfl) rfl ?_
              refine R.ld Try.isAgg26 rfl rfl (by rw [← f22]; exact .hd) (k22 0 _ rfl) ?_
              refine TL.nil (Plan.e1 (HLe.refl _) ?_)
              refine Plan.v 13 [14] (by kernel_rfl) (by kernel_rfl) (by kernel_rfl) (by kernel_rfl) rfl (fun _ _ h_ => R.callv rfl rfl rfl (cmp_Less_Id_c _ (y22) (y27)) (TL.nil h_)) ?_
              refine Plan.v 14 [] (by kernel_rfl) (by kernel_rfl) (by kernel_rfl) (by kernel_rfl) rfl (fun _ _ h_ => R.pkTE rfl rfl (by conv => lhs; whnf) (TL.nil h_)) ?_
              refine Plan.done (Post.thnN ?_)
              exact ⟨(cmp_Less_Id_m y22 y27), HLe.refl _, ⟨(Has.cons .hd Has.nil), (by subst e27; subst e22; rw [if_pos g19])⟩, rfl, rfl, rfl, rfl, rfl, rfl, trivial⟩
          · refine Plan.v 4 [5, 6, 7, 8, 9, 10, 11, 12, 13, 14] (by kernel_rfl) (by kernel_rfl) (by kernel_rfl) (by kernel_rfl) rfl (fun _ _ h_ => TL.off rfl rfl rfl (TL.nil h_)) ?_
            refine Plan.v 5 [6, 7, 8, 9, 10, 11, 12, 13, 14] (by kernel_rfl) (by kernel_rfl) (by kernel_rfl) (by kernel_rfl) rfl (fun _ _ h_ => TL.off rfl rfl rfl (TL.nil h_)) ?_
            refine Plan.v 6 [7, 8, 9, 10, 11, 12, 13, 14] (by kernel_rfl) (by kernel_rfl) (by kernel_rfl) (by kernel_rfl) rfl (fun _ _ h_ => TL.off rfl rfl rfl (TL.nil h_)) ?_
            refine Plan.v 7 [8, 9, 10, 11, 12, 13, 14] (by kernel_rfl) (by kernel_rfl) (by kernel_rfl) (by kernel_rfl) rfl (fun _ _ h_ => TL.off rfl rfl rfl (TL.nil h_)) ?_
            refine Plan.v 8 [9, 10, 11, 12, 13, 14] (by kernel_rfl) (by kernel_rfl) (by kernel_rfl) (by kernel_rfl) rfl (fun _ _ h_ => TL.off rfl rfl rfl (TL.nil h_)) ?_
            refine Plan.v 9 [10, 11, 12, 13, 14] (by kernel_rfl) (by kernel_rfl) (by kernel_rfl) (by kernel_rfl) rfl (fun _ _ h_ => TL.off rfl rfl rfl (TL.nil h_)) ?_
            refine Plan.v 10 [11, 12, 13, 14] (by kernel_rfl) (by kernel_rfl) (by kernel_rfl) (by kernel_rfl) rfl (fun _ _ h_ => TL.off rfl rfl rfl (TL.nil h_)) ?_
            refine Plan.v 11 [12, 13, 14] (by kernel_rfl) (by kernel_rfl) (by kernel_rfl) (by kernel_rfl) rfl (fun _ _ h_ => TL.off rfl rfl rfl (TL.nil h_)) ?_
            refine Plan.v 12 [13, 14] (by kernel_rfl) (by kernel_rfl) (by kernel_rfl) (by kernel_rfl) rfl (fun _ _ h_ => TL.off rfl rfl rfl (TL.nil h_)) ?_
            refine Plan.v 13 [14] (by kernel_rfl) (by kernel_rfl) (by kernel_rfl) (by kernel_rfl) rfl (fun _ _ h_ => TL.off rfl rfl rfl (TL.nil h_)) ?_
            refine Plan.v 14 [] (by kernel_rfl) (by kernel_rfl) (by kernel_rfl) (by kernel_rfl) rfl (fun _ _ h_ => R.pkFE rfl rfl (by conv => lhs; whnf) (TL.nil h_)) ?_
            refine Plan.done (Post.thnN ?_)
            exact ⟨false, HLe.refl _, ⟨(Has.cons .hd Has.nil), (by rw [if_neg g19])⟩, rfl, rfl, rfl, rfl, rfl, rfl, trivial⟩
        · intro b30c3 σ_c3 H_c3 L_c3 ds_c3 s_c3 hI_c3
          obtain ⟨hLc3, hTc3⟩ := hI_c3
          refine T.has hLc3 ?_
          refine T.cond rfl (fun c30 => ?_) (fun c30 => ?_)
          · refine T.set 30 (.bool true) (congrArg Value.bool c30) ?_
            have hZ30 := hTc3.trans c30
            try simp only [or_f, or_t, and_f, and_t, decide_eq_true_eq, decide_eq_false_iff_not, Bool.not_eq_true'] at hZ30
            refine T.skip (Post.thnN ?_)
            refine T.seq ?_
            refine T.block ?_
            refine T.draw Try_mixed (by kernel_rfl) ?_
            refine Plan.v 0 [1, 2, 3, 4, 5, 6, 7, 8, 9, 10, 11, 12, 13, 14, 15, 16, 17] (by kernel_rfl) (by kernel_rfl) (by kernel_rfl) (by kernel_rfl) rfl (fun _ _ h_ => R.mvE rfl (by conv => lhs; whnf) (TL.nil h_)) ?_
            refine Plan.v 1 [2, 3, 4, 5, 6, 7, 8, 9, 10, 11, 12, 13, 14, 15, 16, 17] (by kernel_rfl) (by kernel_rfl) (by kernel_rfl) (by kernel_rfl) rfl (fun _ _ h_ => R.mvE rfl (by conv => lhs; whnf) (TL.nil h_)) ?_
            refine Plan.v 2 [3, 4, 5, 6, 7, 8, 9, 10, 11, 12, 13, 14, 15, 16, 17] (by kernel_rfl) (by kernel_rfl) (by kernel_rfl) (by kernel_rfl) rfl (fun _ _ h_ => R.mvE rfl (by conv => lhs; whnf) (TL.nil h_)) ?_
            refine Plan.v 3 [4, 5, 6, 7, 8, 9, 10, 11, 12, 13, 14, 15, 16, 17] (by kernel_rfl) (by kernel_rfl) (by kernel_rfl) (by kernel_rfl) rfl (fun _ _ h_ => R.mvE rfl (by conv => lhs; whnf) (TL.nil h_)) ?_
            refine Plan.v 4 [5, 6, 7, 8, 9, 10, 11, 12, 13, 14, 15, 16, 17] (by kernel_rfl) (by kernel_rfl) (by kernel_rfl) (by kernel_rfl) rfl (fun _ _ h_ => R.subI rfl rfl rfl (by omega) (TL.nil h_)) ?_
            refine Plan.v 5 [6, 7, 8, 9, 10, 11, 12, 13, 14, 15, 16, 17] (by kernel_rfl) (by kernel_rfl) (by kernel_rfl) (by kernel_rfl) rfl (fun _ _ h_ => R.mvE rfl (by conv => lhs; whnf) (TL.nil h_)) ?_
            refine Plan.v 6 [7, 8, 9, 10, 11, 12, 13, 14, 15, 16, 17] (by kernel_rfl) (by kernel_rfl) (by kernel_rfl) (by kernel_rfl) rfl (fun _ _ h_ => R.mvE rfl (by conv => lhs; whnf) (TL.nil h_)) ?_
            refine Plan.v 7 [8, 9, 10, 11, 12, 13, 14, 15, 16, 17] (by kernel_rfl) (by kernel_rfl) (by kernel_rfl) (by kernel_rfl) rfl (fun _ _ h_ => R.subI rfl rfl rfl (by omega) (TL.nil h_)) ?_
            have hl41 : ((n7l2 - 1)).toNat < a0.length := by first | omega | (simp; done) | (simp; omega) | (simp at *; omega)
            obtain ⟨y41, e41, h41⟩ : ∃ y, y = (xPa0l2.getD (((n7l2 - 1)).toNat) (0 : Int)) ∧ xPa0l2[((n7l2 - 1)).toNat]? = some y := ⟨_, rfl, getD_get (by first | exact hl41 | simpa using hl41 | (simp only [List.length_set]; omega) | omega | (rw [(sortI_perm _).length_eq]; exact hl41))⟩
            obtain ⟨b41, u41, cs41, l41, f41, j41, i41, g41, k41⟩ := OwnS.elem (OwnS.mono wPa0l2 s_c3) h41
            obtain rfl : l41 = [.int .u64 y41] := g41
            refine Plan.v 8 [9, 10, 11, 12, 13, 14, 15, 16, 17] (by kernel_rfl) (by kernel_rfl) (by kernel_rfl) (by kernel_rfl) rfl (fun _ _ h_ => R.ixp (sz := ((intE .u64)).size) Try.underlying22 Try.sizeOf26 rfl rfl rfl (by first | omega | (simp; done) | (simp; omega) | (simp at *; omega)) i41 (TL.nil h_)) ?_
            refine Plan.v 10 [9, 11, 12, 13, 14, 15, 16, 17] (by kernel_rfl) (by kernel_rfl) (by kernel_rfl) (by kernel_rfl) rfl (fun _ _ h_ => R.mvE rfl (by conv => lhs; whnf) (TL.nil h_)) ?_
            refine Plan.v 11 [9, 12, 13, 14, 15, 16, 17] (by kernel_rfl) (by kernel_rfl) (by kernel_rfl) (by kernel_rfl) rfl (fun _ _ h_ => R.mvE rfl (by conv => lhs; whnf) (TL.nil h_)) ?_
            have hl45 : n7l2.toNat < a0.length := by first | omega | (simp; done) | (simp; omega) | (simp at *; omega)
            obtain ⟨y45, e45, h45⟩ : ∃ y, y = (xPa0l2.getD n7l2.toNat (0 : Int)) ∧ xPa0l2[n7l2.toNat]? = some y := ⟨_, rfl, getD_get (by first | exact hl45 | simpa using hl45 | (simp only [List.length_set]; omega) | omega | (rw [(sortI_perm _).length_eq]; exact hl45))⟩
            obtain ⟨b45, u45, cs45, l45, f45, j45, i45, g45, k45⟩ := OwnS.elem (OwnS.mono wPa0l2 s_c3) h45
            obtain rfl : l45 = [.int .u64 y45] := g45
            refine Plan.v 12 [9, 13, 14, 15, 16, 17] (by kernel_rfl) (by kernel_rfl) (by kernel_rfl) (by kernel_rfl) rfl (fun _ _ h_ => R.ixp (sz := ((intE .u64)).size) Try.underlying22 Try.sizeOf26 rfl rfl rfl (by first | omega | (simp; done) | (simp; omega) | (simp at *; omega)) i45 (TL.nil h_)) ?_
            refine Plan.s2 9 13 [13, 14, 15, 16, 17] [9, 14, 15, 16, 17] (by kernel_rfl) (by kernel_rfl) (by kernel_rfl) rfl rfl ?_ ?_
            · refine R.ld Try.isAgg26 rfl rfl (by rw [← f41]; exact .hd) (k41 0 _ rfl) ?_
              refine TL.nil (Plan.e1 (HLe.refl _) ?_)
              refine Plan.s1 13 [14, 15, 16, 17] (by kernel_rfl) (by kernel_rfl) rfl ?_
              refine R.ld Try.isAgg26 rfl rfl (by rw [← f45]; exact .hd) (k45 0 _ rfl) ?_
              refine TL.nil (Plan.e1 (HLe.refl _) ?_)
              have hl47 : n7l2.toNat < a0.length := by first | omega | (simp; done) | (simp; omega) | (simp at *; omega)
              obtain ⟨y47, e47, h47⟩ : ∃ y, y = (xPa0l2.getD n7l2.toNat (0 : Int)) ∧ xPa0l2[n7l2.toNat]? = some y := ⟨_, rfl, getD_get (by first | exact hl47 | simpa using hl47 | (simp only [List.length_set]; omega) | omega | (rw [(sortI_perm _).length_eq]; exact hl47))⟩
              obtain ⟨b47, u47, cs47, l47, f47, j47, i47, g47, k47⟩ := OwnS.elem (OwnS.mono wPa0l2 s_c3) h47
              obtain rfl : l47 = [.int .u64 y47] := g47
              refine Plan.v 14 [15, 16, 17] (by kernel_rfl) (by kernel_rfl) (by kernel_rfl) (by kernel_rfl) rfl (fun _ _ h_ => R.ixp (sz := ((intE .u64)).size) Try.underlying22 Try.sizeOf26 rfl rfl rfl (by first | omega | (simp; done) | (simp; omega) | (simp at *; omega)) i47 (TL.nil h_)) ?_
              refine Plan.s1 15 [16, 17] (by kernel_rfl) (by kernel_rfl) rfl ?_
              refine R.stEF (E := (intE .u64)) (e := 26) (v := (.slice Aa0 a0.length pa0)) (m := [.int .u64 y41]) (o := 0) (y := y47) (y' := y41) (j := n7l2.toNat) Try.sizeOf26 rfl (OwnS.mono wPa0l2 s_c3) .hd i47 rfl rfl (cells1 rfl) (all_one rfl) h47 (by show 0 + 1 ≤ 1; decide) (fun l hl => by have e0 : l = [.int .u64 y47] := hl; subst e0; exact rfl) ?_
              intro cst23 wst23
              refine TL.nil (Plan.e0 (HLe.refl _) ?_)
              have hl48 : ((n7l2 - 1)).toNat < a0.length := by first | omega | (simp; done) | (simp; omega) | (simp at *; omega)
              obtain ⟨y48, e48, h48⟩ : ∃ y, y = (((xPa0l2.set n7l2.toNat y41)).getD (((n7l2 - 1)).toNat) (0 : Int)) ∧ ((xPa0l2.set n7l2.toNat y41))[((n7l2 - 1)).toNat]? = some y := ⟨_, rfl, getD_get (by first | exact hl48 | simpa using hl48 | (simp only [List.length_set]; omega) | omega | (rw [(sortI_perm _).length_eq]; exact hl48))⟩
              obtain ⟨b48, u48, cs48, l48, f48, j48, i48, g48, k48⟩ := OwnS.elem wst23 h48
              obtain rfl : l48 = [.int .u64 y48] := g48
              refine Plan.v 16 [17] (by kernel_rfl) (by kernel_rfl) (by kernel_rfl) (by kernel_rfl) rfl (fun _ _ h_ => R.ixp (sz := ((intE .u64)).size) Try.underlying22 Try.sizeOf26 rfl rfl rfl (by first | omega | (simp; done) | (simp; omega) | (simp at *; omega)) i48 (TL.nil h_)) ?_
              refine Plan.s1 17 [] (by kernel_rfl) (by kernel_rfl) rfl ?_
              refine R.stEF (E := (intE .u64)) (e := 26) (v := (.slice Aa0 a0.length pa0)) (m := [.int .u64 y45]) (o := 0) (y := y48) (y' := y45) (j := ((n7l2 - 1)).toNat) Try.sizeOf26 rfl wst23 .hd i48 rfl rfl (cells1 rfl) (all_one rfl) h48 (by show 0 + 1 ≤ 1; decide) (fun l hl => by have e0 : l = [.int .u64 y48] := hl; subst e0; exact rfl) ?_
              intro cst24 wst24
              refine TL.nil (Plan.e0 (HLe.refl _) ?_)
              refine Plan.done (Post.blkN ?_)
              refine id (Post.thnN ?_)
              refine T.region ?_
              refine R.mvE rfl (by conv => lhs; whnf) ?_
              refine R.subI rfl rfl rfl (by omega) ?_
              refine R.asE rfl (by conv => lhs; whnf) ?_
              refine TL.nil (Post.thnN ?_)
              exact ⟨(ml2, (n7l2 - 1), (((xPa0l2.set n7l2.toNat y41)).set (((n7l2 - 1)).toNat) y45), cst24), (s_l2.trans s_c3), ⟨(by first | omega | (simp; omega) | (simp at *; omega)), (Has.cons .hd Has.nil), wst24, (by first | omega | (simp; done) | (simp; omega) | (simp at *; omega)), (by first | omega | (simp; done) | (simp; omega) | (simp at *; omega)), (by subst e48; subst e47; subst e45; subst e41; rw [← hQl2, slices_insertionSortOrdered_Id_l2]; rw [hTc3, LR.seq_go, if_t c30])⟩, by show ml2 < ml2 + 1; omega, rfl, rfl, rfl, rfl, rfl, trivial⟩
            · refine R.ld Try.isAgg26 rfl rfl (by rw [← f45]; exact .hd) (k45 0 _ rfl) ?_
              refine TL.nil (Plan.e1 (HLe.refl _) ?_)
              refine Plan.s1 9 [14, 15, 16, 17] (by kernel_rfl) (by kernel_rfl) rfl ?_
              refine R.ld Try.isAgg26 rfl rfl (by rw [← f41]; exact .hd) (k41 0 _ rfl) ?_
              refine TL.nil (Plan.e1 (HLe.refl _) ?_)
              have hl47 : n7l2.toNat < a0.length := by first | omega | (simp; done) | (simp; omega) | (simp at *; omega)
              obtain ⟨y47, e47, h47⟩ : ∃ y, y = (xPa0l2.getD n7l2.toNat (0 : Int)) ∧ xPa0l2[n7l2.toNat]? = some y := ⟨_, rfl, getD_get (by first | exact hl47 | simpa using hl47 | (simp only [List.length_set]; omega) | omega | (rw [(sortI_perm _).length_eq]; exact hl47))⟩
              obtain ⟨b47, u47, cs47, l47, f47, j47, i47, g47, k47⟩ := OwnS.elem (OwnS.mono wPa0l2 s_c3) h47
              obtain rfl : l47 = [.int .u64 y47] := g47
              refine Plan.v 14 [15, 16, 17] (by kernel_rfl) (by kernel_rfl) (by kernel_rfl) (by kernel_rfl) rfl (fun _ _ h_ => R.ixp (sz := ((intE .u64)).size) Try.underlying22 Try.sizeOf26 rfl rfl rfl (by first | omega | (simp; done) | (simp; omega) | (simp at *; omega)) i47 (TL.nil h_)) ?_
              refine Plan.s1 15 [16, 17] (by kernel_rfl) (by kernel_rfl) rfl ?_
              refine R.stEF (E := (intE .u64)) (e := 26) (v := (.slice Aa0 a0.length pa0)) (m := [.int .u64 y41]) (o := 0) (y := y47) (y' := y41) (j := n7l2.toNat) Try.sizeOf26 rfl (OwnS.mono wPa0l2 s_c3) .hd i47 rfl rfl (cells1 rfl) (all_one rfl) h47 (by show 0 + 1 ≤ 1; decide) (fun l hl => by have e0 : l = [.int .u64 y47] := hl; subst e0; exact rfl) ?_
              intro cst25 wst25
              refine TL.nil (Plan.e0 (HLe.refl _) ?_)
              have hl48 : ((n7l2 - 1)).toNat < a0.length := by first | omega | (simp; done) | (simp; omega) | (simp at *; omega)
              obtain ⟨y48, e48, h48⟩ : ∃ y, y = (((xPa0l2.set n7l2.toNat y41)).getD (((n7l2 - 1)).toNat) (0 : Int)) ∧ ((xPa0l2.set n7l2.toNat y41))[((n7l2 - 1)).toNat]? = some y := ⟨_, rfl, getD_get (by first | exact hl48 | simpa using hl48 | (simp only [List.length_set]; omega) | omega | (rw [(sortI_perm _).length_eq]; exact hl48))⟩
              obtain ⟨b48, u48, cs48, l48, f48, j48, i48, g48, k48⟩ := OwnS.elem wst25 h48
              obtain rfl : l48 = [.int .u64 y48] := g48
              refine Plan.v 16 [17] (by kernel_rfl) (by kernel_rfl) (by kernel_rfl) (by kernel_rfl) rfl (fun _ _ h_ => R.ixp (sz := ((intE .u64)).size) Try.underlying22 Try.sizeOf26 rfl rfl rfl (by first | omega | (simp; done) | (simp; omega) | (simp at *; omega)) i48 (TL.nil h_)) ?_
              refine Plan.s1 17 [] (by kernel_rfl) (by kernel_rfl) rfl ?_
              refine R.stEF (E := (intE .u64)) (e := 26) (v := (.slice Aa0 a0.length pa0)) (m := [.int .u64 y45]) (o := 0) (y := y48) (y' := y45) (j := ((n7l2 - 1)).toNat) Try.sizeOf26 rfl wst25 .hd i48 rfl rfl (cells1 rfl) (all_one rfl) h48 (by show 0 + 1 ≤ 1; decide) (fun l hl => by have e0 : l = [.int .u64 y48] := hl; subst e0; exact rfl) ?_
              intro cst26 wst26
              refine TL.nil (Plan.e0 (HLe.refl _) ?_)
              refine Plan.done (Post.blkN ?_)
              refine id (Post.thnN ?_)
              refine T.region ?_
              refine R.mvE rfl (by conv => lhs; whnf) ?_
              refine R.subI rfl rfl rfl (by omega) ?_
              refine R.asE rfl (by conv => lhs; whnf) ?_
              refine TL.nil (Post.thnN ?_)
              exact ⟨(ml2, (n7l2 - 1), (((xPa0l2.set n7l2.toNat y41)).set (((n7l2 - 1)).toNat) y45), cst26), (s_l2.trans s_c3), ⟨(by first | omega | (simp; omega) | (simp at *; omega)), (Has.cons .hd Has.nil), wst26, (by first | omega | (simp; done) | (simp; omega) | (simp at *; omega)), (by first | omega | (simp; done) | (simp; omega) | (simp at *; omega)), (by subst e48; subst e47; subst e45; subst e41; rw [← hQl2, slices_insertionSortOrdered_Id_l2]; rw [hTc3, LR.seq_go, if_t c30])⟩, by show ml2 < ml2 + 1; omega, rfl, rfl, rfl, rfl, rfl, trivial⟩
          · refine T.set 30 (.bool false) (congrArg Value.bool c30) ?_
            have hZ30 := hTc3.trans c30
            try simp only [or_f, or_t, and_f, and_t, decide_eq_true_eq, decide_eq_false_iff_not, Bool.not_eq_true'] at hZ30
            refine T.exit (Post.thnE (Post.thnE (Post.blkX ?_)))
            have hEl2 : slices_insertionSortOrdered_Id_l2 a1 ((n6l1 - a1).toNat + 1) ((n6l1, xPa0l1)) = (n7l2, xPa0l2) := (by rw [← hQl2, slices_insertionSortOrdered_Id_l2]; rw [hTc3, LR.seq_go, if_f c30])
            refine id (Post.blkN ?_)
            refine id (Post.thnN ?_)
            refine T.region ?_
            refine R.mvE rfl (by conv => lhs; whnf) ?_
            refine R.addI rfl rfl rfl (by omega) ?_
            refine R.asE rfl (by conv => lhs; whnf) ?_
            refine TL.nil (Post.thnN ?_)
            exact ⟨(ml1, (n6l1 + 1), xPa0l2, cPa0l2), (s_l1.trans (s_l2.trans s_c3)), ⟨(by first | omega | (simp; omega) | (simp at *; omega)), (Has.cons .hd Has.nil), (OwnS.mono wPa0l2 s_c3), (by first | omega | (simp; done) | (simp; omega) | (simp at *; omega)), (by first | omega | (simp; done) | (simp; omega) | (simp at *; omega)), (by rw [← hQl1, slices_insertionSortOrdered_Id_l1]; rw [if_pos c12, hEl2, LR.seq_go])⟩, by show ml1 < ml1 + 1; omega, rfl, rfl, rfl, rfl, trivial⟩
    · refine T.set 12 (.bool false) (congrArg Value.bool (decide_eq_false c12)) ?_
      refine T.exit (Post.thnE (Post.thnE (Post.blkX ?_)))
      have hEl1 : slices_insertionSortOrdered_Id_l1 a1 a2 ((a2 - ((a1 + 1))).toNat + 1) (((a1 + 1), a0)) = (n6l1, xPa0l1) := (by rw [← hQl1, slices_insertionSortOrdered_Id_l1]; rw [if_neg c12])
      refine id ?_
      have hM : slices_insertionSortOrdered_Id_m a0 a1 a2 = xPa0l1 := by rw [slices_insertionSortOrdered_Id_m, hEl1, LR.seq_go]
      exact fin0N [cPa0l1] rfl (List.Sublist.cons_cons _ (List.nil_sublist _)) ⟨cPa0l1, by first | rw [hM] | rfl, by first | rw [hM] | rfl, by rw [hM]; exact wPa0l1⟩

end Go.SX

set_option linter.unusedVariables false
set_option linter.unusedSimpArgs false
namespace Go.SX
open Go Go.Proofs

def slices_siftDownOrdered_Id_l1 (a2 : Int) (a3 : Int) : Nat → (Int × (List Int)) → LR ((List Int)) (Int × (List Int))
  | 0, _ => .go default
  | ml1 + 1, sl1 => if a2 ≤ ((2 * sl1.1) + 1) then (.go ((sl1.1, sl1.2))) else (LR.seq (if ((((2 * sl1.1) + 1) + 1) : Int) < a2 then ((cmp_Less_Id_m (sl1.2.getD (((a3 + ((2 * sl1.1) + 1))).toNat) (0 : Int)) (sl1.2.getD ((((a3 + ((2 * sl1.1) + 1)) + 1)).toNat) (0 : Int)))) else false : Bool) (fun sc2 => LR.seq (if sc2 = true then ((((2 * sl1.1) + 1) + 1)) else (((2 * sl1.1) + 1)) : Int) (fun sc3 => LR.seq ((!(cmp_Less_Id_m (sl1.2.getD (((a3 + sl1.1)).toNat) (0 : Int)) (sl1.2.getD (((a3 + sc3)).toNat) (0 : Int)))) : Bool) (fun sc4 => if sc4 = true then (.ret sl1.2) else (slices_siftDownOrdered_Id_l1 a2 a3 ml1 ((sc3, (((sl1.2.set (((a3 + sl1.1)).toNat) (sl1.2.getD (((a3 + sc3)).toNat) (0 : Int)))).set (((a3 + sc3)).toNat) (sl1.2.getD (((a3 + sl1.1)).toNat) (0 : Int))))))))))
def slices_siftDownOrdered_Id_m (a0 : List Int) (a1 : Int) (a2 : Int) (a3 : Int) : (List Int) :=
  LR.on (slices_siftDownOrdered_Id_l1 a2 a3 ((a2 - a1).toNat + 1) ((a1, a0))) (fun r => r) (fun ol1 => ol1.2)
set_option maxHeartbeats 3200000 in
theorem slices_siftDownOrdered_Id_c (H : Heap) (va0 : Value) (a0 : List Int) (Ca0 : Chunk) (ha0 : OwnS (intE .u64) 26 H va0 a0 Ca0) (a1 : Int) (a2 : Int) (a3 : Int) (h1 : 0 ≤ a1) (h2 : a1 ≤ 4000000) (h3 : 0 ≤ a3) (h4 : a2 + a3 ≤ (a0.length : Int)) (hl : a0.length ≤ 4000000) : Fc Try.prog (fnv 150) [va0, .int .i64 a1, .int .i64 a2, .int .i64 a3] H [Ca0] (fun v' H' L' => ∃ Da0, v' = .tuple #[] ∧ L' = [Da0] ∧ OwnS (intE .u64) 26 H' va0 (slices_siftDownOrdered_Id_m a0 a1 a2 a3) Da0) := by
  refine Fc.of_body (N := 76) Try.func150 rfl (by kernel_rfl) rfl rfl ?_
  intro w0
  obtain ⟨Aa0, pa0, rfl, ma0, na0⟩ := OwnS.shape ha0
  refine T.seq ?_
  refine T.region ?_
  refine R.mvE rfl (by conv => lhs; whnf) ?_
  refine R.asE rfl (by conv => lhs; whnf) ?_
  refine TL.nil (Post.thnN ?_)
  refine T.block ?_
  refine T.loop (ι := Nat × Int × (List Int) × Chunk) (fun ⟨kl1, n8l1, xPa0l1, cPa0l1⟩ H' L' ds' => (a2 - n8l1).toNat < kl1 ∧ Has L' [cPa0l1] ∧ OwnS (intE .u64) 26 H' (.slice Aa0 a0.length pa0) xPa0l1 cPa0l1 ∧ 0 ≤ n8l1 ∧ n8l1 ≤ 4000000 ∧ slices_siftDownOrdered_Id_l1 a2 a3 kl1 ((n8l1, xPa0l1)) = slices_siftDownOrdered_Id_l1 a2 a3 ((a2 - a1).toNat + 1) ((a1, a0))) (fun ⟨kl1, n8l1, xPa0l1, cPa0l1⟩ => [(0, .slice Aa0 a0.length pa0), (2, .int .i64 a2), (3, .int .i64 a3), (8, .int .i64 n8l1)]) (fun ⟨kl1, n8l1, xPa0l1, cPa0l1⟩ => kl1) (((a2 - a1).toNat + 1), a1, a0, Ca0) ?_ ?_ ?_
  · exact ⟨(by omega), (Has.cons .hd Has.nil), ha0, (by first | omega | (simp; done) | (simp; omega) | (simp at *; omega)), (by first | omega | (simp; done) | (simp; omega) | (simp at *; omega)), (by rfl)⟩
  · exact ⟨rfl, rfl, rfl, rfl, trivial⟩
  · intro ⟨kl1, n8l1, xPa0l1, cPa0l1⟩ σ_l1 H_l1 L_l1 ds_l1 s_l1 hI_l1
    obtain ⟨hkl1, hI_l1⟩ := hI_l1
    obtain ⟨ml1, rfl⟩ : ∃ m, kl1 = m + 1 := ⟨kl1 - 1, by omega⟩
    obtain ⟨hLl1, wPa0l1, hBl1_0, hBl1_1, hQl1⟩ := hI_l1
    have nPa0l1_ := OwnS.len wPa0l1
    refine T.has hLl1 ?_
    refine T.block ?_
    refine T.seq ?_
    refine T.region ?_
    refine R.mvE rfl (by conv => lhs; whnf) ?_
    refine R.mulI rfl rfl rfl (by omega) ?_
    refine R.addI rfl rfl rfl (by omega) ?_
    refine R.asE rfl (by conv => lhs; whnf) ?_
    refine TL.nil (Post.thnN ?_)
    refine T.seq ?_
    refine T.seq ?_
    refine T.region ?_
    refine R.mvE rfl (by conv => lhs; whnf) ?_
    refine R.mvE rfl (by conv => lhs; whnf) ?_
    refine R.geq rfl rfl rfl ?_
    refine TL.nil (Post.thnN ?_)
    refine T.condD rfl (fun c16 => ?_) (fun c16 => ?_)
    · refine T.set 16 (.bool true) (congrArg Value.bool (decide_eq_true c16)) ?_
      refine T.exit (Post.thnE (Post.blkE rfl (Post.thnE (Post.blkX ?_))))
      have hEl1 : slices_siftDownOrdered_Id_l1 a2 a3 ((a2 - a1).toNat + 1) ((a1, a0)) = .go ((n8l1, xPa0l1)) := (by rw [← hQl1, slices_siftDownOrdered_Id_l1]; rw [if_pos c16])
      refine id ?_
      have hM : slices_siftDownOrdered_Id_m a0 a1 a2 a3 = xPa0l1 := by rw [slices_siftDownOrdered_Id_m, hEl1, LR.on_go]
      exact fin0N [cPa0l1] rfl (List.Sublist.cons_cons _ (List.nil_sublist _)) ⟨cPa0l1, by first | rw [hM] | rfl, by first | rw [hM] | rfl, by rw [hM]; exact wPa0l1⟩
    · refine T.set 16 (.bool false) (congrArg Value.bool (decide_eq_false c16)) ?_
      refine T.skip (Post.thnN ?_)
      refine T.seq ?_
      refine T.seq ?_
      refine T.cutK (ι := Bool) (fun b36c2 H' L' ds' => Has L' [cPa0l1] ∧ (if ((((2 * n8l1) + 1) + 1) : Int) < a2 then ((cmp_Less_Id_m (xPa0l1.getD (((a3 + ((2 * n8l1) + 1))).toNat) (0 : Int)) (xPa0l1.getD ((((a3 + ((2 * n8l1) + 1)) + 1)).toNat) (0 : Int)))) else false : Bool) = b36c2) (fun b36c2 => [(0, .slice Aa0 a0.length pa0), (2, .int .i64 a2), (3, .int .i64 a3), (8, .int .i64 n8l1), (9, .int .i64 ((2 * n8l1) + 1)), (36, .bool (b36c2))]) ?_ ?_
      · refine T.draw Try_mixed (by kernel_rfl) ?_
        refine Plan.v 0 [1, 2, 3, 4, 5, 6, 7, 8, 9, 10, 11, 12, 13, 14, 15, 16, 17, 18, 19] (by kernel_rfl) (by kernel_rfl) (by kernel_rfl) (by kernel_rfl) rfl (fun _ _ h_ => R.mvE rfl (by conv => lhs; whnf) (TL.nil h_)) ?_
        refine Plan.v 1 [2, 3, 4, 5, 6, 7, 8, 9, 10, 11, 12, 13, 14, 15, 16, 17, 18, 19] (by kernel_rfl) (by kernel_rfl) (by kernel_rfl) (by kernel_rfl) rfl (fun _ _ h_ => R.addI rfl rfl rfl (by omega) (TL.nil h_)) ?_
        refine Plan.v 2 [3, 4, 5, 6, 7, 8, 9, 10, 11, 12, 13, 14, 15, 16, 17, 18, 19] (by kernel_rfl) (by kernel_rfl) (by kernel_rfl) (by kernel_rfl) rfl (fun _ _ h_ => R.mvE rfl (by conv => lhs; whnf) (TL.nil h_)) ?_
        refine Plan.v 3 [4, 5, 6, 7, 8, 9, 10, 11, 12, 13, 14, 15, 16, 17, 18, 19] (by kernel_rfl) (by kernel_rfl) (by kernel_rfl) (by kernel_rfl) rfl (fun _ _ h_ => R.lss rfl rfl rfl (TL.nil h_)) ?_
        refine Plan.v 4 [5, 6, 7, 8, 9, 10, 11, 12, 13, 14, 15, 16, 17, 18, 19] (by kernel_rfl) (by kernel_rfl) (by kernel_rfl) (by kernel_rfl) rfl (fun _ _ h_ => R.mvE rfl (by conv => lhs; whnf) (TL.nil h_)) ?_
        refine Plan.gsplitD 21 rfl (fun g21 => ?_) (fun g21 => ?_)
        · refine Plan.v 5 [6, 7, 8, 9, 10, 11, 12, 13, 14, 15, 16, 17, 18, 19] (by kernel_rfl) (by kernel_rfl) (by kernel_rfl) (by kernel_rfl) rfl (fun _ _ h_ => R.mvE rfl (by conv => lhs; whnf) (TL.nil h_)) ?_
          refine Plan.v 6 [7, 8, 9, 10, 11, 12, 13, 14, 15, 16, 17, 18, 19] (by kernel_rfl) (by kernel_rfl) (by kernel_rfl) (by kernel_rfl) rfl (fun _ _ h_ => R.mvE rfl (by conv => lhs; whnf) (TL.nil h_)) ?_
          refine Plan.v 7 [8, 9, 10, 11, 12, 13, 14, 15, 16, 17, 18, 19] (by kernel_rfl) (by kernel_rfl) (by kernel_rfl) (by kernel_rfl) rfl (fun _ _ h_ => R.mvE rfl (by conv => lhs; whnf) (TL.nil h_)) ?_
          refine Plan.v 8 [9, 10, 11, 12, 13, 14, 15, 16, 17, 18, 19] (by kernel_rfl) (by kernel_rfl) (by kernel_rfl) (by kernel_rfl) rfl (fun _ _ h_ => R.addI rfl rfl rfl (by omega) (TL.nil h_)) ?_
          have hl26 : ((a3 + ((2 * n8l1) + 1))).toNat < a0.length := by first | omega | (simp; done) | (simp; omega) | (simp at *; omega)
          obtain ⟨y26, e26, h26⟩ : ∃ y, y = (xPa0l1.getD (((a3 + ((2 * n8l1) + 1))).toNat) (0 : Int)) ∧ xPa0l1[((a3 + ((2 * n8l1) + 1))).toNat]? = some y := ⟨_, rfl, getD_get (by first | exact hl26 | simpa using hl26 | (simp only [List.length_set]; omega) | omega | (rw [(sortI_perm _).length_eq]; exact hl26))⟩
          obtain ⟨b26, u26, cs26, l26, f26, j26, i26, g26, k26⟩ := OwnS.elem wPa0l1 h26
          obtain rfl : l26 = [.int .u64 y26] := g26
          refine Plan.v 9 [10, 11, 12, 13, 14, 15, 16, 17, 18, 19] (by kernel_rfl) (by kernel_rfl) (by kernel_rfl) (by kernel_rfl) rfl (fun _ _ h_ => R.ixp (sz := ((intE .u64)).size) Try.underlying22 Try.sizeOf26 rfl rfl rfl (by first | omega | (simp; done) | (simp; omega) | (simp at *; omega)) i26 (TL.nil h_)) ?_
          refine Plan.v 11 [10, 12, 13, 14, 15, 16, 17, 18, 19] (by kernel_rfl) (by kernel_rfl) (by kernel_rfl) (by kernel_rfl) rfl (fun _ _ h_ => R.mvE rfl (by conv => lhs; whnf) (TL.nil h_)) ?_
          refine Plan.v 12 [10, 13, 14, 15, 16, 17, 18, 19] (by kernel_rfl) (by kernel_rfl) (by kernel_rfl) (by kernel_rfl) rfl (fun _ _ h_ => R.mvE rfl (by conv => lhs; whnf) (TL.nil h_)) ?_
          refine Plan.v 13 [10, 14, 15, 16, 17, 18, 19] (by kernel_rfl) (by kernel_rfl) (by kernel_rfl) (by kernel_rfl) rfl (fun _ _ h_ => R.mvE rfl (by conv => lhs; whnf) (TL.nil h_)) ?_
          refine Plan.v 14 [10, 15, 16, 17, 18, 19] (by kernel_rfl) (by kernel_rfl) (by kernel_rfl) (by kernel_rfl) rfl (fun _ _ h_ => R.addI rfl rfl rfl (by omega) (TL.nil h_)) ?_
          refine Plan.v 15 [10, 16, 17, 18, 19] (by kernel_rfl) (by kernel_rfl) (by kernel_rfl) (by kernel_rfl) rfl (fun _ _ h_ => R.addI rfl rfl rfl (by omega) (TL.nil h_)) ?_
          have hl33 : (((a3 + ((2 * n8l1) + 1)) + 1)).toNat < a0.length := by first | omega | (simp; done) | (simp; omega) | (simp at *; omega)
          obtain ⟨y33, e33, h33⟩ : ∃ y, y = (xPa0l1.getD ((((a3 + ((2 * n8l1) + 1)) + 1)).toNat) (0 : Int)) ∧ xPa0l1[(((a3 + ((2 * n8l1) + 1)) + 1)).toNat]? = some y := ⟨_, rfl, getD_get (by first | exact hl33 | simpa using hl33 | (simp only [List.length_set]; omega) | omega | (rw [(sortI_perm _).length_eq]; exact hl33))⟩
          obtain ⟨b33, u33, cs33, l33, f33, j33, i33, g33, k33⟩ := OwnS.elem wPa0l1 h33
          obtain rfl : l33 = [.int .u64 y33] := g33
          refine Plan.v 16 [10, 17, 18, 19] (by kernel_rfl) (by kernel_rfl) (by kernel_rfl) (by kernel_rfl) rfl (fun _ _ h_ => R.ixp (sz := ((intE .u64)).size) Try.underlying22 Try.sizeOf26 rfl rfl rfl (by first | omega | (simp; done) | (simp; omega) | (simp at *; omega)) i33 (TL.nil h_)) ?_
          refine Plan.s2 10 17 [17, 18, 19] [10, 18, 19] (by kernel_rfl) (by kernel_rfl) (by kernel_rfl) rfl rfl ?_ ?_
          · refine R.ld Try.isAgg26 rfl rfl (by rw [← f26]; exact .hd) (k26 0 _ rfl) ?_
            refine TL.nil (Plan.e1 (HLe.refl _) ?_)
            refine Plan.s1 17 [18, 19] (by kernel_rfl) (by kernel_rfl) rfl ?_
            refine R.ld Try.isAgg26 rfl rfl (by rw [← f33]; exact .hd) (k33 0 _ rfl) ?_
            refine TL.nil (Plan.e1 (HLe.refl _) ?_)
            refine Plan.v 18 [19] (by kernel_rfl) (by kernel_rfl) (by kernel_rfl) (by kernel_rfl) rfl (fun _ _ h_ => R.callv rfl rfl rfl (cmp_Less_Id_c _ (y26) (y33)) (TL.nil h_)) ?_
            refine Plan.v 19 [] (by kernel_rfl) (by kernel_rfl) (by kernel_rfl) (by kernel_rfl) rfl (fun _ _ h_ => R.pkTE rfl rfl (by conv => lhs; whnf) (TL.nil h_)) ?_
            refine Plan.done (Post.thnN ?_)
            exact ⟨(cmp_Less_Id_m y26 y33), HLe.refl _, ⟨(Has.cons .hd Has.nil), (by subst e33; subst e26; rw [if_pos g21])⟩, rfl, rfl, rfl, rfl, rfl, rfl, trivial⟩
          · refine R.ld Try.isAgg26 rfl rfl (by rw [← f33]; exact .hd) (k33 0 _ rfl) ?_
            refine TL.nil (Plan.e1 (HLe.refl _) ?_)
            refine Plan.s1 10 [18, 19] (by kernel_rfl) (by kernel_rfl) rfl ?_
            refine R.ld Try.isAgg26 rfl rfl (by rw [← f26]; exact .hd) (k26 0 _ rfl) ?_
            refine TL.nil (Plan.e1 (HLe.refl _) ?_)
            refine Plan.v 18 [19] (by kernel_rfl) (by kernel_rfl) (by kernel_rfl) (by kernel_rfl) rfl (fun _ _ h_ => R.callv rfl rfl rfl (cmp_Less_Id_c _ (y26) (y33)) (TL.nil h_)) ?_
            refine Plan.v 19 [] (by kernel_rfl) (by kernel_rfl) (by kernel_rfl) (by kernel_rfl) rfl (fun _ _ h_ => R.pkTE rfl rfl (by conv => lhs; whnf) (TL.nil h_)) ?_
            refine Plan.done (Post.thnN ?_)
            exact ⟨(cmp_Less_Id_m y26 y33), HLe.refl _, ⟨(Has.cons .hd Has.nil), (by subst e33; subst e26; rw [if_pos g21])⟩, rfl, rfl, rfl, rfl, rfl, rfl, trivial⟩
        · refine Plan.v 5 [6, 7, 8, 9, 10, 11, 12, 13, 14, 15, 16, 17, 18, 19] (by kernel_rfl) (by kernel_rfl) (by kernel_rfl) (by kernel_rfl) rfl (fun _ _ h_ => TL.off rfl rfl rfl (TL.nil h_)) ?_
          refine Plan.v 6 [7, 8, 9, 10, 11, 12, 13, 14, 15, 16, 17, 18, 19] (by kernel_rfl) (by kernel_rfl) (by kernel_rfl) (by kernel_rfl) rfl (fun _ _ h_ => TL.off rfl rfl rfl (TL.nil h_)) ?_
          refine Plan.v 7 [8, 9, 10, 11, 12, 13, 14, 15, 16, 17, 18, 19] (by kernel_rfl) (by kernel_rfl) (by kernel_rfl) (by kernel_rfl) rfl (fun _ _ h_ => TL.off rfl rfl rfl (TL.nil h_)) ?_
          refine Plan.v 8 [9, 10, 11, 12, 13, 14, 15, 16, 17, 18, 19] (by kernel_rfl) (by kernel_rfl) (by kernel_rfl) (by kernel_rfl) rfl (fun _ _ h_ => TL.off rfl rfl rfl (TL.nil h_)) ?_
          refine Plan.v 9 [10, 11, 12, 13, 14, 15, 16, 17, 18, 19] (by kernel_rfl) (by kernel_rfl) (by kernel_rfl) (by kernel_rfl) rfl (fun _ _ h_ => TL.off rfl rfl rfl (TL.nil h_)) ?_
          refine Plan.v 10 [11, 12, 13, 14, 15, 16, 17, 18, 19] (by kernel_rfl) (by kernel_rfl) (by kernel_rfl) (by kernel_rfl) rfl (fun _ _ h_ => TL.off rfl rfl rfl (TL.nil h_)) ?_
          refine Plan.v 11 [12, 13, 14, 15, 16, 17, 18, 19] (by kernel_rfl) (by kernel_rfl) (by kernel_rfl) (by kernel_rfl) rfl (fun _ _ h_ => TL.off rfl rfl rfl (TL.nil h_)) ?_
          refine Plan.v 12 [13, 14, 15, 16, 17, 18, 19] (by kernel_rfl) (by kernel_rfl) (by kernel_rfl) (by kernel_rfl) rfl (fun _ _ h_ => TL.off rfl rfl rfl (TL.nil h_)) ?_
          refine Plan.v 13 [14, 15, 16, 17, 18, 19] (by kernel_rfl) (by kernel_rfl) (by kernel_rfl) (by kernel_rfl) rfl (fun _ _ h_ => TL.off rfl rfl rfl (TL.nil h_)) ?_
          refine Plan.v 14 [15, 16, 17, 18, 19] (by kernel_rfl) (by kernel_rfl) (by kernel_rfl) (by kernel_rfl) rfl (fun _ _ h_ => TL.off rfl rfl rfl (TL.nil h_)) ?_
          refine Plan.v 15 [16, 17, 18, 19] (by kernel_rfl) (by kernel_rfl) (by kernel_rfl) (by kernel_rfl) rfl (fun _ _ h_ => TL.off rfl rfl rfl (TL.nil h_)) ?_
          refine Plan.v 16 [17, 18, 19] (by kernel_rfl) (by kernel_rfl) (by kernel_rfl) (by kernel_rfl) rfl (fun _ _ h_ => TL.off rfl rfl rfl (TL.nil h_)) ?_
          refine Plan.v 17 [18, 19] (by kernel_rfl) (by kernel_rfl) (by kernel_rfl) (by kernel_rfl) rfl (fun _ _ h_ => TL.off rfl rfl rfl (TL.nil h_)) ?_
          refine Plan.v 18 [19] (by kernel_rfl) (by kernel_rfl) (by kernel_rfl) (by kernel_rfl) rfl (fun _ _ h_ => TL.off rfl rfl rfl (TL.nil h_)) ?_
          refine Plan.v 19 [] (by kernel_rfl) (by kernel_rfl) (by kernel_rfl) (by kernel_rfl) rfl (fun _ _ h_ => R.pkFE rfl rfl (by conv => lhs; whnf) (TL.nil h_)) ?_
          refine Plan.done (Post.thnN ?_)
          exact ⟨false, HLe.refl _, ⟨(Has.cons .hd Has.nil), (by rw [if_neg g21])⟩, rfl, rfl, rfl, rfl, rfl, rfl, trivial⟩
      · intro b36c2 σ_c2 H_c2 L_c2 ds_c2 s_c2 hI_c2
        obtain ⟨hLc2, hTc2⟩ := hI_c2
        refine T.has hLc2 ?_
        refine T.cutK (ι := Int) (fun n9c3 H' L' ds' => Has L' [cPa0l1] ∧ n9c3 < a2 ∧ n8l1 < n9c3 ∧ (if b36c2 = true then ((((2 * n8l1) + 1) + 1)) else (((2 * n8l1) + 1)) : Int) = n9c3) (fun n9c3 => [(0, .slice Aa0 a0.length pa0), (2, .int .i64 a2), (3, .int .i64 a3), (8, .int .i64 n8l1), (9, .int .i64 n9c3)]) ?_ ?_
        · refine T.cond rfl (fun c36 => ?_) (fun c36 => ?_)
          · refine T.set 36 (.bool true) (congrArg Value.bool c36) ?_
            have hZ36 := hTc2.trans c36
            try simp only [or_f, or_t, and_f, and_t, decide_eq_true_eq, decide_eq_false_iff_not, Bool.not_eq_true'] at hZ36
            refine T.region ?_
            refine R.mvE rfl (by conv => lhs; whnf) ?_
            refine R.addI rfl rfl rfl (by omega) ?_
            refine R.asE rfl (by conv => lhs; whnf) ?_
            refine TL.nil (Post.thnN ?_)
            exact ⟨(((2 * n8l1) + 1) + 1), HLe.refl _, ⟨(Has.cons .hd Has.nil), (by first | omega | (simp; done) | (simp; omega) | (simp at *; omega)), (by first | omega | (simp; done) | (simp; omega) | (simp at *; omega)), (by rw [if_t c36])⟩, rfl, rfl, rfl, rfl, rfl, trivial⟩
          · refine T.set 36 (.bool false) (congrArg Value.bool c36) ?_
            have hZ36 := hTc2.trans c36
            try simp only [or_f, or_t, and_f, and_t, decide_eq_true_eq, decide_eq_false_iff_not, Bool.not_eq_true'] at hZ36
            refine T.skip (Post.thnN ?_)
            exact ⟨((2 * n8l1) + 1), HLe.refl _, ⟨(Has.cons .hd Has.nil), (by first | omega | (simp; done) | (simp; omega) | (simp at *; omega)), (by first | omega | (simp; done) | (simp; omega) | (simp at *; omega)), (by rw [if_f c36])⟩, rfl, rfl, rfl, rfl, rfl, trivial⟩
        · intro n9c3 σ_c3 H_c3 L_c3 ds_c3 s_c3 hI_c3
          obtain ⟨hLc3, hBc3_0, hBc3_1, hTc3⟩ := hI_c3
          refine T.has hLc3 ?_
          refine T.seq ?_
          refine T.seq ?_
          refine T.cutK (ι := Bool) (fun b52c4 H' L' ds' => Has L' [cPa0l1] ∧ ((!(cmp_Less_Id_m (xPa0l1.getD (((a3 + n8l1)).toNat) (0 : Int)) (xPa0l1.getD (((a3 + n9c3)).toNat) (0 : Int)))) : Bool) = b52c4) (fun b52c4 => [(0, .slice Aa0 a0.length pa0), (2, .int .i64 a2), (3, .int .i64 a3), (8, .int .i64 n8l1), (9, .int .i64 n9c3), (52, .bool (b52c4))]) ?_ ?_
          · refine T.draw Try_mixed (by kernel_rfl) ?_
            refine Plan.v 0 [1, 2, 3, 4, 5, 6, 7, 8, 9, 10, 11, 12, 13] (by kernel_rfl) (by kernel_rfl) (by kernel_rfl) (by kernel_rfl) rfl (fun _ _ h_ => R.mvE rfl (by conv => lhs; whnf) (TL.nil h_)) ?_
            refine Plan.v 1 [2, 3, 4, 5, 6, 7, 8, 9, 10, 11, 12, 13] (by kernel_rfl) (by kernel_rfl) (by kernel_rfl) (by kernel_rfl) rfl (fun _ _ h_ => R.mvE rfl (by conv => lhs; whnf) (TL.nil h_)) ?_
            refine Plan.v 2 [3, 4, 5, 6, 7, 8, 9, 10, 11, 12, 13] (by kernel_rfl) (by kernel_rfl) (by kernel_rfl) (by kernel_rfl) rfl (fun _ _ h_ => R.mvE rfl (by conv => lhs; whnf) (TL.nil h_)) ?_
            refine Plan.v 3 [4, 5, 6, 7, 8, 9, 10, 11, 12, 13] (by kernel_rfl) (by kernel_rfl) (by kernel_rfl) (by kernel_rfl) rfl (fun _ _ h_ => R.addI rfl rfl rfl (by omega) (TL.nil h_)) ?_
            have hl43 : ((a3 + n8l1)).toNat < a0.length := by first | omega | (simp; done) | (simp; omega) | (simp at *; omega)
            obtain ⟨y43, e43, h43⟩ : ∃ y, y = (xPa0l1.getD (((a3 + n8l1)).toNat) (0 : Int)) ∧ xPa0l1[((a3 + n8l1)).toNat]? = some y := ⟨_, rfl, getD_get (by first | exact hl43 | simpa using hl43 | (simp only [List.length_set]; omega) | omega | (rw [(sortI_perm _).length_eq]; exact hl43))⟩
            obtain ⟨b43, u43, cs43, l43, f43, j43, i43, g43, k43⟩ := OwnS.elem (OwnS.mono wPa0l1 (s_c2.trans s_c3)) h43
            obtain rfl : l43 = [.int .u64 y43] := g43
            refine Plan.v 4 [5, 6, 7, 8, 9, 10, 11, 12, 13] (by kernel_rfl) (by kernel_rfl) (by kernel_rfl) (by kernel_rfl) rfl (fun _ _ h_ => R.ixp (sz := ((intE .u64)).size) Try.underlying22 Try.sizeOf26 rfl rfl rfl (by first | omega | (simp; done) | (simp; omega) | (simp at *; omega)) i43 (TL.nil h_)) ?_
            refine Plan.v 6 [5, 7, 8, 9, 10, 11, 12, 13] (by kernel_rfl) (by kernel_rfl) (by kernel_rfl) (by kernel_rfl) rfl (fun _ _ h_ => R.mvE rfl (by conv => lhs; whnf) (TL.nil h_)) ?_
            refine Plan.v 7 [5, 8, 9, 10, 11, 12, 13] (by kernel_rfl) (by kernel_rfl) (by kernel_rfl) (by kernel_rfl) rfl (fun _ _ h_ => R.mvE rfl (by conv => lhs; whnf) (TL.nil h_)) ?_
            refine Plan.v 8 [5, 9, 10, 11, 12, 13] (by kernel_rfl) (by kernel_rfl) (by kernel_rfl) (by kernel_rfl) rfl (fun _ _ h_ => R.mvE rfl (by conv => lhs; whnf) (TL.nil h_)) ?_
            refine Plan.v 9 [5, 10, 11, 12, 13] (by kernel_rfl) (by kernel_rfl) (by kernel_rfl) (by kernel_rfl) rfl (fun _ _ h_ => R.addI rfl rfl rfl (by omega) (TL.nil h_)) ?_
            have hl49 : ((a3 + n9c3)).toNat < a0.length := by first | omega | (simp; done) | (simp; omega) | (simp at *; omega)
            obtain ⟨y49, e49, h49⟩ : ∃ y, y = (xPa0l1.getD (((a3 + n9c3)).toNat) (0 : Int)) ∧ xPa0l1[((a3 + n9c3)).toNat]? = some y := ⟨_, rfl, getD_get (by first | exact hl49 | simpa using hl49 | (simp only [List.length_set]; omega) | omega | (rw [(sortI_perm _).length_eq]; exact hl49))⟩
            obtain ⟨b49, u49, cs49, l49, f49, j49, i49, g49, k49⟩ := OwnS.elem (OwnS.mono wPa0l1 (s_c2.trans s_c3)) h49
            obtain rfl : l49 = [.int .u64 y49] := g49
            refine Plan.v 10 [5, 11, 12, 13] (by kernel_rfl) (by kernel_rfl) (by kernel_rfl) (by kernel_rfl) rfl (fun _ _ h_ => R.ixp (sz := ((intE .u64)).size) Try.underlying22 Try.sizeOf26 rfl rfl rfl (by first | omega | (simp; done) | (simp; omega) | (simp at *; omega)) i49 (TL.nil h_)) ?_
            refine Plan.s2 5 11 [11, 12, 13] [5, 12, 13] (by kernel_rfl) (by kernel_rfl) (by kernel_rfl) rfl rfl ?_ ?_
            · refine R.ld Try.isAgg26 rfl rfl (by rw [← f43]; exact .hd) (k43 0 _ rfl) ?_
              refine TL.nil (Plan.e1 (HLe.refl _) ?_)
              refine Plan.s1 11 [12, 13] (by kernel_rfl) (by kernel_rfl) rfl ?_
              refine R.ld Try.isAgg26 rfl rfl (by rw [← f49]; exact .hd) (k49 0 _ rfl) ?_
              refine TL.nil (Plan.e1 (HLe.refl _) ?_)
              refine Plan.v 12 [13] (by kernel_rfl) (by kernel_rfl) (by kernel_rfl) (by kernel_rfl) rfl (fun _ _ h_ => R.callv rfl rfl rfl (cmp_Less_Id_c _ (y43) (y49)) (TL.nil h_)) ?_
              refine Plan.v 13 [] (by kernel_rfl) (by kernel_rfl) (by kernel_rfl) (by kernel_rfl) rfl (fun _ _ h_ => R.not rfl rfl (TL.nil h_)) ?_
              refine Plan.done (Post.thnN ?_)
              exact ⟨(!(cmp_Less_Id_m y43 y49)), HLe.refl _, ⟨(Has.cons .hd Has.nil), (by subst e49; subst e43; rfl)⟩, rfl, rfl, rfl, rfl, rfl, rfl, trivial⟩
            · refine R.ld Try.isAgg26 rfl rfl (by rw [← f49]; exact .hd) (k49 0 _ rfl) ?_
              refine TL.nil (Plan.e1 (HLe.refl _) ?_)
              refine Plan.s1 5 [12, 13] (by kernel_rfl) (by kernel_rfl) rfl ?_
              refine R.ld Try.isAgg26 rfl rfl (by rw [← f43]; exact .hd) (k43 0 _ rfl) ?_
              refine TL.nil (Plan.e1 (HLe.refl _) ?_)
              refine Plan.v 12 [13] (by kernel_rfl) (by kernel_rfl) (by kernel_rfl) (by kernel_rfl) rfl (fun _ _ h_ => R.callv rfl rfl rfl (cmp_Less_Id_c _ (y43) (y49)) (TL.nil h_)) ?_
              refine Plan.v 13 [] (by kernel_rfl) (by kernel_rfl) (by kernel_rfl) (by kernel_rfl) rfl (fun _ _ h_ => R.not rfl rfl (TL.nil h_)) ?_
              refine Plan.done (Post.thnN ?_)
              exact ⟨(!(cmp_Less_Id_m y43 y49)), HLe.refl _, ⟨(Has.cons .hd Has.nil), (by subst e49; subst e43; rfl)⟩, rfl, rfl, rfl, rfl, rfl, rfl, trivial⟩
          · intro b52c4 σ_c4 H_c4 L_c4 ds_c4 s_c4 hI_c4
            obtain ⟨hLc4, hTc4⟩ := hI_c4
            refine T.has hLc4 ?_
            refine T.cond rfl (fun c52 => ?_) (fun c52 => ?_)
            · refine T.set 52 (.bool true) (congrArg Value.bool c52) ?_
              have hZ52 := hTc4.trans c52
              try simp only [or_f, or_t, and_f, and_t, decide_eq_true_eq, decide_eq_false_iff_not, Bool.not_eq_true'] at hZ52
              refine T.has (Has.cons .hd Has.nil) ?_
              refine T.ret (Post.thnR (Post.blkR (Post.thnR (Post.blkR ?_))))
              have hXl1 : slices_siftDownOrdered_Id_l1 a2 a3 ((a2 - a1).toNat + 1) ((a1, a0)) = .ret xPa0l1 := by rw [← hQl1, slices_siftDownOrdered_Id_l1]; rw [if_neg c16, hTc2, LR.seq_go, hTc3, LR.seq_go, hTc4, LR.seq_go, if_t c52]
              have hM : slices_siftDownOrdered_Id_m a0 a1 a2 a3 = xPa0l1 := by rw [slices_siftDownOrdered_Id_m, hXl1, LR.on_ret]
              exact fin0L [cPa0l1] rfl (List.Sublist.refl _) ⟨cPa0l1, by first | rw [hM] | rfl, by first | rw [hM] | rfl, by rw [hM]; exact (OwnS.mono wPa0l1 (s_c2.trans (s_c3.trans s_c4)))⟩
            · refine T.set 52 (.bool false) (congrArg Value.bool c52) ?_
              have hZ52 := hTc4.trans c52
              try simp only [or_f, or_t, and_f, and_t, decide_eq_true_eq, decide_eq_false_iff_not, Bool.not_eq_true'] at hZ52
              refine T.skip (Post.thnN ?_)
              refine T.seq ?_
              refine T.draw Try_mixed (by kernel_rfl) ?_
              refine Plan.v 0 [1, 2, 3, 4, 5, 6, 7, 8, 9, 10, 11, 12, 13, 14, 15, 16, 17, 18, 19, 20, 21, 22, 23] (by kernel_rfl) (by kernel_rfl) (by kernel_rfl) (by kernel_rfl) rfl (fun _ _ h_ => R.mvE rfl (by conv => lhs; whnf) (TL.nil h_)) ?_
              refine Plan.v 1 [2, 3, 4, 5, 6, 7, 8, 9, 10, 11, 12, 13, 14, 15, 16, 17, 18, 19, 20, 21, 22, 23] (by kernel_rfl) (by kernel_rfl) (by kernel_rfl) (by kernel_rfl) rfl (fun _ _ h_ => R.mvE rfl (by conv => lhs; whnf) (TL.nil h_)) ?_
              refine Plan.v 2 [3, 4, 5, 6, 7, 8, 9, 10, 11, 12, 13, 14, 15, 16, 17, 18, 19, 20, 21, 22, 23] (by kernel_rfl) (by kernel_rfl) (by kernel_rfl) (by kernel_rfl) rfl (fun _ _ h_ => R.mvE rfl (by conv => lhs; whnf) (TL.nil h_)) ?_
              refine Plan.v 3 [4, 5, 6, 7, 8, 9, 10, 11, 12, 13, 14, 15, 16, 17, 18, 19, 20, 21, 22, 23] (by kernel_rfl) (by kernel_rfl) (by kernel_rfl) (by kernel_rfl) rfl (fun _ _ h_ => R.addI rfl rfl rfl (by omega) (TL.nil h_)) ?_
              refine Plan.v 4 [5, 6, 7, 8, 9, 10, 11, 12, 13, 14, 15, 16, 17, 18, 19, 20, 21, 22, 23] (by kernel_rfl) (by kernel_rfl) (by kernel_rfl) (by kernel_rfl) rfl (fun _ _ h_ => R.mvE rfl (by conv => lhs; whnf) (TL.nil h_)) ?_
              refine Plan.v 5 [6, 7, 8, 9, 10, 11, 12, 13, 14, 15, 16, 17, 18, 19, 20, 21, 22, 23] (by kernel_rfl) (by kernel_rfl) (by kernel_rfl) (by kernel_rfl) rfl (fun _ _ h_ => R.mvE rfl (by conv => lhs; whnf) (TL.nil h_)) ?_
              refine Plan.v 6 [7, 8, 9, 10, 11, 12, 13, 14, 15, 16, 17, 18, 19, 20, 21, 22, 23] (by kernel_rfl) (by kernel_rfl) (by kernel_rfl) (by kernel_rfl) rfl (fun _ _ h_ => R.mvE rfl (by conv => lhs; whnf) (TL.nil h_)) ?_
              refine Plan.v 7 [8, 9, 10, 11, 12, 13, 14, 15, 16, 17, 18, 19, 20, 21, 22, 23] (by kernel_rfl) (by kernel_rfl) (by kernel_rfl) (by kernel_rfl) rfl (fun _ _ h_ => R.addI rfl rfl rfl (by omega) (TL.nil h_)) ?_
              refine Plan.v 8 [9, 10, 11, 12, 13, 14, 15, 16, 17, 18, 19, 20, 21, 22, 23] (by kernel_rfl) (by kernel_rfl) (by kernel_rfl) (by kernel_rfl) rfl (fun _ _ h_ => R.mvE rfl (by conv => lhs; whnf) (TL.nil h_)) ?_
              refine Plan.v 9 [10, 11, 12, 13, 14, 15, 16, 17, 18, 19, 20, 21, 22, 23] (by kernel_rfl) (by kernel_rfl) (by kernel_rfl) (by kernel_rfl) rfl (fun _ _ h_ => R.mvE rfl (by conv => lhs; whnf) (TL.nil h_)) ?_
              refine Plan.v 10 [11, 12, 13, 14, 15, 16, 17, 18, 19, 20, 21, 22, 23] (by kernel_rfl) (by kernel_rfl) (by kernel_rfl) (by kernel_rfl) rfl (fun _ _ h_ => R.mvE rfl (by conv => lhs; whnf) (TL.nil h_)) ?_
              refine Plan.v 11 [12, 13, 14, 15, 16, 17, 18, 19, 20, 21, 22, 23] (by kernel_rfl) (by kernel_rfl) (by kernel_rfl) (by kernel_rfl) rfl (fun _ _ h_ => R.addI rfl rfl rfl (by omega) (TL.nil h_)) ?_
              have hl65 : ((a3 + n9c3)).toNat < a0.length := by first | omega | (simp; done) | (simp; omega) | (simp at *; omega)
              obtain ⟨y65, e65, h65⟩ : ∃ y, y = (xPa0l1.getD (((a3 + n9c3)).toNat) (0 : Int)) ∧ xPa0l1[((a3 + n9c3)).toNat]? = some y := ⟨_, rfl, getD_get (by first | exact hl65 | simpa using hl65 | (simp only [List.length_set]; omega) | omega | (rw [(sortI_perm _).length_eq]; exact hl65))⟩
              obtain ⟨b65, u65, cs65, l65, f65, j65, i65, g65, k65⟩ := OwnS.elem (OwnS.mono wPa0l1 (s_c2.trans (s_c3.trans s_c4))) h65
              obtain rfl : l65 = [.int .u64 y65] := g65
              refine Plan.v 12 [13, 14, 15, 16, 17, 18, 19, 20, 21, 22, 23] (by kernel_rfl) (by kernel_rfl) (by kernel_rfl) (by kernel_rfl) rfl (fun _ _ h_ => R.ixp (sz := ((intE .u64)).size) Try.underlying22 Try.sizeOf26 rfl rfl rfl (by first | omega | (simp; done) | (simp; omega) | (simp at *; omega)) i65 (TL.nil h_)) ?_
              refine Plan.v 14 [13, 15, 16, 17, 18, 19, 20, 21, 22, 23] (by kernel_rfl) (by kernel_rfl) (by kernel_rfl) (by kernel_rfl) rfl (fun _ _ h_ => R.mvE rfl (by conv => lhs; whnf) (TL.nil h_)) ?_
              refine Plan.v 15 [13, 16, 17, 18, 19, 20, 21, 22, 23] (by kernel_rfl) (by kernel_rfl) (by kernel_rfl) (by kernel_rfl) rfl (fun _ _ h_ => R.mvE rfl (by conv => lhs; whnf) (TL.nil h_)) ?_
              refine Plan.v 16 [13, 17, 18, 19, 20, 21, 22, 23] (by kernel_rfl) (by kernel_rfl) (by kernel_rfl) (by kernel_rfl) rfl (fun _ _ h_ => R.mvE rfl (by conv => lhs; whnf) (TL.nil h_)) ?_
              refine Plan.v 17 [13, 18, 19, 20, 21, 22, 23] (by kernel_rfl) (by kernel_rfl) (by kernel_rfl) (by kernel_rfl) rfl (fun _ _ h_ => R.addI rfl rfl rfl (by omega) (TL.nil h_)) ?_
              have hl71 : ((a3 + n8l1)).toNat < a0.length := by first | omega | (simp; done) | (simp; omega) | (simp at *; omega)
              obtain ⟨y71, e71, h71⟩ : ∃ y, y = (xPa0l1.getD (((a3 + n8l1)).toNat) (0 : Int)) ∧ xPa0l1[((a3 + n8l1)).toNat]? = some y := ⟨_, rfl, getD_get (by first | exact hl71 | simpa using hl71 | (simp only [List.length_set]; omega) | omega | (rw [(sortI_perm _).length_eq]; exact hl71))⟩
              obtain ⟨b71, u71, cs71, l71, f71, j71, i71, g71, k71⟩ := OwnS.elem (OwnS.mono wPa0l1 (s_c2.trans (s_c3.trans s_c4))) h71
              obtain rfl : l71 = [.int .u64 y71] := g71
              refine Plan.v 18 [13, 19, 20, 21, 22, 23] (by kernel_rfl) (by kernel_rfl) (by kernel_rfl) (by kernel_rfl) rfl (fun _ _ h_ => R.ixp (sz := ((intE .u64)).size) Try.underlying22 Try.sizeOf26 rfl rfl rfl (by first | omega | (simp; done) | (simp; omega) | (simp at *; omega)) i71 (TL.nil h_)) ?_
              refine Plan.s2 13 19 [19, 20, 21, 22, 23] [13, 20, 21, 22, 23] (by kernel_rfl) (by kernel_rfl) (by kernel_rfl) rfl rfl ?_ ?_
              · refine R.ld Try.isAgg26 rfl rfl (by rw [← f65]; exact .hd) (k65 0 _ rfl) ?_
                refine TL.nil (Plan.e1 (HLe.refl _) ?_)
                refine Plan.s1 19 [20, 21, 22, 23] (by kernel_rfl) (by kernel_rfl) rfl ?_
                refine R.ld Try.isAgg26 rfl rfl (by rw [← f71]; exact .hd) (k71 0 _ rfl) ?_
                refine TL.nil (Plan.e1 (HLe.refl _) ?_)
                have hl73 : ((a3 + n8l1)).toNat < a0.length := by first | omega | (simp; done) | (simp; omega) | (simp at *; omega)
                obtain ⟨y73, e73, h73⟩ : ∃ y, y = (xPa0l1.getD (((a3 + n8l1)).toNat) (0 : Int)) ∧ xPa0l1[((a3 + n8l1)).toNat]? = some y := ⟨_, rfl, getD_get (by first | exact hl73 | simpa using hl73 | (simp only [List.length_set]; omega) | omega | (rw [(sortI_perm _).length_eq]; exact hl73))⟩
                obtain ⟨b73, u73, cs73, l73, f73, j73, i73, g73, k73⟩ := OwnS.elem (OwnS.mono wPa0l1 (s_c2.trans (s_c3.trans s_c4))) h73
                obtain rfl : l73 = [.int .u64 y73] := g73
                refine Plan.v 20 [21, 22, 23] (by kernel_rfl) (by kernel_rfl) (by kernel_rfl) (by kernel_rfl) rfl (fun _ _ h_ => R.ixp (sz := ((intE .u64)).size) Try.underlying22 Try.sizeOf26 rfl rfl rfl (by first | omega | (simp; done) | (simp; omega) | (simp at *; omega)) i73 (TL.nil h_)) ?_
                refine Plan.s1 21 [22, 23] (by kernel_rfl) (by kernel_rfl) rfl ?_
                refine R.stEF (E := (intE .u64)) (e := 26) (v := (.slice Aa0 a0.length pa0)) (m := [.int .u64 y65]) (o := 0) (y := y73) (y' := y65) (j := ((a3 + n8l1)).toNat) Try.sizeOf26 rfl (OwnS.mono wPa0l1 (s_c2.trans (s_c3.trans s_c4))) .hd i73 rfl rfl (cells1 rfl) (all_one rfl) h73 (by show 0 + 1 ≤ 1; decide) (fun l hl => by have e0 : l = [.int .u64 y73] := hl; subst e0; exact rfl) ?_
                intro cst11 wst11
                refine TL.nil (Plan.e0 (HLe.refl _) ?_)
                have hl74 : ((a3 + n9c3)).toNat < a0.length := by first | omega | (simp; done) | (simp; omega) | (simp at *; omega)
                obtain ⟨y74, e74, h74⟩ : ∃ y, y = (((xPa0l1.set (((a3 + n8l1)).toNat) y65)).getD (((a3 + n9c3)).toNat) (0 : Int)) ∧ ((xPa0l1.set (((a3 + n8l1)).toNat) y65))[((a3 + n9c3)).toNat]? = some y := ⟨_, rfl, getD_get (by first | exact hl74 | simpa using hl74 | (simp only [List.length_set]; omega) | omega | (rw [(sortI_perm _).length_eq]; exact hl74))⟩
                obtain ⟨b74, u74, cs74, l74, f74, j74, i74, g74, k74⟩ := OwnS.elem wst11 h74
                obtain rfl : l74 = [.int .u64 y74] := g74
                refine Plan.v 22 [23] (by kernel_rfl) (by kernel_rfl) (by kernel_rfl) (by kernel_rfl) rfl (fun _ _ h_ => R.ixp (sz := ((intE .u64)).size) Try.underlying22 Try.sizeOf26 rfl rfl rfl (by first | omega | (simp; done) | (simp; omega) | (simp at *; omega)) i74 (TL.nil h_)) ?_
                refine Plan.s1 23 [] (by kernel_rfl) (by kernel_rfl) rfl ?_
                refine R.stEF (E := (intE .u64)) (e := 26) (v := (.slice Aa0 a0.length pa0)) (m := [.int .u64 y71]) (o := 0) (y := y74) (y' := y71) (j := ((a3 + n9c3)).toNat) Try.sizeOf26 rfl wst11 .hd i74 rfl rfl (cells1 rfl) (all_one rfl) h74 (by show 0 + 1 ≤ 1; decide) (fun l hl => by have e0 : l = [.int .u64 y74] := hl; subst e0; exact rfl) ?_
                intro cst12 wst12
                refine TL.nil (Plan.e0 (HLe.refl _) ?_)
                refine Plan.done (Post.thnN ?_)
                refine T.region ?_
                refine R.mvE rfl (by conv => lhs; whnf) ?_
                refine R.asE rfl (by conv => lhs; whnf) ?_
                refine TL.nil (Post.blkN ?_)
                refine id (Post.thnN ?_)
                exact ⟨(ml1, n9c3, (((xPa0l1.set (((a3 + n8l1)).toNat) y65)).set (((a3 + n9c3)).toNat) y71), cst12), (s_l1.trans (s_c2.trans (s_c3.trans s_c4))), ⟨(by first | omega | (simp; omega) | (simp at *; omega)), (Has.cons .hd Has.nil), wst12, (by first | omega | (simp; done) | (simp; omega) | (simp at *; omega)), (by first | omega | (simp; done) | (simp; omega) | (simp at *; omega)), (by subst e74; subst e73; subst e71; subst e65; rw [← hQl1, slices_siftDownOrdered_Id_l1]; rw [if_neg c16, hTc2, LR.seq_go, hTc3, LR.seq_go, hTc4, LR.seq_go, if_f c52])⟩, by show ml1 < ml1 + 1; omega, rfl, rfl, rfl, rfl, trivial⟩
              · refine R.ld Try.isAgg26 rfl rfl (by rw [← f71]; exact .hd) (k71 0 _ rfl) ?_
                refine TL.nil (Plan.e1 (HLe.refl _) ?_)
                refine Plan.s1 13 [20, 21, 22, 23] (by kernel_rfl) (by kernel_rfl) rfl ?_
                refine R.ld Try.isAgg26 rfl rfl (by rw [← f65]; exact .hd) (k65 0 _ rfl) ?_
                refine TL.nil (Plan.e1 (HLe.refl _) ?_)
                have hl73 : ((a3 + n8l1)).toNat < a0.length := by first | omega | (simp; done) | (simp; omega) | (simp at *; omega)
                obtain ⟨y73, e73, h73⟩ : ∃ y, y = (xPa0l1.getD (((a3 + n8l1)).toNat) (0 : Int)) ∧ xPa0l1[((a3 + n8l1)).toNat]? = some y := ⟨_, rfl, getD_get (by first | exact hl73 | simpa using hl73 | (simp only [List.length_set]; omega) | omega | (rw [(sortI_perm _).length_eq]; exact hl73))⟩
                obtain ⟨b73, u73, cs73, l73, f73, j73, i73, g73, k73⟩ := OwnS.elem (OwnS.mono wPa0l1 (s_c2.trans (s_c3.trans s_c4))) h73
                obtain rfl : l73 = [.int .u64 y73] := g73
                refine Plan.v 20 [21, 22, 23] (by kernel_rfl) (by kernel_rfl) (by kernel_rfl) (by kernel_rfl) rfl (fun _ _ h_ => R.ixp (sz := ((intE .u64)).size) Try.underlying22 Try.sizeOf26 rfl rfl rfl (by first | omega | (simp; done) | (simp; omega) | (simp at *; omega)) i73 (TL.nil h_)) ?_
                refine Plan.s1 21 [22, 23] (by kernel_rfl) (by kernel_rfl) rfl ?_
                refine R.stEF (E := (intE .u64)) (e := 26) (v := (.slice Aa0 a0.length pa0)) (m := [.int .u64 y65]) (o := 0) (y := y73) (y' := y65) (j := ((a3 + n8l1)).toNat) Try.sizeOf26 rfl (OwnS.mono wPa0l1 (s_c2.trans (s_c3.trans s_c4))) .hd i73 rfl rfl (cells1 rfl) (all_one rfl) h73 (by show 0 + 1 ≤ 1; decide) (fun l hl => by have e0 : l = [.int .u64 y73] := hl; subst e0; exact rfl) ?_
                intro cst13 wst13
                refine TL.nil (Plan.e0 (HLe.refl _) ?_)
                have hl74 : ((a3 + n9c3)).toNat < a0.length := by first | omega | (simp; done) | (simp; omega) | (simp at *; omega)
                obtain ⟨y74, e74, h74⟩ : ∃ y, y = (((xPa0l1.set (((a3 + n8l1)).toNat) y65)).getD (((a3 + n9c3)).toNat) (0 : Int)) ∧ ((xPa0l1.set (((a3 + n8l1)).toNat) y65))[((a3 + n9c3)).toNat]? = some y := ⟨_, rfl, getD_get (by first | exact hl74 | simpa using hl74 | (simp only [List.length_set]; omega) | omega | (rw [(sortI_perm _).length_eq]; exact hl74))⟩
                obtain ⟨b74, u74, cs74, l74, f74, j74, i74, g74, k74⟩ := OwnS.elem wst13 h74
                obtain rfl : l74 = [.int .u64 y74] := g74
                refine Plan.v 22 [23] (by kernel_rfl) (by kernel_rfl) (by kernel_rfl) (by kernel_rfl) rfl (fun _ _ h_ => R.ixp (sz := ((intE .u64)).size) Try.underlying22 Try.sizeOf26 rfl rfl rfl (by first | omega | (simp; done) | (simp; omega) | (simp at *; omega)) i74 (TL.nil h_)) ?_
                refine Plan.s1 23 [] (by kernel_rfl) (by kernel_rfl) rfl ?_
                refine R.stEF (E := (intE .u64)) (e := 26) (v := (.slice Aa0 a0.length pa0)) (m := [.int .u64 y71]) (o := 0) (y := y74) (y' := y71) (j := ((a3 + n9c3)).toNat) Try.sizeOf26 rfl wst13 .hd i74 rfl rfl (cells1 rfl) (all_one rfl) h74 (by show 0 + 1 ≤ 1; decide) (fun l hl => by have e0 : l = [.int .u64 y74] := hl; subst e0; exact rfl) ?_
                intro cst14 wst14
                refine TL.nil (Plan.e0 (HLe.refl _) ?_)
                refine Plan.done (Post.thnN ?_)
                refine T.region ?_
                refine R.mvE rfl (by conv => lhs; whnf) ?_
                refine R.asE rfl (by conv => lhs; whnf) ?_
                refine TL.nil (Post.blkN ?_)
                refine id (Post.thnN ?_)
                exact ⟨(ml1, n9c3, (((xPa0l1.set (((a3 + n8l1)).toNat) y65)).set (((a3 + n9c3)).toNat) y71), cst14), (s_l1.trans (s_c2.trans (s_c3.trans s_c4))), ⟨(by first | omega | (simp; omega) | (simp at *; omega)), (Has.cons .hd Has.nil), wst14, (by first | omega | (simp; done) | (simp; omega) | (simp at *; omega)), (by first | omega | (simp; done) | (simp; omega) | (simp at *; omega)), (by subst e74; subst e73; subst e71; subst e65; rw [← hQl1, slices_siftDownOrdered_Id_l1]; rw [if_neg c16, hTc2, LR.seq_go, hTc3, LR.seq_go, hTc4, LR.seq_go, if_f c52])⟩, by show ml1 < ml1 + 1; omega, rfl, rfl, rfl, rfl, trivial⟩

def slices_heapSortOrdered_Id_l2 (a1 : Int) : Nat → (Int × (List Int)) → Int × (List Int)
  | 0, _ => default
  | ml2 + 1, sl2 => if (0 : Int) ≤ sl2.1 then (LR.seq ((((sl2.2.set a1.toNat (sl2.2.getD (((a1 + sl2.1)).toNat) (0 : Int)))).set (((a1 + sl2.1)).toNat) (sl2.2.getD a1.toNat (0 : Int))) : (List Int)) (fun sc3 => LR.seq (slices_siftDownOrdered_Id_m sc3 0 sl2.1 a1) (fun r55 => slices_heapSortOrdered_Id_l2 a1 ml2 (((sl2.1 - 1), r55))))) else ((sl2.1, sl2.2))
def slices_heapSortOrdered_Id_l1 (a1 : Int) (a2 : Int) : Nat → (Int × (List Int)) → Int × (List Int)
  | 0, _ => default
  | ml1 + 1, sl1 => if (0 : Int) ≤ sl1.1 then (LR.seq (slices_siftDownOrdered_Id_m sl1.2 sl1.1 ((a2 - a1)) a1) (fun r26 => slices_heapSortOrdered_Id_l1 a1 a2 ml1 (((sl1.1 - 1), r26)))) else ((sl1.1, sl1.2))
def slices_heapSortOrdered_Id_m (a0 : List Int) (a1 : Int) (a2 : Int) : (List Int) :=
  LR.seq (slices_heapSortOrdered_Id_l1 a1 a2 ((((((a2 - a1) - 1) / 2)) + 1).toNat + 1) (((((a2 - a1) - 1) / 2), a0))) (fun ol1 => LR.seq (slices_heapSortOrdered_Id_l2 a1 (((((a2 - a1) - 1)) + 1).toNat + 1) ((((a2 - a1) - 1), ol1.2))) (fun ol2 => ol2.2))
set_option maxHeartbeats 3200000 in
theorem slices_heapSortOrdered_Id_c (H : Heap) (va0 : Value) (a0 : List Int) (Ca0 : Chunk) (ha0 : OwnS (intE .u64) 26 H va0 a0 Ca0) (a1 : Int) (a2 : Int) (h1 : 0 ≤ a1) (h2 : a1 < a2) (h3 : a2 ≤ (a0.length : Int)) (hl : a0.length ≤ 4000000) : Fc Try.prog (fnv 111) [va0, .int .i64 a1, .int .i64 a2] H [Ca0] (fun v' H' L' => ∃ Da0, v' = .tuple #[] ∧ L' = [Da0] ∧ OwnS (intE .u64) 26 H' va0 (slices_heapSortOrdered_Id_m a0 a1 a2) Da0) := by
  refine Fc.of_body (N := 56) Try.func111 rfl (by kernel_rfl) rfl rfl ?_
  intro w0
  obtain ⟨Aa0, pa0, rfl, ma0, na0⟩ := OwnS.shape ha0
  refine T.seq ?_
  refine T.region ?_
  refine R.mvE rfl (by conv => lhs; whnf) ?_
  refine R.asE rfl (by conv => lhs; whnf) ?_
  refine TL.nil (Post.thnN ?_)
  refine T.seq ?_
  refine T.region ?_
  refine R.asE rfl (by conv => lhs; whnf) ?_
  refine TL.nil (Post.thnN ?_)
  refine T.seq ?_
  refine T.region ?_
  refine R.mvE rfl (by conv => lhs; whnf) ?_
  refine R.mvE rfl (by conv => lhs; whnf) ?_
  refine R.subI rfl rfl rfl (by omega) ?_
  refine R.asE rfl (by conv => lhs; whnf) ?_
  refine TL.nil (Post.thnN ?_)
  refine T.seq ?_
  refine T.seq ?_
  refine T.region ?_
  refine R.mvE rfl (by conv => lhs; whnf) ?_
  refine R.subI rfl rfl rfl (by omega) ?_
  refine R.quoI rfl rfl rfl (by omega) ?_
  refine R.asE rfl (by conv => lhs; whnf) ?_
  refine TL.nil (Post.thnN ?_)
  refine T.block ?_
  refine T.loop (ι := Nat × Int × (List Int) × Chunk) (fun ⟨kl1, n9l1, xPa0l1, cPa0l1⟩ H' L' ds' => (n9l1 + 1).toNat < kl1 ∧ Has L' [cPa0l1] ∧ OwnS (intE .u64) 26 H' (.slice Aa0 a0.length pa0) xPa0l1 cPa0l1 ∧ -1 ≤ n9l1 ∧ n9l1 < a2 - a1 ∧ slices_heapSortOrdered_Id_l1 a1 a2 kl1 ((n9l1, xPa0l1)) = slices_heapSortOrdered_Id_l1 a1 a2 ((((((a2 - a1) - 1) / 2)) + 1).toNat + 1) (((((a2 - a1) - 1) / 2), a0))) (fun ⟨kl1, n9l1, xPa0l1, cPa0l1⟩ => [(0, .slice Aa0 a0.length pa0), (6, .int .i64 a1), (7, .int .i64 0), (8, .int .i64 (a2 - a1)), (9, .int .i64 n9l1)]) (fun ⟨kl1, n9l1, xPa0l1, cPa0l1⟩ => kl1) (((((((a2 - a1) - 1) / 2)) + 1).toNat + 1), (((a2 - a1) - 1) / 2), a0, Ca0) ?_ ?_ ?_
  · exact ⟨(by omega), (Has.cons .hd Has.nil), ha0, (by first | omega | (simp; done) | (simp; omega) | (simp at *; omega)), (by first | omega | (simp; done) | (simp; omega) | (simp at *; omega)), (by rfl)⟩
  · exact ⟨rfl, rfl, rfl, rfl, rfl, trivial⟩
  · intro ⟨kl1, n9l1, xPa0l1, cPa0l1⟩ σ_l1 H_l1 L_l1 ds_l1 s_l1 hI_l1
    obtain ⟨hkl1, hI_l1⟩ := hI_l1
    obtain ⟨ml1, rfl⟩ : ∃ m, kl1 = m + 1 := ⟨kl1 - 1, by omega⟩
    obtain ⟨hLl1, wPa0l1, hBl1_0, hBl1_1, hQl1⟩ := hI_l1
    have nPa0l1_ := OwnS.len wPa0l1
    refine T.has hLl1 ?_
    refine T.seq ?_
    refine T.seq ?_
    refine T.region ?_
    refine R.mvE rfl (by conv => lhs; whnf) ?_
    refine R.geq rfl rfl rfl ?_
    refine TL.nil (Post.thnN ?_)
    refine T.condD rfl (fun c19 => ?_) (fun c19 => ?_)
    · refine T.set 19 (.bool true) (congrArg Value.bool (decide_eq_true c19)) ?_
      refine T.skip (Post.thnN ?_)
      refine T.seq ?_
      refine T.block ?_
      refine T.region ?_
      refine R.mvE rfl (by conv => lhs; whnf) ?_
      refine R.mvE rfl (by conv => lhs; whnf) ?_
      refine R.mvE rfl (by conv => lhs; whnf) ?_
      refine R.mvE rfl (by conv => lhs; whnf) ?_
      obtain ⟨r26, er26⟩ : ∃ r, r = (slices_siftDownOrdered_Id_m xPa0l1 n9l1 ((a2 - a1)) a1) := ⟨_, rfl⟩
      refine TL.call [true] rfl rfl rfl (slices_siftDownOrdered_Id_c _ _ xPa0l1 _ wPa0l1 (n9l1) ((a2 - a1)) (a1) (by first | omega | (simp; done) | (simp; omega) | (simp at *; omega)) (by first | omega | (simp; done) | (simp; omega) | (simp at *; omega)) (by first | omega | (simp; done) | (simp; omega) | (simp at *; omega)) (by first | omega | (simp; done) | (simp; omega) | (simp at *; omega)) (by first | omega | (simp; done) | (simp; omega) | (simp at *; omega))) ?_
      intro v26 H26 L26 s26 q26
      rw [← er26] at q26
      obtain ⟨D26_a0, rfl, rfl, w26_a0⟩ := q26
      have n26_a0_ := OwnS.len w26_a0
      refine TL.nil (Post.blkN ?_)
      refine id (Post.thnN ?_)
      refine T.region ?_
      refine R.mvE rfl (by conv => lhs; whnf) ?_
      refine R.subI rfl rfl rfl (by omega) ?_
      refine R.asE rfl (by conv => lhs; whnf) ?_
      refine TL.nil (Post.thnN ?_)
      exact ⟨(ml1, (n9l1 - 1), r26, D26_a0), (s_l1.trans s26), ⟨(by first | omega | (simp; omega) | (simp at *; omega)), (Has.cons .hd Has.nil), w26_a0, (by first | omega | (simp; done) | (simp; omega) | (simp at *; omega)), (by first | omega | (simp; done) | (simp; omega) | (simp at *; omega)), (by subst er26; rw [← hQl1, slices_heapSortOrdered_Id_l1]; rw [if_pos c19, LR.seq_go])⟩, by show ml1 < ml1 + 1; omega, rfl, rfl, rfl, rfl, rfl, trivial⟩
    · refine T.set 19 (.bool false) (congrArg Value.bool (decide_eq_false c19)) ?_
      refine T.exit (Post.thnE (Post.thnE (Post.blkX ?_)))
      have hEl1 : slices_heapSortOrdered_Id_l1 a1 a2 ((((((a2 - a1) - 1) / 2)) + 1).toNat + 1) (((((a2 - a1) - 1) / 2), a0)) = (n9l1, xPa0l1) := (by rw [← hQl1, slices_heapSortOrdered_Id_l1]; rw [if_neg c19])
      refine id (Post.thnN ?_)
      refine T.seq ?_
      refine T.region ?_
      refine R.mvE rfl (by conv => lhs; whnf) ?_
      refine R.subI rfl rfl rfl (by omega) ?_
      refine R.asE rfl (by conv => lhs; whnf) ?_
      refine TL.nil (Post.thnN ?_)
      refine T.block ?_
      refine T.loop (ι := Nat × Int × (List Int) × Chunk) (fun ⟨kl2, n10l2, xPa0l2, cPa0l2⟩ H' L' ds' => (n10l2 + 1).toNat < kl2 ∧ Has L' [cPa0l2] ∧ OwnS (intE .u64) 26 H' (.slice Aa0 a0.length pa0) xPa0l2 cPa0l2 ∧ -1 ≤ n10l2 ∧ n10l2 < a2 - a1 ∧ slices_heapSortOrdered_Id_l2 a1 kl2 ((n10l2, xPa0l2)) = slices_heapSortOrdered_Id_l2 a1 (((((a2 - a1) - 1)) + 1).toNat + 1) ((((a2 - a1) - 1), xPa0l1))) (fun ⟨kl2, n10l2, xPa0l2, cPa0l2⟩ => [(0, .slice Aa0 a0.length pa0), (6, .int .i64 a1), (7, .int .i64 0), (10, .int .i64 n10l2)]) (fun ⟨kl2, n10l2, xPa0l2, cPa0l2⟩ => kl2) ((((((a2 - a1) - 1)) + 1).toNat + 1), ((a2 - a1) - 1), xPa0l1, cPa0l1) ?_ ?_ ?_
      · exact ⟨(by omega), (Has.cons .hd Has.nil), wPa0l1, (by first | omega | (simp; done) | (simp; omega) | (simp at *; omega)), (by first | omega | (simp; done) | (simp; omega) | (simp at *; omega)), (by rfl)⟩
      · exact ⟨rfl, rfl, rfl, rfl, trivial⟩
      · intro ⟨kl2, n10l2, xPa0l2, cPa0l2⟩ σ_l2 H_l2 L_l2 ds_l2 s_l2 hI_l2
        obtain ⟨hkl2, hI_l2⟩ := hI_l2
        obtain ⟨ml2, rfl⟩ : ∃ m, kl2 = m + 1 := ⟨kl2 - 1, by omega⟩
        obtain ⟨hLl2, wPa0l2, hBl2_0, hBl2_1, hQl2⟩ := hI_l2
        have nPa0l2_ := OwnS.len wPa0l2
        refine T.has hLl2 ?_
        refine T.seq ?_
        refine T.seq ?_
        refine T.region ?_
        refine R.mvE rfl (by conv => lhs; whnf) ?_
        refine R.geq rfl rfl rfl ?_
        refine TL.nil (Post.thnN ?_)
        refine T.condD rfl (fun c30 => ?_) (fun c30 => ?_)
        · refine T.set 30 (.bool true) (congrArg Value.bool (decide_eq_true c30)) ?_
          refine T.skip (Post.thnN ?_)
          refine T.seq ?_
          refine T.block ?_
          refine T.seq ?_
          refine T.cutK (ι := (List Int) × Chunk) (fun ⟨xPa0c3, cPa0c3⟩ H' L' ds' => Has L' [cPa0c3] ∧ OwnS (intE .u64) 26 H' (.slice Aa0 a0.length pa0) xPa0c3 cPa0c3 ∧ ((((xPa0l2.set a1.toNat (xPa0l2.getD (((a1 + n10l2)).toNat) (0 : Int)))).set (((a1 + n10l2)).toNat) (xPa0l2.getD a1.toNat (0 : Int))) : (List Int)) = xPa0c3) (fun ⟨xPa0c3, cPa0c3⟩ => [(0, .slice Aa0 a0.length pa0), (6, .int .i64 a1), (7, .int .i64 0), (10, .int .i64 n10l2)]) ?_ ?_
          · refine T.draw Try_mixed (by kernel_rfl) ?_
            refine Plan.v 0 [1, 2, 3, 4, 5, 6, 7, 8, 9, 10, 11, 12, 13, 14, 15, 16, 17, 18, 19] (by kernel_rfl) (by kernel_rfl) (by kernel_rfl) (by kernel_rfl) rfl (fun _ _ h_ => R.mvE rfl (by conv => lhs; whnf) (TL.nil h_)) ?_
            refine Plan.v 1 [2, 3, 4, 5, 6, 7, 8, 9, 10, 11, 12, 13, 14, 15, 16, 17, 18, 19] (by kernel_rfl) (by kernel_rfl) (by kernel_rfl) (by kernel_rfl) rfl (fun _ _ h_ => R.mvE rfl (by conv => lhs; whnf) (TL.nil h_)) ?_
            refine Plan.v 2 [3, 4, 5, 6, 7, 8, 9, 10, 11, 12, 13, 14, 15, 16, 17, 18, 19] (by kernel_rfl) (by kernel_rfl) (by kernel_rfl) (by kernel_rfl) rfl (fun _ _ h_ => R.mvE rfl (by conv => lhs; whnf) (TL.nil h_)) ?_
            refine Plan.v 3 [4, 5, 6, 7, 8, 9, 10, 11, 12, 13, 14, 15, 16, 17, 18, 19] (by kernel_rfl) (by kernel_rfl) (by kernel_rfl) (by kernel_rfl) rfl (fun _ _ h_ => R.mvE rfl (by conv => lhs; whnf) (TL.nil h_)) ?_
            refine Plan.v 4 [5, 6, 7, 8, 9, 10, 11, 12, 13, 14, 15, 16, 17, 18, 19] (by kernel_rfl) (by kernel_rfl) (by kernel_rfl) (by kernel_rfl) rfl (fun _ _ h_ => R.mvE rfl (by conv => lhs; whnf) (TL.nil h_)) ?_
            refine Plan.v 5 [6, 7, 8, 9, 10, 11, 12, 13, 14, 15, 16, 17, 18, 19] (by kernel_rfl) (by kernel_rfl) (by kernel_rfl) (by kernel_rfl) rfl (fun _ _ h_ => R.addI rfl rfl rfl (by omega) (TL.nil h_)) ?_
            refine Plan.v 6 [7, 8, 9, 10, 11, 12, 13, 14, 15, 16, 17, 18, 19] (by kernel_rfl) (by kernel_rfl) (by kernel_rfl) (by kernel_rfl) rfl (fun _ _ h_ => R.mvE rfl (by conv => lhs; whnf) (TL.nil h_)) ?_
            refine Plan.v 7 [8, 9, 10, 11, 12, 13, 14, 15, 16, 17, 18, 19] (by kernel_rfl) (by kernel_rfl) (by kernel_rfl) (by kernel_rfl) rfl (fun _ _ h_ => R.mvE rfl (by conv => lhs; whnf) (TL.nil h_)) ?_
            refine Plan.v 8 [9, 10, 11, 12, 13, 14, 15, 16, 17, 18, 19] (by kernel_rfl) (by kernel_rfl) (by kernel_rfl) (by kernel_rfl) rfl (fun _ _ h_ => R.mvE rfl (by conv => lhs; whnf) (TL.nil h_)) ?_
            refine Plan.v 9 [10, 11, 12, 13, 14, 15, 16, 17, 18, 19] (by kernel_rfl) (by kernel_rfl) (by kernel_rfl) (by kernel_rfl) rfl (fun _ _ h_ => R.addI rfl rfl rfl (by omega) (TL.nil h_)) ?_
            have hl43 : ((a1 + n10l2)).toNat < a0.length := by first | omega | (simp; done) | (simp; omega) | (simp at *; omega)
            obtain ⟨y43, e43, h43⟩ : ∃ y, y = (xPa0l2.getD (((a1 + n10l2)).toNat) (0 : Int)) ∧ xPa0l2[((a1 + n10l2)).toNat]? = some y := ⟨_, rfl, getD_get (by first | exact hl43 | simpa using hl43 | (simp only [List.length_set]; omega) | omega | (rw [(sortI_perm _).length_eq]; exact hl43))⟩
            obtain ⟨b43, u43, cs43, l43, f43, j43, i43, g43, k43⟩ := OwnS.elem wPa0l2 h43
            obtain rfl : l43 = [.int .u64 y43] := g43
            refine Plan.v 10 [11, 12, 13, 14, 15, 16, 17, 18, 19] (by kernel_rfl) (by kernel_rfl) (by kernel_rfl) (by kernel_rfl) rfl (fun _ _ h_ => R.ixp (sz := ((intE .u64)).size) Try.underlying22 Try.sizeOf26 rfl rfl rfl (by first | omega | (simp; done) | (simp; omega) | (simp at *; omega)) i43 (TL.nil h_)) ?_
            refine Plan.v 12 [11, 13, 14, 15, 16, 17, 18, 19] (by kernel_rfl) (by kernel_rfl) (by kernel_rfl) (by kernel_rfl) rfl (fun _ _ h_ => R.mvE rfl (by conv => lhs; whnf) (TL.nil h_)) ?_
            refine Plan.v 13 [11, 14, 15, 16, 17, 18, 19] (by kernel_rfl) (by kernel_rfl) (by kernel_rfl) (by kernel_rfl) rfl (fun _ _ h_ => R.mvE rfl (by conv => lhs; whnf) (TL.nil h_)) ?_
            have hl47 : a1.toNat < a0.length := by first | omega | (simp; done) | (simp; omega) | (simp at *; omega)
            obtain ⟨y47, e47, h47⟩ : ∃ y, y = (xPa0l2.getD a1.toNat (0 : Int)) ∧ xPa0l2[a1.toNat]? = some y := ⟨_, rfl, getD_get (by first | exact hl47 | simpa using hl47 | (simp only [List.length_set]; omega) | omega | (rw [(sortI_perm _).length_eq]; exact hl47))⟩
            obtain ⟨b47, u47, cs47, l47, f47, j47, i47, g47, k47⟩ := OwnS.elem wPa0l2 h47
            obtain rfl : l47 = [.int .u64 y47] := g47
            refine Plan.v 14 [11, 15, 16, 17, 18, 19] (by kernel_rfl) (by kernel_rfl) (by kernel_rfl) (by kernel_rfl) rfl (fun _ _ h_ => R.ixp (sz := ((intE .u64)).size) Try.underlying22 Try.sizeOf26 rfl rfl rfl (by first | omega | (simp; done) | (simp; omega) | (simp at *; omega)) i47 (TL.nil h_)) ?_
            refine Plan.s2 11 15 [15, 16, 17, 18, 19] [11, 16, 17, 18, 19] (by kernel_rfl) (by kernel_rfl) (by kernel_rfl) rfl rfl ?_ ?_
            · refine R.ld Try.isAgg26 rfl rfl (by rw [← f43]; exact .hd) (k43 0 _ rfl) ?_
              refine TL.nil (Plan.e1 (HLe.refl _) ?_)
              refine Plan.s1 15 [16, 17, 18, 19] (by kernel_rfl) (by kernel_rfl) rfl ?_
              refine R.ld Try.isAgg26 rfl rfl (by rw [← f47]; exact .hd) (k47 0 _ rfl) ?_
              refine TL.nil (Plan.e1 (HLe.refl _) ?_)
              have hl49 : a1.toNat < a0.length := by first | omega | (simp; done) | (simp; omega) | (simp at *; omega)
              obtain ⟨y49, e49, h49⟩ : ∃ y, y = (xPa0l2.getD a1.toNat (0 : Int)) ∧ xPa0l2[a1.toNat]? = some y := ⟨_, rfl, getD_get (by first | exact hl49 | simpa using hl49 | (simp only [List.length_set]; omega) | omega | (rw [(sortI_perm _).length_eq]; exact hl49))⟩
              obtain ⟨b49, u49, cs49, l49, f49, j49, i49, g49, k49⟩ := OwnS.elem wPa0l2 h49
              obtain rfl : l49 = [.int .u64 y49] := g49
              refine Plan.v 16 [17, 18, 19] (by kernel_rfl) (by kernel_rfl) (by kernel_rfl) (by kernel_rfl) rfl (fun _ _ h_ => R.ixp (sz := ((intE .u64)).size) Try.underlying22 Try.sizeOf26 rfl rfl rfl (by first | omega | (simp; done) | (simp; omega) | (simp at *; omega)) i49 (TL.nil h_)) ?_
              refine Plan.s1 17 [18, 19] (by kernel_rfl) (by kernel_rfl) rfl ?_
              refine R.stEF (E := (intE .u64)) (e := 26) (v := (.slice Aa0 a0.length pa0)) (m := [.int .u64 y43]) (o := 0) (y := y49) (y' := y43) (j := a1.toNat) Try.sizeOf26 rfl wPa0l2 .hd i49 rfl rfl (cells1 rfl) (all_one rfl) h49 (by show 0 + 1 ≤ 1; decide) (fun l hl => by have e0 : l = [.int .u64 y49] := hl; subst e0; exact rfl) ?_
              intro cst27 wst27
              refine TL.nil (Plan.e0 (HLe.refl _) ?_)
              have hl50 : ((a1 + n10l2)).toNat < a0.length := by first | omega | (simp; done) | (simp; omega) | (simp at *; omega)
              obtain ⟨y50, e50, h50⟩ : ∃ y, y = (((xPa0l2.set a1.toNat y43)).getD (((a1 + n10l2)).toNat) (0 : Int)) ∧ ((xPa0l2.set a1.toNat y43))[((a1 + n10l2)).toNat]? = some y := ⟨_, rfl, getD_get (by first | exact hl50 | simpa using hl50 | (simp only [List.length_set]; omega) | omega | (rw [(sortI_perm _).length_eq]; exact hl50))⟩
              obtain ⟨b50, u50, cs50, l50, f50, j50, i50, g50, k50⟩ := OwnS.elem wst27 h50
              obtain rfl : l50 = [.int .u64 y50] := g50
              refine Plan.v 18 [19] (by kernel_rfl) (by kernel_rfl) (by kernel_rfl) (by kernel_rfl) rfl (fun _ _ h_ => R.ixp (sz := ((intE .u64)).size) Try.underlying22 Try.sizeOf26 rfl rfl rfl (by first | omega | (simp; done) | (simp; omega) | (simp at *; omega)) i50 (TL.nil h_)) ?_
              refine Plan.s1 19 [] (by kernel_rfl) (by kernel_rfl) rfl ?_
              refine R.stEF (E := (intE .u64)) (e := 26) (v := (.slice Aa0 a0.length pa0)) (m := [.int .u64 y47]) (o := 0) (y := y50) (y' := y47) (j := ((a1 + n10l2)).toNat) Try.sizeOf26 rfl wst27 .hd i50 rfl rfl (cells1 rfl) (all_one rfl) h50 (by show 0 + 1 ≤ 1; decide) (fun l hl => by have e0 : l = [.int .u64 y50] := hl; subst e0; exact rfl) ?_
              intro cst28 wst28
              refine TL.nil (Plan.e0 (HLe.refl _) ?_)
              refine Plan.done (Post.thnN ?_)
              exact ⟨((((xPa0l2.set a1.toNat y43)).set (((a1 + n10l2)).toNat) y47), cst28), HLe.refl _, ⟨(Has.cons .hd Has.nil), wst28, (by subst e50; subst e49; subst e47; subst e43; rfl)⟩, rfl, rfl, rfl, rfl, trivial⟩
            · refine R.ld Try.isAgg26 rfl rfl (by rw [← f47]; exact .hd) (k47 0 _ rfl) ?_
              refine TL.nil (Plan.e1 (HLe.refl _) ?_)
              refine Plan.s1 11 [16, 17, 18, 19] (by kernel_rfl) (by kernel_rfl) rfl ?_
              refine R.ld Try.isAgg26 rfl rfl (by rw [← f43]; exact .hd) (k43 0 _ rfl) ?_
              refine TL.nil (Plan.e1 (HLe.refl _) ?_)
              have hl49 : a1.toNat < a0.length := by first | omega | (simp; done) | (simp; omega) | (simp at *; omega)
              obtain ⟨y49, e49, h49⟩ : ∃ y, y = (xPa0l2.getD a1.toNat (0 : Int)) ∧ xPa0l2[a1.toNat]? = some y := ⟨_, rfl, getD_get (by first | exact hl49 | simpa using hl49 | (simp only [List.length_set]; omega) | omega | (rw [(sortI_perm _).length_eq]; exact hl49))⟩
              obtain ⟨b49, u49, cs49, l49, f49, j49, i49, g49, k49⟩ := OwnS.elem wPa0l2 h49
              obtain rfl : l49 = [.int .u64 y49] := g49
              refine Plan.v 16 [17, 18, 19] (by kernel_rfl) (by kernel_rfl) (by kernel_rfl) (by kernel_rfl) rfl (fun _ _ h_ => R.ixp (sz := ((intE .u64)).size) Try.underlying22 Try.sizeOf26 rfl rfl rfl (by first | omega | (simp; done) | (simp; omega) | (simp at *; omega)) i49 (TL.nil h_)) ?_
              refine Plan.s1 17 [18, 19] (by kernel_rfl) (by kernel_rfl) rfl ?_
              refine R.stEF (E := (intE .u64)) (e := 26) (v := (.slice Aa0 a0.length pa0)) (m := [.int .u64 y43]) (o := 0) (y := y49) (y' := y43) (j := a1.toNat) Try.sizeOf26 rfl wPa0l2 .hd i49 rfl rfl (cells1 rfl) (all_one rfl) h49 (by show 0 + 1 ≤ 1; decide) (fun l hl => by have e0 : l = [.int .u64 y49] := hl; subst e0; exact rfl) ?_
              intro cst29 wst29
              refine TL.nil (Plan.e0 (HLe.refl _) ?_)
              have hl50 : ((a1 + n10l2)).toNat < a0.length := by first | omega | (simp; done) | (simp; omega) | (simp at *; omega)
              obtain ⟨y50, e50, h50⟩ : ∃ y, y = (((xPa0l2.set a1.toNat y43)).getD (((a1 + n10l2)).toNat) (0 : Int)) ∧ ((xPa0l2.set a1.toNat y43))[((a1 + n10l2)).toNat]? = some y := ⟨_, rfl, getD_get (by first | exact hl50 | simpa using hl50 | (simp only [List.length_set]; omega) | omega | (rw [(sortI_perm _).length_eq]; exact hl50))⟩
              obtain ⟨b50, u50, cs50, l50, f50, j50, i50, g50, k50⟩ := OwnS.elem wst29 h50
              obtain rfl : l50 = [.int .u64 y50] := g50
              refine Plan.v 18 [19] (by kernel_rfl) (by kernel_rfl) (by kernel_rfl) (by kernel_rfl) rfl (fun _ _ h_ => R.ixp (sz := ((intE .u64)).size) Try.underlying22 Try.sizeOf26 rfl rfl rfl (by first | omega | (simp; done) | (simp; omega) | (simp at *; omega)) i50 (TL.nil h_)) ?_
              refine Plan.s1 19 [] (by kernel_rfl) (by kernel_rfl) rfl ?_
              refine R.stEF (E := (intE .u64)) (e := 26) (v := (.slice Aa0 a0.length pa0)) (m := [.int .u64 y47]) (o := 0) (y := y50) (y' := y47) (j := ((a1 + n10l2)).toNat) Try.sizeOf26 rfl wst29 .hd i50 rfl rfl (cells1 rfl) (all_one rfl) h50 (by show 0 + 1 ≤ 1; decide) (fun l hl => by have e0 : l = [.int .u64 y50] := hl; subst e0; exact rfl) ?_
              intro cst30 wst30
              refine TL.nil (Plan.e0 (HLe.refl _) ?_)
              refine Plan.done (Post.thnN ?_)
              exact ⟨((((xPa0l2.set a1.toNat y43)).set (((a1 + n10l2)).toNat) y47), cst30), HLe.refl _, ⟨(Has.cons .hd Has.nil), wst30, (by subst e50; subst e49; subst e47; subst e43; rfl)⟩, rfl, rfl, rfl, rfl, trivial⟩
          · intro ⟨xPa0c3, cPa0c3⟩ σ_c3 H_c3 L_c3 ds_c3 s_c3 hI_c3
            obtain ⟨hLc3, wPa0c3, hTc3⟩ := hI_c3
            have nPa0c3_ := OwnS.len wPa0c3
            refine T.has hLc3 ?_
            refine T.region ?_
            refine R.mvE rfl (by conv => lhs; whnf) ?_
            refine R.mvE rfl (by conv => lhs; whnf) ?_
            refine R.mvE rfl (by conv => lhs; whnf) ?_
            refine R.mvE rfl (by conv => lhs; whnf) ?_
            obtain ⟨r55, er55⟩ : ∃ r, r = (slices_siftDownOrdered_Id_m xPa0c3 0 n10l2 a1) := ⟨_, rfl⟩
            refine TL.call [true] rfl rfl rfl (slices_siftDownOrdered_Id_c _ _ xPa0c3 _ wPa0c3 (0) (n10l2) (a1) (by first | omega | (simp; done) | (simp; omega) | (simp at *; omega)) (by first | omega | (simp; done) | (simp; omega) | (simp at *; omega)) (by first | omega | (simp; done) | (simp; omega) | (simp at *; omega)) (by first | omega | (simp; done) | (simp; omega) | (simp at *; omega)) (by first | omega | (simp; done) | (simp; omega) | (simp at *; omega))) ?_
            intro v55 H55 L55 s55 q55
            rw [← er55] at q55
            obtain ⟨D55_a0, rfl, rfl, w55_a0⟩ := q55
            have n55_a0_ := OwnS.len w55_a0
            refine TL.nil (Post.blkN ?_)
            refine id (Post.thnN ?_)
            refine T.region ?_
            refine R.mvE rfl (by conv => lhs; whnf) ?_
            refine R.subI rfl rfl rfl (by omega) ?_
            refine R.asE rfl (by conv => lhs; whnf) ?_
            refine TL.nil (Post.thnN ?_)
            exact ⟨(ml2, (n10l2 - 1), r55, D55_a0), (s_l2.trans (s_c3.trans s55)), ⟨(by first | omega | (simp; omega) | (simp at *; omega)), (Has.cons .hd Has.nil), w55_a0, (by first | omega | (simp; done) | (simp; omega) | (simp at *; omega)), (by first | omega | (simp; done) | (simp; omega) | (simp at *; omega)), (by subst er55; rw [← hQl2, slices_heapSortOrdered_Id_l2]; rw [if_pos c30, hTc3, LR.seq_go, LR.seq_go])⟩, by show ml2 < ml2 + 1; omega, rfl, rfl, rfl, rfl, trivial⟩
        · refine T.set 30 (.bool false) (congrArg Value.bool (decide_eq_false c30)) ?_
          refine T.exit (Post.thnE (Post.thnE (Post.blkX ?_)))
          have hEl2 : slices_heapSortOrdered_Id_l2 a1 (((((a2 - a1) - 1)) + 1).toNat + 1) ((((a2 - a1) - 1), xPa0l1)) = (n10l2, xPa0l2) := (by rw [← hQl2, slices_heapSortOrdered_Id_l2]; rw [if_neg c30])
          refine id ?_
          have hM : slices_heapSortOrdered_Id_m a0 a1 a2 = xPa0l2 := by rw [slices_heapSortOrdered_Id_m, hEl1, LR.seq_go, hEl2, LR.seq_go]
          exact fin0N [cPa0l2] rfl (List.Sublist.cons_cons _ (List.nil_sublist _)) ⟨cPa0l2, by first | rw [hM] | rfl, by first | rw [hM] | rfl, by rw [hM]; exact wPa0l2⟩

end Go.SX

set_option linter.unusedVariables false
set_option linter.unusedSimpArgs false
namespace Go.SX
open Go Go.Proofs

def slices_reverseRangeOrdered_Id_l1  : Nat → (Int × Int × (List Int)) → Int × Int × (List Int)
  | 0, _ => default
  | ml1 + 1, sl1 => if sl1.1 < sl1.2.1 then (LR.seq ((((sl1.2.2.set sl1.1.toNat (sl1.2.2.getD sl1.2.1.toNat (0 : Int)))).set sl1.2.1.toNat (sl1.2.2.getD sl1.1.toNat (0 : Int))) : (List Int)) (fun sc2 => slices_reverseRangeOrdered_Id_l1 ml1 (((sl1.1 + 1), (sl1.2.1 - 1), sc2)))) else ((sl1.1, sl1.2.1, sl1.2.2))
def slices_reverseRangeOrdered_Id_m (a0 : List Int) (a1 : Int) (a2 : Int) : (List Int) :=
  LR.seq (slices_reverseRangeOrdered_Id_l1 ((((a2 - 1)) - a1).toNat + 1) ((a1, (a2 - 1), a0))) (fun ol1 => ol1.2.2)
set_option maxHeartbeats 3200000 in
theorem slices_reverseRangeOrdered_Id_c (H : Heap) (va0 : Value) (a0 : List Int) (Ca0 : Chunk) (ha0 : OwnS (intE .u64) 26 H va0 a0 Ca0) (a1 : Int) (a2 : Int) (h1 : 0 ≤ a1) (h2 : a1 < a2) (h3 : a2 ≤ (a0.length : Int)) (hl : a0.length ≤ 4000000) : Fc Try.prog (fnv 114) [va0, .int .i64 a1, .int .i64 a2] H [Ca0] (fun v' H' L' => ∃ Da0, v' = .tuple #[] ∧ L' = [Da0] ∧ OwnS (intE .u64) 26 H' va0 (slices_reverseRangeOrdered_Id_m a0 a1 a2) Da0) := by
  refine Fc.of_body (N := 32) Try.func114 rfl (by kernel_rfl) rfl rfl ?_
  intro w0
  obtain ⟨Aa0, pa0, rfl, ma0, na0⟩ := OwnS.shape ha0
  refine T.seq ?_
  refine T.region ?_
  refine R.mvE rfl (by conv => lhs; whnf) ?_
  refine R.asE rfl (by conv => lhs; whnf) ?_
  refine TL.nil (Post.thnN ?_)
  refine T.seq ?_
  refine T.region ?_
  refine R.mvE rfl (by conv => lhs; whnf) ?_
  refine R.subI rfl rfl rfl (by omega) ?_
  refine R.asE rfl (by conv => lhs; whnf) ?_
  refine TL.nil (Post.thnN ?_)
  refine T.block ?_
  refine T.loop (ι := Nat × Int × Int × (List Int) × Chunk) (fun ⟨kl1, n6l1, n7l1, xPa0l1, cPa0l1⟩ H' L' ds' => (n7l1 - n6l1).toNat < kl1 ∧ Has L' [cPa0l1] ∧ OwnS (intE .u64) 26 H' (.slice Aa0 a0.length pa0) xPa0l1 cPa0l1 ∧ a1 ≤ n6l1 ∧ n7l1 < a2 ∧ n6l1 ≤ a2 ∧ a1 - 1 ≤ n7l1 ∧ slices_reverseRangeOrdered_Id_l1 kl1 ((n6l1, n7l1, xPa0l1)) = slices_reverseRangeOrdered_Id_l1 ((((a2 - 1)) - a1).toNat + 1) ((a1, (a2 - 1), a0))) (fun ⟨kl1, n6l1, n7l1, xPa0l1, cPa0l1⟩ => [(0, .slice Aa0 a0.length pa0), (6, .int .i64 n6l1), (7, .int .i64 n7l1)]) (fun ⟨kl1, n6l1, n7l1, xPa0l1, cPa0l1⟩ => kl1) (((((a2 - 1)) - a1).toNat + 1), a1, (a2 - 1), a0, Ca0) ?_ ?_ ?_
  · exact ⟨(by omega), (Has.cons .hd Has.nil), ha0, (by first | omega | (simp; done) | (simp; omega) | (simp at *; omega)), (by first | omega | (simp; done) | (simp; omega) | (simp at *; omega)), (by first | omega | (simp; done) | (simp; omega) | (simp at *; omega)), (by first | omega | (simp; done) | (simp; omega) | (simp at *; omega)), (by rfl)⟩
  · exact ⟨rfl, rfl, rfl, trivial⟩
  · intro ⟨kl1, n6l1, n7l1, xPa0l1, cPa0l1⟩ σ_l1 H_l1 L_l1 ds_l1 s_l1 hI_l1
    obtain ⟨hkl1, hI_l1⟩ := hI_l1
    obtain ⟨ml1, rfl⟩ : ∃ m, kl1 = m + 1 := ⟨kl1 - 1, by omega⟩
    obtain ⟨hLl1, wPa0l1, hBl1_0, hBl1_1, hBl1_2, hBl1_3, hQl1⟩ := hI_l1
    have nPa0l1_ := OwnS.len wPa0l1
    refine T.has hLl1 ?_
    refine T.seq ?_
    refine T.seq ?_
    refine T.region ?_
    refine R.mvE rfl (by conv => lhs; whnf) ?_
    refine R.mvE rfl (by conv => lhs; whnf) ?_
    refine R.lss rfl rfl rfl ?_
    refine TL.nil (Post.thnN ?_)
    refine T.condD rfl (fun c13 => ?_) (fun c13 => ?_)
    · refine T.set 13 (.bool true) (congrArg Value.bool (decide_eq_true c13)) ?_
      refine T.skip (Post.thnN ?_)
      refine T.block ?_
      refine T.seq ?_
      refine T.cutK (ι := (List Int) × Chunk) (fun ⟨xPa0c2, cPa0c2⟩ H' L' ds' => Has L' [cPa0c2] ∧ OwnS (intE .u64) 26 H' (.slice Aa0 a0.length pa0) xPa0c2 cPa0c2 ∧ ((((xPa0l1.set n6l1.toNat (xPa0l1.getD n7l1.toNat (0 : Int)))).set n7l1.toNat (xPa0l1.getD n6l1.toNat (0 : Int))) : (List Int)) = xPa0c2) (fun ⟨xPa0c2, cPa0c2⟩ => [(0, .slice Aa0 a0.length pa0), (6, .int .i64 n6l1), (7, .int .i64 n7l1)]) ?_ ?_
      · refine T.draw Try_mixed (by kernel_rfl) ?_
        refine Plan.v 0 [1, 2, 3, 4, 5, 6, 7, 8, 9, 10, 11, 12, 13, 14, 15] (by kernel_rfl) (by kernel_rfl) (by kernel_rfl) (by kernel_rfl) rfl (fun _ _ h_ => R.mvE rfl (by conv => lhs; whnf) (TL.nil h_)) ?_
        refine Plan.v 1 [2, 3, 4, 5, 6, 7, 8, 9, 10, 11, 12, 13, 14, 15] (by kernel_rfl) (by kernel_rfl) (by kernel_rfl) (by kernel_rfl) rfl (fun _ _ h_ => R.mvE rfl (by conv => lhs; whnf) (TL.nil h_)) ?_
        refine Plan.v 2 [3, 4, 5, 6, 7, 8, 9, 10, 11, 12, 13, 14, 15] (by kernel_rfl) (by kernel_rfl) (by kernel_rfl) (by kernel_rfl) rfl (fun _ _ h_ => R.mvE rfl (by conv => lhs; whnf) (TL.nil h_)) ?_
        refine Plan.v 3 [4, 5, 6, 7, 8, 9, 10, 11, 12, 13, 14, 15] (by kernel_rfl) (by kernel_rfl) (by kernel_rfl) (by kernel_rfl) rfl (fun _ _ h_ => R.mvE rfl (by conv => lhs; whnf) (TL.nil h_)) ?_
        refine Plan.v 4 [5, 6, 7, 8, 9, 10, 11, 12, 13, 14, 15] (by kernel_rfl) (by kernel_rfl) (by kernel_rfl) (by kernel_rfl) rfl (fun _ _ h_ => R.mvE rfl (by conv => lhs; whnf) (TL.nil h_)) ?_
        refine Plan.v 5 [6, 7, 8, 9, 10, 11, 12, 13, 14, 15] (by kernel_rfl) (by kernel_rfl) (by kernel_rfl) (by kernel_rfl) rfl (fun _ _ h_ => R.mvE rfl (by conv => lhs; whnf) (TL.nil h_)) ?_
        have hl20 : n7l1.toNat < a0.length := by first | omega | (simp; done) | (simp; omega) | (simp at *; omega)
        obtain ⟨y20, e20, h20⟩ : ∃ y, y = (xPa0l1.getD n7l1.toNat (0 : Int)) ∧ xPa0l1[n7l1.toNat]? = some y := ⟨_, rfl, getD_get (by first | exact hl20 | simpa using hl20 | (simp only [List.length_set]; omega) | omega | (rw [(sortI_perm _).length_eq]; exact hl20))⟩
        obtain ⟨b20, u20, cs20, l20, f20, j20, i20, g20, k20⟩ := OwnS.elem wPa0l1 h20
        obtain rfl : l20 = [.int .u64 y20] := g20
        refine Plan.v 6 [7, 8, 9, 10, 11, 12, 13, 14, 15] (by kernel_rfl) (by kernel_rfl) (by kernel_rfl) (by kernel_rfl) rfl (fun _ _ h_ => R.ixp (sz := ((intE .u64)).size) Try.underlying22 Try.sizeOf26 rfl rfl rfl (by first | omega | (simp; done) | (simp; omega) | (simp at *; omega)) i20 (TL.nil h_)) ?_
        refine Plan.v 8 [7, 9, 10, 11, 12, 13, 14, 15] (by kernel_rfl) (by kernel_rfl) (by kernel_rfl) (by kernel_rfl) rfl (fun _ _ h_ => R.mvE rfl (by conv => lhs; whnf) (TL.nil h_)) ?_
        refine Plan.v 9 [7, 10, 11, 12, 13, 14, 15] (by kernel_rfl) (by kernel_rfl) (by kernel_rfl) (by kernel_rfl) rfl (fun _ _ h_ => R.mvE rfl (by conv => lhs; whnf) (TL.nil h_)) ?_
        have hl24 : n6l1.toNat < a0.length := by first | omega | (simp; done) | (simp; omega) | (simp at *; omega)
        obtain ⟨y24, e24, h24⟩ : ∃ y, y = (xPa0l1.getD n6l1.toNat (0 : Int)) ∧ xPa0l1[n6l1.toNat]? = some y := ⟨_, rfl, getD_get (by first | exact hl24 | simpa using hl24 | (simp only [List.length_set]; omega) | omega | (rw [(sortI_perm _).length_eq]; exact hl24))⟩
        obtain ⟨b24, u24, cs24, l24, f24, j24, i24, g24, k24⟩ := OwnS.elem wPa0l1 h24
        obtain rfl : l24 = [.int .u64 y24] := g24
        refine Plan.v 10 [7, 11, 12, 13, 14, 15] (by kernel_rfl) (by kernel_rfl) (by kernel_rfl) (by kernel_rfl) rfl (fun _ _ h_ => R.ixp (sz := ((intE .u64)).size) Try.underlying22 Try.sizeOf26 rfl rfl rfl (by first | omega | (simp; done) | (simp; omega) | (simp at *; omega)) i24 (TL.nil h_)) ?_
        refine Plan.s2 7 11 [11, 12, 13, 14, 15] [7, 12, 13, 14, 15] (by kernel_rfl) (by kernel_rfl) (by kernel_rfl) rfl rfl ?_ ?_
        · refine R.ld Try.isAgg26 rfl rfl (by rw [← f20]; exact .hd) (k20 0 _ rfl) ?_
          refine TL.nil (Plan.e1 (HLe.refl _) ?_)
          refine Plan.s1 11 [12, 13, 14, 15] (by kernel_rfl) (by kernel_rfl) rfl ?_
          refine R.ld Try.isAgg26 rfl rfl (by rw [← f24]; exact .hd) (k24 0 _ rfl) ?_
          refine TL.nil (Plan.e1 (HLe.refl _) ?_)
          have hl26 : n6l1.toNat < a0.length := by first | omega | (simp; done) | (simp; omega) | (simp at *; omega)
          obtain ⟨y26, e26, h26⟩ : ∃ y, y = (xPa0l1.getD n6l1.toNat (0 : Int)) ∧ xPa0l1[n6l1.toNat]? = some y := ⟨_, rfl, getD_get (by first | exact hl26 | simpa using hl26 | (simp only [List.length_set]; omega) | omega | (rw [(sortI_perm _).length_eq]; exact hl26))⟩
          obtain ⟨b26, u26, cs26, l26, f26, j26, i26, g26, k26⟩ := OwnS.elem wPa0l1 h26
          obtain rfl : l26 = [.int .u64 y26] := g26
          refine Plan.v 12 [13, 14, 15] (by kernel_rfl) (by kernel_rfl) (by kernel_rfl) (by kernel_rfl) rfl (fun _ _ h_ => R.ixp (sz := ((intE .u64)).size) Try.underlying22 Try.sizeOf26 rfl rfl rfl (by first | omega | (simp; done) | (simp; omega) | (simp at *; omega)) i26 (TL.nil h_)) ?_
          refine Plan.s1 13 [14, 15] (by kernel_rfl) (by kernel_rfl) rfl ?_
          refine R.stEF (E := (intE .u64)) (e := 26) (v := (.slice Aa0 a0.length pa0)) (m := [.int .u64 y20]) (o := 0) (y := y26) (y' := y20) (j := n6l1.toNat) Try.sizeOf26 rfl wPa0l1 .hd i26 rfl rfl (cells1 rfl) (all_one rfl) h26 (by show 0 + 1 ≤ 1; decide) (fun l hl => by have e0 : l = [.int .u64 y26] := hl; subst e0; exact rfl) ?_
          intro cst15 wst15
          refine TL.nil (Plan.e0 (HLe.refl _) ?_)
          have hl27 : n7l1.toNat < a0.length := by first | omega | (simp; done) | (simp; omega) | (simp at *; omega)
          obtain ⟨y27, e27, h27⟩ : ∃ y, y = (((xPa0l1.set n6l1.toNat y20)).getD n7l1.toNat (0 : Int)) ∧ ((xPa0l1.set n6l1.toNat y20))[n7l1.toNat]? = some y := ⟨_, rfl, getD_get (by first | exact hl27 | simpa using hl27 | (simp only [List.length_set]; omega) | omega | (rw [(sortI_perm _).length_eq]; exact hl27))⟩
          obtain ⟨b27, u27, cs27, l27, f27, j27, i27, g27, k27⟩ := OwnS.elem wst15 h27
          obtain rfl : l27 = [.int .u64 y27] := g27
          refine Plan.v 14 [15] (by kernel_rfl) (by kernel_rfl) (by kernel_rfl) (by kernel_rfl) rfl (fun _ _ h_ => R.ixp (sz := ((intE .u64)).size) Try.underlying22 Try.sizeOf26 rfl rfl rfl (by first | omega | (simp; done) | (simp; omega) | (simp at *; omega)) i27 (TL.nil h_)) ?_
          refine Plan.s1 15 [] (by kernel_rfl) (by kernel_rfl) rfl ?_
          refine R.stEF (E := (intE .u64)) (e := 26) (v := (.slice Aa0 a0.length pa0)) (m := [.int .u64 y24]) (o := 0) (y := y27) (y' := y24) (j := n7l1.toNat) Try.sizeOf26 rfl wst15 .hd i27 rfl rfl (cells1 rfl) (all_one rfl) h27 (by show 0 + 1 ≤ 1; decide) (fun l hl => by have e0 : l = [.int .u64 y27] := hl; subst e0; exact rfl) ?_
          intro cst16 wst16
          refine TL.nil (Plan.e0 (HLe.refl _) ?_)
          refine Plan.done (Post.thnN ?_)
          exact ⟨((((xPa0l1.set n6l1.toNat y20)).set n7l1.toNat y24), cst16), HLe.refl _, ⟨(Has.cons .hd Has.nil), wst16, (by subst e27; subst e26; subst e24; subst e20; rfl)⟩, rfl, rfl, rfl, trivial⟩
        · refine R.ld Try.isAgg26 rfl rfl (by rw [← f24]; exact .hd) (k24 0 _ rfl) ?_
          refine TL.nil (Plan.e1 (HLe.refl _) ?_)
          refine Plan.s1 7 [12, 13, 14, 15] (by kernel_rfl) (by kernel_rfl) rfl ?_
          refine R.ld Try.isAgg26 rfl rfl (by rw [← f20]; exact .hd) (k20 0 _ rfl) ?_
          refine TL.nil (Plan.e1 (HLe.refl _) ?_)
          have hl26 : n6l1.toNat < a0.length := by first | omega | (simp; done) | (simp; omega) | (simp at *; omega)
          obtain ⟨y26, e26, h26⟩ : ∃ y, y = (xPa0l1.getD n6l1.toNat (0 : Int)) ∧ xPa0l1[n6l1.toNat]? = some y := ⟨_, rfl, getD_get (by first | exact hl26 | simpa using hl26 | (simp only [List.length_set]; omega) | omega | (rw [(sortI_perm _).length_eq]; exact hl26))⟩
          obtain ⟨b26, u26, cs26, l26, f26, j26, i26, g26, k26⟩ := OwnS.elem wPa0l1 h26
          obtain rfl : l26 = [.int .u64 y26] := g26
          refine Plan.v 12 [13, 14, 15] (by kernel_rfl) (by kernel_rfl) (by kernel_rfl) (by kernel_rfl) rfl (fun _ _ h_ => R.ixp (sz := ((intE .u64)).size) Try.underlying22 Try.sizeOf26 rfl rfl rfl (by first | omega | (simp; done) | (simp; omega) | (simp at *; omega)) i26 (TL.nil h_)) ?_
          refine Plan.s1 13 [14, 15] (by kernel_rfl) (by kernel_rfl) rfl ?_
          refine R.stEF (E := (intE .u64)) (e := 26) (v := (.slice Aa0 a0.length pa0)) (m := [.int .u64 y20]) (o := 0) (y := y26) (y' := y20) (j := n6l1.toNat) Try.sizeOf26 rfl wPa0l1 .hd i26 rfl rfl (cells1 rfl) (all_one rfl) h26 (by show 0 + 1 ≤ 1; decide) (fun l hl => by have e0 : l = [.int .u64 y26] := hl; subst e0; exact rfl) ?_
          intro cst17 wst17
          refine TL.nil (Plan.e0 (HLe.refl _) ?_)
          have hl27 : n7l1.toNat < a0.length := by first | omega | (simp; done) | (simp; omega) | (simp at *; omega)
          obtain ⟨y27, e27, h27⟩ : ∃ y, y = (((xPa0l1.set n6l1.toNat y20)).getD n7l1.toNat (0 : Int)) ∧ ((xPa0l1.set n6l1.toNat y20))[n7l1.toNat]? = some y := ⟨_, rfl, getD_get (by first | exact hl27 | simpa using hl27 | (simp only [List.length_set]; omega) | omega | (rw [(sortI_perm _).length_eq]; exact hl27))⟩
          obtain ⟨b27, u27, cs27, l27, f27, j27, i27, g27, k27⟩ := OwnS.elem wst17 h27
          obtain rfl : l27 = [.int .u64 y27] := g27
          refine Plan.v 14 [15] (by kernel_rfl) (by kernel_rfl) (by kernel_rfl) (by kernel_rfl) rfl (fun _ _ h_ => R.ixp (sz := ((intE .u64)).size) Try.underlying22 Try.sizeOf26 rfl rfl rfl (by first | omega | (simp; done) | (simp; omega) | (simp at *; omega)) i27 (TL.nil h_)) ?_
          refine Plan.s1 15 [] (by kernel_rfl) (by kernel_rfl) rfl ?_
          refine R.stEF (E := (intE .u64)) (e := 26) (v := (.slice Aa0 a0.length pa0)) (m := [.int .u64 y24]) (o := 0) (y := y27) (y' := y24) (j := n7l1.toNat) Try.sizeOf26 rfl wst17 .hd i27 rfl rfl (cells1 rfl) (all_one rfl) h27 (by show 0 + 1 ≤ 1; decide) (fun l hl => by have e0 : l = [.int .u64 y27] := hl; subst e0; exact rfl) ?_
          intro cst18 wst18
          refine TL.nil (Plan.e0 (HLe.refl _) ?_)
          refine Plan.done (Post.thnN ?_)
          exact ⟨((((xPa0l1.set n6l1.toNat y20)).set n7l1.toNat y24), cst18), HLe.refl _, ⟨(Has.cons .hd Has.nil), wst18, (by subst e27; subst e26; subst e24; subst e20; rfl)⟩, rfl, rfl, rfl, trivial⟩
      · intro ⟨xPa0c2, cPa0c2⟩ σ_c2 H_c2 L_c2 ds_c2 s_c2 hI_c2
        obtain ⟨hLc2, wPa0c2, hTc2⟩ := hI_c2
        have nPa0c2_ := OwnS.len wPa0c2
        refine T.has hLc2 ?_
        refine T.seq ?_
        refine T.region ?_
        refine R.mvE rfl (by conv => lhs; whnf) ?_
        refine R.addI rfl rfl rfl (by omega) ?_
        refine R.asE rfl (by conv => lhs; whnf) ?_
        refine TL.nil (Post.thnN ?_)
        refine T.region ?_
        refine R.mvE rfl (by conv => lhs; whnf) ?_
        refine R.subI rfl rfl rfl (by omega) ?_
        refine R.asE rfl (by conv => lhs; whnf) ?_
        refine TL.nil (Post.blkN ?_)
        refine id (Post.thnN ?_)
        exact ⟨(ml1, (n6l1 + 1), (n7l1 - 1), xPa0c2, cPa0c2), (s_l1.trans s_c2), ⟨(by first | omega | (simp; omega) | (simp at *; omega)), (Has.cons .hd Has.nil), wPa0c2, (by first | omega | (simp; done) | (simp; omega) | (simp at *; omega)), (by first | omega | (simp; done) | (simp; omega) | (simp at *; omega)), (by first | omega | (simp; done) | (simp; omega) | (simp at *; omega)), (by first | omega | (simp; done) | (simp; omega) | (simp at *; omega)), (by rw [← hQl1, slices_reverseRangeOrdered_Id_l1]; rw [if_pos c13, hTc2, LR.seq_go])⟩, by show ml1 < ml1 + 1; omega, rfl, rfl, rfl, trivial⟩
    · refine T.set 13 (.bool false) (congrArg Value.bool (decide_eq_false c13)) ?_
      refine T.exit (Post.thnE (Post.thnE (Post.blkX ?_)))
      have hEl1 : slices_reverseRangeOrdered_Id_l1 ((((a2 - 1)) - a1).toNat + 1) ((a1, (a2 - 1), a0)) = (n6l1, n7l1, xPa0l1) := (by rw [← hQl1, slices_reverseRangeOrdered_Id_l1]; rw [if_neg c13])
      refine id ?_
      have hM : slices_reverseRangeOrdered_Id_m a0 a1 a2 = xPa0l1 := by rw [slices_reverseRangeOrdered_Id_m, hEl1, LR.seq_go]
      exact fin0N [cPa0l1] rfl (List.Sublist.cons_cons _ (List.nil_sublist _)) ⟨cPa0l1, by first | rw [hM] | rfl, by first | rw [hM] | rfl, by rw [hM]; exact wPa0l1⟩

end Go.SX

set_option linter.unusedVariables false
set_option linter.unusedSimpArgs false
namespace Go.SX
open Go Go.Proofs

def slices_partialInsertionSortOrdered_Id_l6  : Nat → (Int × (List Int)) → Int × (List Int)
  | 0, _ => default
  | ml6 + 1, sl6 => if (1 : Int) ≤ sl6.1 then (LR.seq ((!(cmp_Less_Id_m (sl6.2.getD sl6.1.toNat (0 : Int)) (sl6.2.getD (((sl6.1 - 1)).toNat) (0 : Int)))) : Bool) (fun sc7 => if sc7 = true then ((sl6.1, sl6.2)) else (slices_partialInsertionSortOrdered_Id_l6 ml6 (((sl6.1 - 1), (((sl6.2.set sl6.1.toNat (sl6.2.getD (((sl6.1 - 1)).toNat) (0 : Int)))).set (((sl6.1 - 1)).toNat) (sl6.2.getD sl6.1.toNat (0 : Int)))))))) else ((sl6.1, sl6.2))
def slices_partialInsertionSortOrdered_Id_l8 (a2 : Int) : Nat → (Int × (List Int)) → Int × (List Int)
  | 0, _ => default
  | ml8 + 1, sl8 => if sl8.1 < a2 then (LR.seq ((!(cmp_Less_Id_m (sl8.2.getD sl8.1.toNat (0 : Int)) (sl8.2.getD (((sl8.1 - 1)).toNat) (0 : Int)))) : Bool) (fun sc9 => if sc9 = true then ((sl8.1, sl8.2)) else (slices_partialInsertionSortOrdered_Id_l8 a2 ml8 (((sl8.1 + 1), (((sl8.2.set sl8.1.toNat (sl8.2.getD (((sl8.1 - 1)).toNat) (0 : Int)))).set (((sl8.1 - 1)).toNat) (sl8.2.getD sl8.1.toNat (0 : Int)))))))) else ((sl8.1, sl8.2))
def slices_partialInsertionSortOrdered_Id_l2 (a2 : Int) (xPa0l1 : List Int) : Nat → Int → Int
  | 0, _ => default
  | ml2 + 1, sl2 => LR.seq (if sl2 < a2 then ((!(cmp_Less_Id_m (xPa0l1.getD sl2.toNat (0 : Int)) (xPa0l1.getD (((sl2 - 1)).toNat) (0 : Int))))) else false : Bool) (fun sc3 => if sc3 = true then (slices_partialInsertionSortOrdered_Id_l2 a2 xPa0l1 ml2 ((sl2 + 1))) else sl2)
def slices_partialInsertionSortOrdered_Id_l1 (a1 : Int) (a2 : Int) : Nat → (Int × Int × (List Int)) → LR (Bool × (List Int)) (Int × Int × (List Int))
  | 0, _ => .go default
  | ml1 + 1, sl1 => if sl1.2.1 < 5 then (LR.seq (slices_partialInsertionSortOrdered_Id_l2 a2 sl1.2.2 ((a2 - sl1.1).toNat + 1) sl1.1) (fun ol2 => if ol2 = a2 then (.ret ((true, sl1.2.2))) else (if ((a2 - a1) : Int) < 50 then (.ret ((false, sl1.2.2))) else (LR.seq ((((sl1.2.2.set ol2.toNat (sl1.2.2.getD (((ol2 - 1)).toNat) (0 : Int)))).set (((ol2 - 1)).toNat) (sl1.2.2.getD ol2.toNat (0 : Int))) : (List Int)) (fun sc4 => LR.seq (if (2 : Int) ≤ (ol2 - a1) then (LR.seq (slices_partialInsertionSortOrdered_Id_l6 (((ol2 - 1)).toNat + 1) (((ol2 - 1), sc4))) (fun ol6 => ol6.2)) else sc4 : (List Int)) (fun sc5 => if (2 : Int) ≤ (a2 - ol2) then (LR.seq (slices_partialInsertionSortOrdered_Id_l8 a2 ((a2 - ((ol2 + 1))).toNat + 1) (((ol2 + 1), sc5))) (fun ol8 => slices_partialInsertionSortOrdered_Id_l1 a1 a2 ml1 ((ol2, (sl1.2.1 + 1), ol8.2)))) else (slices_partialInsertionSortOrdered_Id_l1 a1 a2 ml1 ((ol2, (sl1.2.1 + 1), sc5))))))))) else (.go ((sl1.1, sl1.2.1, sl1.2.2)))
def slices_partialInsertionSortOrdered_Id_m (a0 : List Int) (a1 : Int) (a2 : Int) : Bool × (List Int) :=
  LR.on (slices_partialInsertionSortOrdered_Id_l1 a1 a2 ((5 - 0 : Int).toNat + 1) (((a1 + 1), 0, a0))) (fun r => r) (fun ol1 => (false, ol1.2.2))
set_option maxHeartbeats 3200000 in
theorem slices_partialInsertionSortOrdered_Id_c (H : Heap) (va0 : Value) (a0 : List Int) (Ca0 : Chunk) (ha0 : OwnS (intE .u64) 26 H va0 a0 Ca0) (a1 : Int) (a2 : Int) (h1 : 0 ≤ a1) (h2 : a1 < a2) (h3 : a2 ≤ (a0.length : Int)) (hl : a0.length ≤ 4000000) : Fc Try.prog (fnv 115) [va0, .int .i64 a1, .int .i64 a2] H [Ca0] (fun v' H' L' => ∃ Da0, v' = .bool (slices_partialInsertionSortOrdered_Id_m a0 a1 a2).1 ∧ L' = [Da0] ∧ OwnS (intE .u64) 26 H' va0 (slices_partialInsertionSortOrdered_Id_m a0 a1 a2).2 Da0) := by
  refine Fc.of_body (N := 133) Try.func115 rfl (by kernel_rfl) rfl rfl ?_
  intro w0
  obtain ⟨Aa0, pa0, rfl, ma0, na0⟩ := OwnS.shape ha0
  refine T.seq ?_
  refine T.region ?_
  refine R.asE rfl (by conv => lhs; whnf) ?_
  refine TL.nil (Post.thnN ?_)
  refine T.seq ?_
  refine T.region ?_
  refine R.mvE rfl (by conv => lhs; whnf) ?_
  refine R.addI rfl rfl rfl (by omega) ?_
  refine R.asE rfl (by conv => lhs; whnf) ?_
  refine TL.nil (Post.thnN ?_)
  refine T.seq ?_
  refine T.seq ?_
  refine T.region ?_
  refine R.asE rfl (by conv => lhs; whnf) ?_
  refine TL.nil (Post.thnN ?_)
  refine T.block ?_
  refine T.loop (ι := Nat × Int × Int × (List Int) × Chunk) (fun ⟨kl1, n7l1, n8l1, xPa0l1, cPa0l1⟩ H' L' ds' => (5 - n8l1 : Int).toNat < kl1 ∧ Has L' [cPa0l1] ∧ OwnS (intE .u64) 26 H' (.slice Aa0 a0.length pa0) xPa0l1 cPa0l1 ∧ 0 ≤ n8l1 ∧ n8l1 ≤ 5 ∧ a1 + 1 ≤ n7l1 ∧ n7l1 ≤ a2 ∧ slices_partialInsertionSortOrdered_Id_l1 a1 a2 kl1 ((n7l1, n8l1, xPa0l1)) = slices_partialInsertionSortOrdered_Id_l1 a1 a2 ((5 - 0 : Int).toNat + 1) (((a1 + 1), 0, a0))) (fun ⟨kl1, n7l1, n8l1, xPa0l1, cPa0l1⟩ => [(0, .slice Aa0 a0.length pa0), (1, .int .i64 a1), (2, .int .i64 a2), (7, .int .i64 n7l1), (8, .int .i64 n8l1)]) (fun ⟨kl1, n7l1, n8l1, xPa0l1, cPa0l1⟩ => kl1) (((5 - 0 : Int).toNat + 1), (a1 + 1), 0, a0, Ca0) ?_ ?_ ?_
  · exact ⟨(by omega), (Has.cons .hd Has.nil), ha0, (by first | omega | (simp; done) | (simp; omega) | (simp at *; omega)), (by first | omega | (simp; done) | (simp; omega) | (simp at *; omega)), (by first | omega | (simp; done) | (simp; omega) | (simp at *; omega)), (by first | omega | (simp; done) | (simp; omega) | (simp at *; omega)), (by rfl)⟩
  · exact ⟨rfl, rfl, rfl, rfl, rfl, trivial⟩
  · intro ⟨kl1, n7l1, n8l1, xPa0l1, cPa0l1⟩ σ_l1 H_l1 L_l1 ds_l1 s_l1 hI_l1
    obtain ⟨hkl1, hI_l1⟩ := hI_l1
    obtain ⟨ml1, rfl⟩ : ∃ m, kl1 = m + 1 := ⟨kl1 - 1, by omega⟩
    obtain ⟨hLl1, wPa0l1, hBl1_0, hBl1_1, hBl1_2, hBl1_3, hQl1⟩ := hI_l1
    have nPa0l1_ := OwnS.len wPa0l1
    refine T.has hLl1 ?_
    refine T.seq ?_
    refine T.seq ?_
    refine T.region ?_
    refine R.mvE rfl (by conv => lhs; whnf) ?_
    refine R.lss rfl rfl rfl ?_
    refine TL.nil (Post.thnN ?_)
    refine T.condD rfl (fun c14 => ?_) (fun c14 => ?_)
    · refine T.set 14 (.bool true) (congrArg Value.bool (decide_eq_true c14)) ?_
      refine T.skip (Post.thnN ?_)
      refine T.seq ?_
      refine T.block ?_
      refine T.seq ?_
      refine T.block ?_
      refine T.loop (ι := Nat × Int) (fun ⟨kl2, n7l2⟩ H' L' ds' => (a2 - n7l2).toNat < kl2 ∧ Has L' [cPa0l1] ∧ a1 + 1 ≤ n7l2 ∧ n7l2 ≤ a2 ∧ slices_partialInsertionSortOrdered_Id_l2 a2 xPa0l1 kl2 n7l2 = slices_partialInsertionSortOrdered_Id_l2 a2 xPa0l1 ((a2 - n7l1).toNat + 1) n7l1) (fun ⟨kl2, n7l2⟩ => [(0, .slice Aa0 a0.length pa0), (1, .int .i64 a1), (2, .int .i64 a2), (7, .int .i64 n7l2), (8, .int .i64 n8l1)]) (fun ⟨kl2, n7l2⟩ => kl2) (((a2 - n7l1).toNat + 1), n7l1) ?_ ?_ ?_
      · exact ⟨(by omega), (Has.cons .hd Has.nil), (by first | omega | (simp; done) | (simp; omega) | (simp at *; omega)), (by first | omega | (simp; done) | (simp; omega) | (simp at *; omega)), (by rfl)⟩
      · exact ⟨rfl, rfl, rfl, rfl, rfl, trivial⟩
      · intro ⟨kl2, n7l2⟩ σ_l2 H_l2 L_l2 ds_l2 s_l2 hI_l2
        obtain ⟨hkl2, hI_l2⟩ := hI_l2
        obtain ⟨ml2, rfl⟩ : ∃ m, kl2 = m + 1 := ⟨kl2 - 1, by omega⟩
        obtain ⟨hLl2, hBl2_0, hBl2_1, hQl2⟩ := hI_l2
        refine T.has hLl2 ?_
        refine T.seq ?_
        refine T.seq ?_
        refine T.cutK (ι := Bool) (fun b32c3 H' L' ds' => Has L' [cPa0l1] ∧ (if n7l2 < a2 then ((!(cmp_Less_Id_m (xPa0l1.getD n7l2.toNat (0 : Int)) (xPa0l1.getD (((n7l2 - 1)).toNat) (0 : Int))))) else false : Bool) = b32c3) (fun b32c3 => [(0, .slice Aa0 a0.length pa0), (1, .int .i64 a1), (2, .int .i64 a2), (7, .int .i64 n7l2), (8, .int .i64 n8l1), (32, .bool (b32c3))]) ?_ ?_
        · refine T.draw Try_mixed (by kernel_rfl) ?_
          refine Plan.v 0 [1, 2, 3, 4, 5, 6, 7, 8, 9, 10, 11, 12, 13, 14, 15] (by kernel_rfl) (by kernel_rfl) (by kernel_rfl) (by kernel_rfl) rfl (fun _ _ h_ => R.mvE rfl (by conv => lhs; whnf) (TL.nil h_)) ?_
          refine Plan.v 1 [2, 3, 4, 5, 6, 7, 8, 9, 10, 11, 12, 13, 14, 15] (by kernel_rfl) (by kernel_rfl) (by kernel_rfl) (by kernel_rfl) rfl (fun _ _ h_ => R.mvE rfl (by conv => lhs; whnf) (TL.nil h_)) ?_
          refine Plan.v 2 [3, 4, 5, 6, 7, 8, 9, 10, 11, 12, 13, 14, 15] (by kernel_rfl) (by kernel_rfl) (by kernel_rfl) (by kernel_rfl) rfl (fun _ _ h_ => R.lss rfl rfl rfl (TL.nil h_)) ?_
          refine Plan.v 3 [4, 5, 6, 7, 8, 9, 10, 11, 12, 13, 14, 15] (by kernel_rfl) (by kernel_rfl) (by kernel_rfl) (by kernel_rfl) rfl (fun _ _ h_ => R.mvE rfl (by conv => lhs; whnf) (TL.nil h_)) ?_
          refine Plan.gsplitD 20 rfl (fun g20 => ?_) (fun g20 => ?_)
          · refine Plan.v 4 [5, 6, 7, 8, 9, 10, 11, 12, 13, 14, 15] (by kernel_rfl) (by kernel_rfl) (by kernel_rfl) (by kernel_rfl) rfl (fun _ _ h_ => R.mvE rfl (by conv => lhs; whnf) (TL.nil h_)) ?_
            refine Plan.v 5 [6, 7, 8, 9, 10, 11, 12, 13, 14, 15] (by kernel_rfl) (by kernel_rfl) (by kernel_rfl) (by kernel_rfl) rfl (fun _ _ h_ => R.mvE rfl (by conv => lhs; whnf) (TL.nil h_)) ?_
            have hl23 : n7l2.toNat < a0.length := by first | omega | (simp; done) | (simp; omega) | (simp at *; omega)
            obtain ⟨y23, e23, h23⟩ : ∃ y, y = (xPa0l1.getD n7l2.toNat (0 : Int)) ∧ xPa0l1[n7l2.toNat]? = some y := ⟨_, rfl, getD_get (by first | exact hl23 | simpa using hl23 | (simp only [List.length_set]; omega) | omega | (rw [(sortI_perm _).length_eq]; exact hl23))⟩
            obtain ⟨b23, u23, cs23, l23, f23, j23, i23, g23, k23⟩ := OwnS.elem (OwnS.mono wPa0l1 s_l2) h23
            obtain rfl : l23 = [.int .u64 y23] := g23
            refine Plan.v 6 [7, 8, 9, 10, 11, 12, 13, 14, 15] (by kernel_rfl) (by kernel_rfl) (by kernel_rfl) (by kernel_rfl) rfl (fun _ _ h_ => R.ixp (sz := ((intE .u64)).size) Try.underlying22 Try.sizeOf26 rfl rfl rfl (by first | omega | (simp; done) | (simp; omega) | (simp at *; omega)) i23 (TL.nil h_)) ?_
            refine Plan.v 8 [7, 9, 10, 11, 12, 13, 14, 15] (by kernel_rfl) (by kernel_rfl) (by kernel_rfl) (by kernel_rfl) rfl (fun _ _ h_ => R.mvE rfl (by conv => lhs; whnf) (TL.nil h_)) ?_
            refine Plan.v 9 [7, 10, 11, 12, 13, 14, 15] (by kernel_rfl) (by kernel_rfl) (by kernel_rfl) (by kernel_rfl) rfl (fun _ _ h_ => R.mvE rfl (by conv => lhs; whnf) (TL.nil h_)) ?_
            refine Plan.v 10 [7, 11, 12, 13, 14, 15] (by kernel_rfl) (by kernel_rfl) (by kernel_rfl) (by kernel_rfl) rfl (fun _ _ h_ => R.subI rfl rfl rfl (by omega) (TL.nil h_)) ?_
            have hl28 : ((n7l2 - 1)).toNat < a0.length := by first | omega | (simp; done) | (simp; omega) | (simp at *; omega)
            obtain ⟨y28, e28, h28⟩ : ∃ y, y = (xPa0l1.getD (((n7l2 - 1)).toNat) (0 : Int)) ∧ xPa0l1[((n7l2 - 1)).toNat]? = some y := ⟨_, rfl, getD_get (by first | exact hl28 | simpa using hl28 | (simp only [List.length_set]; omega) | omega | (rw [(sortI_perm _).length_eq]; exact hl28))⟩
            obtain ⟨b28, u28, cs28, l28, f28, j28, i28, g28, k28⟩ := OwnS.elem (OwnS.mono wPa0l1 s_l2) h28
            obtain rfl : l28 = [.int .u64 y28] := g28
            refine Plan.v 11 [7, 12, 13, 14, 15] (by kernel_rfl) (by kernel_rfl) (by kernel_rfl) (by kernel_rfl) rfl (fun _ _ h_ => R.ixp (sz := ((intE .u64)).size) Try.underlying22 Try.sizeOf26 rfl rfl rfl (by first | omega | (simp; done) | (simp; omega) | (simp at *; omega)) i28 (TL.nil h_)) ?_
            refine Plan.s2 7 12 [12, 13, 14, 15] [7, 13, 14, 15] (by kernel_rfl) (by kernel_rfl) (by kernel_rfl) rfl rfl ?_ ?_
            · refine R.ld Try.isAgg26 rfl rfl (by rw [← f23]; exact .hd) (k23 0 _ rfl) ?_
              refine TL.nil (Plan.e1 (HLe.refl _) ?_)
              refine Plan.s1 12 [13, 14, 15] (by kernel_rfl) (by kernel_rfl) rfl ?_
              refine R.ld Try.isAgg26 rfl rfl (by rw [← f28]; exact .hd) (k28 0 _ rfl) ?_
              refine TL.nil (Plan.e1 (HLe.refl _) ?_)
              refine Plan.v 13 [14, 15] (by kernel_rfl) (by kernel_rfl) (by kernel_rfl) (by kernel_rfl) rfl (fun _ _ h_ => R.callv rfl rfl rfl (cmp_Less_Id_c _ (y23) (y28)) (TL.nil h_)) ?_
              refine Plan.v 14 [15] (by kernel_rfl) (by kernel_rfl) (by kernel_rfl) (by kernel_rfl) rfl (fun _ _ h_ => R.not rfl rfl (TL.nil h_)) ?_
              refine Plan.v 15 [] (by kernel_rfl) (by kernel_rfl) (by kernel_rfl) (by kernel_rfl) rfl (fun _ _ h_ => R.pkTE rfl rfl (by conv => lhs; whnf) (TL.nil h_)) ?_
              refine Plan.done (Post.thnN ?_)
              exact ⟨(!(cmp_Less_Id_m y23 y28)), HLe.refl _, ⟨(Has.cons .hd Has.nil), (by subst e28; subst e23; rw [if_pos g20])⟩, rfl, rfl, rfl, rfl, rfl, rfl, trivial⟩
            · refine R.ld Try.isAgg26 rfl rfl (by rw [← f28]; exact .hd) (k28 0 _ rfl) ?_
              refine TL.nil (Plan.e1 (HLe.refl _) ?_)
              refine Plan.s1 7 [13, 14, 15] (by kernel_rfl) (by kernel_rfl) rfl ?_
              refine R.ld Try.isAgg26 rfl rfl (by rw [← f23]; exact .hd) (k23 0 _ rfl) ?_
              refine TL.nil (Plan.e1 (HLe.refl _) ?_)
              refine Plan.v 13 [14, 15] (by kernel_rfl) (by kernel_rfl) (by kernel_rfl) (by kernel_rfl) rfl (fun _ _ h_ => R.callv rfl rfl rfl (cmp_Less_Id_c _ (y23) (y28)) (TL.nil h_)) ?_
              refine Plan.v 14 [15] (by kernel_rfl) (by kernel_rfl) (by kernel_rfl) (by kernel_rfl) rfl (fun _ _ h_ => R.not rfl rfl (TL.nil h_)) ?_
              refine Plan.v 15 [] (by kernel_rfl) (by kernel_rfl) (by kernel_rfl) (by kernel_rfl) rfl (fun _ _ h_ => R.pkTE rfl rfl (by conv => lhs; whnf) (TL.nil h_)) ?_
              refine Plan.done (Post.thnN ?_)
              exact ⟨(!(cmp_Less_Id_m y23 y28)), HLe.refl _, ⟨(Has.cons .hd Has.nil), (by subst e28; subst e23; rw [if_pos g20])⟩, rfl, rfl, rfl, rfl, rfl, rfl, trivial⟩
          · refine Plan.v 4 [5, 6, 7, 8, 9, 10, 11, 12, 13, 14, 15] (by kernel_rfl) (by kernel_rfl) (by kernel_rfl) (by kernel_rfl) rfl (fun _ _ h_ => TL.off rfl rfl rfl (TL.nil h_)) ?_
            refine Plan.v 5 [6, 7, 8, 9, 10, 11, 12, 13, 14, 15] (by kernel_rfl) (by kernel_rfl) (by kernel_rfl) (by kernel_rfl) rfl (fun _ _ h_ => TL.off rfl rfl rfl (TL.nil h_)) ?_
            refine Plan.v 6 [7, 8, 9, 10, 11, 12, 13, 14, 15] (by kernel_rfl) (by kernel_rfl) (by kernel_rfl) (by kernel_rfl) rfl (fun _ _ h_ => TL.off rfl rfl rfl (TL.nil h_)) ?_
            refine Plan.v 7 [8, 9, 10, 11, 12, 13, 14, 15] (by kernel_rfl) (by kernel_rfl) (by kernel_rfl) (by kernel_rfl) rfl (fun _ _ h_ => TL.off rfl rfl rfl (TL.nil h_)) ?_
            refine Plan.v 8 [9, 10, 11, 12, 13, 14, 15] (by kernel_rfl) (by kernel_rfl) (by kernel_rfl) (by kernel_rfl) rfl (fun _ _ h_ => TL.off rfl rfl rfl (TL.nil h_)) ?_
            refine Plan.v 9 [10, 11, 12, 13, 14, 15] (by kernel_rfl) (by kernel_rfl) (by kernel_rfl) (by kernel_rfl) rfl (fun _ _ h_ => TL.off rfl rfl rfl (TL.nil h_)) ?_
            refine Plan.v 10 [11, 12, 13, 14, 15] (by kernel_rfl) (by kernel_rfl) (by kernel_rfl) (by kernel_rfl) rfl (fun _ _ h_ => TL.off rfl rfl rfl (TL.nil h_)) ?_
            refine Plan.v 11 [12, 13, 14, 15] (by kernel_rfl) (by kernel_rfl) (by kernel_rfl) (by kernel_rfl) rfl (fun _ _ h_ => TL.off rfl rfl rfl (TL.nil h_)) ?_
            refine Plan.v 12 [13, 14, 15] (by kernel_rfl) (by kernel_rfl) (by kernel_rfl) (by kernel_rfl) rfl (fun _ _ h_ => TL.off rfl rfl rfl (TL.nil h_)) ?_
            refine Plan.v 13 [14, 15] (by kernel_rfl) (by kernel_rfl) (by kernel_rfl) (by kernel_rfl) rfl (fun _ _ h_ => TL.off rfl rfl rfl (TL.nil h_)) ?_
            refine Plan.v 14 [15] (by kernel_rfl) (by kernel_rfl) (by kernel_rfl) (by kernel_rfl) rfl (fun _ _ h_ => TL.off rfl rfl rfl (TL.nil h_)) ?_
            refine Plan.v 15 [] (by kernel_rfl) (by kernel_rfl) (by kernel_rfl) (by kernel_rfl) rfl (fun _ _ h_ => R.pkFE rfl rfl (by conv => lhs; whnf) (TL.nil h_)) ?_
            refine Plan.done (Post.thnN ?_)
            exact ⟨false, HLe.refl _, ⟨(Has.cons .hd Has.nil), (by rw [if_neg g20])⟩, rfl, rfl, rfl, rfl, rfl, rfl, trivial⟩
        · intro b32c3 σ_c3 H_c3 L_c3 ds_c3 s_c3 hI_c3
          obtain ⟨hLc3, hTc3⟩ := hI_c3
          refine T.has hLc3 ?_
          refine T.cond rfl (fun c32 => ?_) (fun c32 => ?_)
          · refine T.set 32 (.bool true) (congrArg Value.bool c32) ?_
            have hZ32 := hTc3.trans c32
            try simp only [or_f, or_t, and_f, and_t, decide_eq_true_eq, decide_eq_false_iff_not, Bool.not_eq_true'] at hZ32
            refine T.skip (Post.thnN ?_)
            refine T.block ?_
            refine T.region ?_
            refine R.mvE rfl (by conv => lhs; whnf) ?_
            refine R.addI rfl rfl rfl (by omega) ?_
            refine R.asE rfl (by conv => lhs; whnf) ?_
            refine TL.nil (Post.blkN ?_)
            refine id (Post.thnN ?_)
            exact ⟨(ml2, (n7l2 + 1)), (s_l2.trans s_c3), ⟨(by first | omega | (simp; omega) | (simp at *; omega)), (Has.cons .hd Has.nil), (by first | omega | (simp; done) | (simp; omega) | (simp at *; omega)), (by first | omega | (simp; done) | (simp; omega) | (simp at *; omega)), (by rw [← hQl2, slices_partialInsertionSortOrdered_Id_l2]; rw [hTc3, LR.seq_go, if_t c32])⟩, by show ml2 < ml2 + 1; omega, rfl, rfl, rfl, rfl, rfl, trivial⟩
          · refine T.set 32 (.bool false) (congrArg Value.bool c32) ?_
            have hZ32 := hTc3.trans c32
            try simp only [or_f, or_t, and_f, and_t, decide_eq_true_eq, decide_eq_false_iff_not, Bool.not_eq_true'] at hZ32
            refine T.exit (Post.thnE (Post.thnE (Post.blkX ?_)))
            have hEl2 : slices_partialInsertionSortOrdered_Id_l2 a2 xPa0l1 ((a2 - n7l1).toNat + 1) n7l1 = n7l2 := (by rw [← hQl2, slices_partialInsertionSortOrdered_Id_l2]; rw [hTc3, LR.seq_go, if_f c32])
            refine id (Post.thnN ?_)
            refine T.seq ?_
            refine T.seq ?_
            refine T.region ?_
            refine R.mvE rfl (by conv => lhs; whnf) ?_
            refine R.mvE rfl (by conv => lhs; whnf) ?_
            refine R.eql rfl rfl rfl ?_
            refine TL.nil (Post.thnN ?_)
            refine T.condD rfl (fun c37 => ?_) (fun c37 => ?_)
            · refine T.set 37 (.bool true) (congrArg Value.bool (decide_eq_true c37)) ?_
              refine T.seq ?_
              refine T.region ?_
              refine R.asE rfl (by conv => lhs; whnf) ?_
              refine TL.nil (Post.thnN ?_)
              refine T.has (Has.cons .hd Has.nil) ?_
              refine T.ret (Post.thnR (Post.blkR (Post.thnR (Post.thnR (Post.blkR (Post.thnR ?_))))))
              have hXl1 : slices_partialInsertionSortOrdered_Id_l1 a1 a2 ((5 - 0 : Int).toNat + 1) (((a1 + 1), 0, a0)) = .ret ((true, xPa0l1)) := by rw [← hQl1, slices_partialInsertionSortOrdered_Id_l1]; rw [if_pos c14, hEl2, LR.seq_go, if_pos c37]
              have hM : slices_partialInsertionSortOrdered_Id_m a0 a1 a2 = (true, xPa0l1) := by rw [slices_partialInsertionSortOrdered_Id_m, hXl1, LR.on_ret]
              exact fin1L (v := .bool true) [cPa0l1] rfl rfl (List.Sublist.refl _) ⟨cPa0l1, by first | rw [hM] | rfl, by first | rw [hM] | rfl, by rw [hM]; exact (OwnS.mono wPa0l1 (s_l2.trans s_c3))⟩
            · refine T.set 37 (.bool false) (congrArg Value.bool (decide_eq_false c37)) ?_
              refine T.skip (Post.thnN ?_)
              refine T.seq ?_
              refine T.seq ?_
              refine T.region ?_
              refine R.mvE rfl (by conv => lhs; whnf) ?_
              refine R.mvE rfl (by conv => lhs; whnf) ?_
              refine R.subI rfl rfl rfl (by omega) ?_
              refine R.lss rfl rfl rfl ?_
              refine TL.nil (Post.thnN ?_)
              refine T.condD rfl (fun c41 => ?_) (fun c41 => ?_)
              · refine T.set 41 (.bool true) (congrArg Value.bool (decide_eq_true c41)) ?_
                refine T.seq ?_
                refine T.region ?_
                refine R.asE rfl (by conv => lhs; whnf) ?_
                refine TL.nil (Post.thnN ?_)
                refine T.has (Has.cons .hd Has.nil) ?_
                refine T.ret (Post.thnR (Post.blkR (Post.thnR (Post.thnR (Post.blkR (Post.thnR ?_))))))
                have hXl1 : slices_partialInsertionSortOrdered_Id_l1 a1 a2 ((5 - 0 : Int).toNat + 1) (((a1 + 1), 0, a0)) = .ret ((false, xPa0l1)) := by rw [← hQl1, slices_partialInsertionSortOrdered_Id_l1]; rw [if_pos c14, hEl2, LR.seq_go, if_neg c37, if_pos c41]
                have hM : slices_partialInsertionSortOrdered_Id_m a0 a1 a2 = (false, xPa0l1) := by rw [slices_partialInsertionSortOrdered_Id_m, hXl1, LR.on_ret]
                exact fin1L (v := .bool false) [cPa0l1] rfl rfl (List.Sublist.refl _) ⟨cPa0l1, by first | rw [hM] | rfl, by first | rw [hM] | rfl, by rw [hM]; exact (OwnS.mono wPa0l1 (s_l2.trans s_c3))⟩
              · refine T.set 41 (.bool false) (congrArg Value.bool (decide_eq_false c41)) ?_
                refine T.skip (Post.thnN ?_)
                refine T.seq ?_
                refine T.cutK (ι := (List Int) × Chunk) (fun ⟨xPa0c4, cPa0c4⟩ H' L' ds' => Has L' [cPa0c4] ∧ OwnS (intE .u64) 26 H' (.slice Aa0 a0.length pa0) xPa0c4 cPa0c4 ∧ ((((xPa0l1.set n7l2.toNat (xPa0l1.getD (((n7l2 - 1)).toNat) (0 : Int)))).set (((n7l2 - 1)).toNat) (xPa0l1.getD n7l2.toNat (0 : Int))) : (List Int)) = xPa0c4) (fun ⟨xPa0c4, cPa0c4⟩ => [(0, .slice Aa0 a0.length pa0), (1, .int .i64 a1), (2, .int .i64 a2), (7, .int .i64 n7l2), (8, .int .i64 n8l1)]) ?_ ?_
                · refine T.draw Try_mixed (by kernel_rfl) ?_
                  refine Plan.v 0 [1, 2, 3, 4, 5, 6, 7, 8, 9, 10, 11, 12, 13, 14, 15, 16, 17] (by kernel_rfl) (by kernel_rfl) (by kernel_rfl) (by kernel_rfl) rfl (fun _ _ h_ => R.mvE rfl (by conv => lhs; whnf) (TL.nil h_)) ?_
                  refine Plan.v 1 [2, 3, 4, 5, 6, 7, 8, 9, 10, 11, 12, 13, 14, 15, 16, 17] (by kernel_rfl) (by kernel_rfl) (by kernel_rfl) (by kernel_rfl) rfl (fun _ _ h_ => R.mvE rfl (by conv => lhs; whnf) (TL.nil h_)) ?_
                  refine Plan.v 2 [3, 4, 5, 6, 7, 8, 9, 10, 11, 12, 13, 14, 15, 16, 17] (by kernel_rfl) (by kernel_rfl) (by kernel_rfl) (by kernel_rfl) rfl (fun _ _ h_ => R.mvE rfl (by conv => lhs; whnf) (TL.nil h_)) ?_
                  refine Plan.v 3 [4, 5, 6, 7, 8, 9, 10, 11, 12, 13, 14, 15, 16, 17] (by kernel_rfl) (by kernel_rfl) (by kernel_rfl) (by kernel_rfl) rfl (fun _ _ h_ => R.mvE rfl (by conv => lhs; whnf) (TL.nil h_)) ?_
                  refine Plan.v 4 [5, 6, 7, 8, 9, 10, 11, 12, 13, 14, 15, 16, 17] (by kernel_rfl) (by kernel_rfl) (by kernel_rfl) (by kernel_rfl) rfl (fun _ _ h_ => R.subI rfl rfl rfl (by omega) (TL.nil h_)) ?_
                  refine Plan.v 5 [6, 7, 8, 9, 10, 11, 12, 13, 14, 15, 16, 17] (by kernel_rfl) (by kernel_rfl) (by kernel_rfl) (by kernel_rfl) rfl (fun _ _ h_ => R.mvE rfl (by conv => lhs; whnf) (TL.nil h_)) ?_
                  refine Plan.v 6 [7, 8, 9, 10, 11, 12, 13, 14, 15, 16, 17] (by kernel_rfl) (by kernel_rfl) (by kernel_rfl) (by kernel_rfl) rfl (fun _ _ h_ => R.mvE rfl (by conv => lhs; whnf) (TL.nil h_)) ?_
                  refine Plan.v 7 [8, 9, 10, 11, 12, 13, 14, 15, 16, 17] (by kernel_rfl) (by kernel_rfl) (by kernel_rfl) (by kernel_rfl) rfl (fun _ _ h_ => R.subI rfl rfl rfl (by omega) (TL.nil h_)) ?_
                  have hl50 : ((n7l2 - 1)).toNat < a0.length := by first | omega | (simp; done) | (simp; omega) | (simp at *; omega)
                  obtain ⟨y50, e50, h50⟩ : ∃ y, y = (xPa0l1.getD (((n7l2 - 1)).toNat) (0 : Int)) ∧ xPa0l1[((n7l2 - 1)).toNat]? = some y := ⟨_, rfl, getD_get (by first | exact hl50 | simpa using hl50 | (simp only [List.length_set]; omega) | omega | (rw [(sortI_perm _).length_eq]; exact hl50))⟩
                  obtain ⟨b50, u50, cs50, l50, f50, j50, i50, g50, k50⟩ := OwnS.elem (OwnS.mono wPa0l1 (s_l2.trans s_c3)) h50
                  obtain rfl : l50 = [.int .u64 y50] := g50
                  refine Plan.v 8 [9, 10, 11, 12, 13, 14, 15, 16, 17] (by kernel_rfl) (by kernel_rfl) (by kernel_rfl) (by kernel_rfl) rfl (fun _ _ h_ => R.ixp (sz := ((intE .u64)).size) Try.underlying22 Try.sizeOf26 rfl rfl rfl (by first | omega | (simp; done) | (simp; omega) | (simp at *; omega)) i50 (TL.nil h_)) ?_
                  refine Plan.v 10 [9, 11, 12, 13, 14, 15, 16, 17] (by kernel_rfl) (by kernel_rfl) (by kernel_rfl) (by kernel_rfl) rfl (fun _ _ h_ => R.mvE rfl (by conv => lhs; whnf) (TL.nil h_)) ?_
                  refine Plan.v 11 [9, 12, 13, 14, 15, 16, 17] (by kernel_rfl) (by kernel_rfl) (by kernel_rfl) (by kernel_rfl) rfl (fun _ _ h_ => R.mvE rfl (by conv => lhs; whnf) (TL.nil h_)) ?_
                  have hl54 : n7l2.toNat < a0.length := by first | omega | (simp; done) | (simp; omega) | (simp at *; omega)
                  obtain ⟨y54, e54, h54⟩ : ∃ y, y = (xPa0l1.getD n7l2.toNat (0 : Int)) ∧ xPa0l1[n7l2.toNat]? = some y := ⟨_, rfl, getD_get (by first | exact hl54 | simpa using hl54 | (simp only [List.length_set]; omega) | omega | (rw [(sortI_perm _).length_eq]; exact hl54))⟩
                  obtain ⟨b54, u54, cs54, l54, f54, j54, i54, g54, k54⟩ := OwnS.elem (OwnS.mono wPa0l1 (s_l2.trans s_c3)) h54
                  obtain rfl : l54 = [.int .u64 y54] := g54
                  refine Plan.v 12 [9, 13, 14, 15, 16, 17] (by kernel_rfl) (by kernel_rfl) (by kernel_rfl) (by kernel_rfl) rfl (fun _ _ h_ => R.ixp (sz := ((intE .u64)).size) Try.underlying22 Try.sizeOf26 rfl rfl rfl (by first | omega | (simp; done) | (simp; omega) | (simp at *; omega)) i54 (TL.nil h_)) ?_
                  refine Plan.s2 9 13 [13, 14, 15, 16, 17] [9, 14, 15, 16, 17] (by kernel_rfl) (by kernel_rfl) (by kernel_rfl) rfl rfl ?_ ?_
                  · refine R.ld Try.isAgg26 rfl rfl (by rw [← f50]; exact .hd) (k50 0 _ rfl) ?_
                    refine TL.nil (Plan.e1 (HLe.refl _) ?_)
                    refine Plan.s1 13 [14, 15, 16, 17] (by kernel_rfl) (by kernel_rfl) rfl ?_
                    refine R.ld Try.isAgg26 rfl rfl (by rw [← f54]; exact .hd) (k54 0 _ rfl) ?_
                    refine TL.nil (Plan.e1 (HLe.refl _) ?_)
                    have hl56 : n7l2.toNat < a0.length := by first | omega | (simp; done) | (simp; omega) | (simp at *; omega)
                    obtain ⟨y56, e56, h56⟩ : ∃ y, y = (xPa0l1.getD n7l2.toNat (0 : Int)) ∧ xPa0l1[n7l2.toNat]? = some y := ⟨_, rfl, getD_get (by first | exact hl56 | simpa using hl56 | (simp only [List.length_set]; omega) | omega | (rw [(sortI_perm _).length_eq]; exact hl56))⟩
                    obtain ⟨b56, u56, cs56, l56, f56, j56, i56, g56, k56⟩ := OwnS.elem (OwnS.mono wPa0l1 (s_l2.trans s_c3)) h56
                    obtain rfl : l56 = [.int .u64 y56] := g56
                    refine Plan.v 14 [15, 16, 17] (by kernel_rfl) (by kernel_rfl) (by kernel_rfl) (by kernel_rfl) rfl (fun _ _ h_ => R.ixp (sz := ((intE .u64)).size) Try.underlying22 Try.sizeOf26 rfl rfl rfl (by first | omega | (simp; done) | (simp; omega) | (simp at *; omega)) i56 (TL.nil h_)) ?_
                    refine Plan.s1 15 [16, 17] (by kernel_rfl) (by kernel_rfl) rfl ?_
                    refine R.stEF (E := (intE .u64)) (e := 26) (v := (.slice Aa0 a0.length pa0)) (m := [.int .u64 y50]) (o := 0) (y := y56) (y' := y50) (j := n7l2.toNat) Try.sizeOf26 rfl (OwnS.mono wPa0l1 (s_l2.trans s_c3)) .hd i56 rfl rfl (cells1 rfl) (all_one rfl) h56 (by show 0 + 1 ≤ 1; decide) (fun l hl => by have e0 : l = [.int .u64 y56] := hl; subst e0; exact rfl) ?_
                    intro cst159 wst159
                    refine TL.nil (Plan.e0 (HLe.refl _) ?_)
                    have hl57 : ((n7l2 - 1)).toNat < a0.length := by first | omega | (simp; done) | (simp; omega) | (simp at *; omega)
                    obtain ⟨y57, e57, h57⟩ : ∃ y, y = (((xPa0l1.set n7l2.toNat y50)).getD (((n7l2 - 1)).toNat) (0 : Int)) ∧ ((xPa0l1.set n7l2.toNat y50))[((n7l2 - 1)).toNat]? = some y := ⟨_, rfl, getD_get (by first | exact hl57 | simpa using hl57 | (simp only [List.length_set]; omega) | omega | (rw [(sortI_perm _).length_eq]; exact hl57))⟩
                    obtain ⟨b57, u57, cs57, l57, f57, j57, i57, g57, k57⟩ := OwnS.elem wst159 h57
                    obtain rfl : l57 = [.int .u64 y57] := g57
                    refine Plan.v 16 [17] (by kernel_rfl) (by kernel_rfl) (by kernel_rfl) (by kernel_rfl) rfl (fun _ _ h_ => R.ixp (sz := ((intE .u64)).size) Try.underlying22 Try.sizeOf26 rfl rfl rfl (by first | omega | (simp; done) | (simp; omega) | (simp at *; omega)) i57 (TL.nil h_)) ?_
                    refine Plan.s1 17 [] (by kernel_rfl) (by kernel_rfl) rfl ?_
                    refine R.stEF (E := (intE .u64)) (e := 26) (v := (.slice Aa0 a0.length pa0)) (m := [.int .u64 y54]) (o := 0) (y := y57) (y' := y54) (j := ((n7l2 - 1)).toNat) Try.sizeOf26 rfl wst159 .hd i57 rfl rfl (cells1 rfl) (all_one rfl) h57 (by show 0 + 1 ≤ 1; decide) (fun l hl => by have e0 : l = [.int .u64 y57] := hl; subst e0; exact rfl) ?_
                    intro cst160 wst160
                    refine TL.nil (Plan.e0 (HLe.refl _) ?_)
                    refine Plan.done (Post.thnN ?_)
                    exact ⟨((((xPa0l1.set n7l2.toNat y50)).set (((n7l2 - 1)).toNat) y54), cst160), HLe.refl _, ⟨(Has.cons .hd Has.nil), wst160, (by subst e57; subst e56; subst e54; subst e50; rfl)⟩, rfl, rfl, rfl, rfl, rfl, trivial⟩
                  · refine R.ld Try.isAgg26 rfl rfl (by rw [← f54]; exact .hd) (k54 0 _ rfl) ?_
                    refine TL.nil (Plan.e1 (HLe.refl _) ?_)
                    refine Plan.s1 9 [14, 15, 16, 17] (by kernel_rfl) (by kernel_rfl) rfl ?_
                    refine R.ld Try.isAgg26 rfl rfl (by rw [← f50]; exact .hd) (k50 0 _ rfl) ?_
                    refine TL.nil (Plan.e1 (HLe.refl _) ?_)
                    have hl56 : n7l2.toNat < a0.length := by first | omega | (simp; done) | (simp; omega) | (simp at *; omega)
                    obtain ⟨y56, e56, h56⟩ : ∃ y, y = (xPa0l1.getD n7l2.toNat (0 : Int)) ∧ xPa0l1[n7l2.toNat]? = some y := ⟨_, rfl, getD_get (by first | exact hl56 | simpa using hl56 | (simp only [List.length_set]; omega) | omega | (rw [(sortI_perm _).length_eq]; exact hl56))⟩
                    obtain ⟨b56, u56, cs56, l56, f56, j56, i56, g56, k56⟩ := OwnS.elem (OwnS.mono wPa0l1 (s_l2.trans s_c3)) h56
                    obtain rfl : l56 = [.int .u64 y56] := g56
                    refine Plan.v 14 [15, 16, 17] (by kernel_rfl) (by kernel_rfl) (by kernel_rfl) (by kernel_rfl) rfl (fun _ _ h_ => R.ixp (sz := ((intE .u64)).size) Try.underlying22 Try.sizeOf26 rfl rfl rfl (by first | omega | (simp; done) | (simp; omega) | (simp at *; omega)) i56 (TL.nil h_)) ?_
                    refine Plan.s1 15 [16, 17] (by kernel_rfl) (by kernel_rfl) rfl ?_
                    refine R.stEF (E := (intE .u64)) (e := 26) (v := (.slice Aa0 a0.length pa0)) (m := [.int .u64 y50]) (o := 0) (y := y56) (y' := y50) (j := n7l2.toNat) Try.sizeOf26 rfl (OwnS.mono wPa0l1 (s_l2.trans s_c3)) .hd i56 rfl rfl (cells1 rfl) (all_one rfl) h56 (by show 0 + 1 ≤ 1; decide) (fun l hl => by have e0 : l = [.int .u64 y56] := hl; subst e0; exact rfl) ?_
                    intro cst161 wst161
                    refine TL.nil (Plan.e0 (HLe.refl _) ?_)
                    have hl57 : ((n7l2 - 1)).toNat < a0.length := by first | omega | (simp; done) | (simp; omega) | (simp at *; omega)
                    obtain ⟨y57, e57, h57⟩ : ∃ y, y = (((xPa0l1.set n7l2.toNat y50)).getD (((n7l2 - 1)).toNat) (0 : Int)) ∧ ((xPa0l1.set n7l2.toNat y50))[((n7l2 - 1)).toNat]? = some y := ⟨_, rfl, getD_get (by first | exact hl57 | simpa using hl57 | (simp only [List.length_set]; omega) | omega | (rw [(sortI_perm _).length_eq]; exact hl57))⟩
                    obtain ⟨b57, u57, cs57, l57, f57, j57, i57, g57, k57⟩ := OwnS.elem wst161 h57
                    obtain rfl : l57 = [.int .u64 y57] := g57
                    refine Plan.v 16 [17] (by kernel_rfl) (by kernel_rfl) (by kernel_rfl) (by kernel_rfl) rfl (fun _ _ h_ => R.ixp (sz := ((intE .u64)).size) Try.underlying22 Try.sizeOf26 rfl rfl rfl (by first | omega | (simp; done) | (simp; omega) | (simp at *; omega)) i57 (TL.nil h_)) ?_
                    refine Plan.s1 17 [] (by kernel_rfl) (by kernel_rfl) rfl ?_
                    refine R.stEF (E := (intE .u64)) (e := 26) (v := (.slice Aa0 a0.length pa0)) (m := [.int .u64 y54]) (o := 0) (y := y57) (y' := y54) (j := ((n7l2 - 1)).toNat) Try.sizeOf26 rfl wst161 .hd i57 rfl rfl (cells1 rfl) (all_one rfl) h57 (by show 0 + 1 ≤ 1; decide) (fun l hl => by have e0 : l = [.int .u64 y57] := hl; subst e0; exact rfl) ?_
                    intro cst162 wst162
                    refine TL.nil (Plan.e0 (HLe.refl _) ?_)
                    refine Plan.done (Post.thnN ?_)
                    exact ⟨((((xPa0l1.set n7l2.toNat y50)).set (((n7l2 - 1)).toNat) y54), cst162), HLe.refl _, ⟨(Has.cons .hd Has.nil), wst162, (by subst e57; subst e56; subst e54; subst e50; rfl)⟩, rfl, rfl, rfl, rfl, rfl, trivial⟩
                · intro ⟨xPa0c4, cPa0c4⟩ σ_c4 H_c4 L_c4 ds_c4 s_c4 hI_c4
                  obtain ⟨hLc4, wPa0c4, hTc4⟩ := hI_c4
                  have nPa0c4_ := OwnS.len wPa0c4
                  refine T.has hLc4 ?_
                  refine T.seq ?_
                  refine T.seq ?_
                  refine T.region ?_
                  refine R.mvE rfl (by conv => lhs; whnf) ?_
                  refine R.mvE rfl (by conv => lhs; whnf) ?_
                  refine R.subI rfl rfl rfl (by omega) ?_
                  refine R.geq rfl rfl rfl ?_
                  refine TL.nil (Post.thnN ?_)
                  refine T.cutK (ι := (List Int) × Chunk) (fun ⟨xPa0c5, cPa0c5⟩ H' L' ds' => Has L' [cPa0c5] ∧ OwnS (intE .u64) 26 H' (.slice Aa0 a0.length pa0) xPa0c5 cPa0c5 ∧ (if (2 : Int) ≤ (n7l2 - a1) then (LR.seq (slices_partialInsertionSortOrdered_Id_l6 (((n7l2 - 1)).toNat + 1) (((n7l2 - 1), xPa0c4))) (fun ol6 => ol6.2)) else xPa0c4 : (List Int)) = xPa0c5) (fun ⟨xPa0c5, cPa0c5⟩ => [(0, .slice Aa0 a0.length pa0), (1, .int .i64 a1), (2, .int .i64 a2), (7, .int .i64 n7l2), (8, .int .i64 n8l1)]) ?_ ?_
                  · refine T.condD rfl (fun c61 => ?_) (fun c61 => ?_)
                    · refine T.set 61 (.bool true) (congrArg Value.bool (decide_eq_true c61)) ?_
                      refine T.seq ?_
                      refine T.region ?_
                      refine R.mvE rfl (by conv => lhs; whnf) ?_
                      refine R.subI rfl rfl rfl (by omega) ?_
                      refine R.asE rfl (by conv => lhs; whnf) ?_
                      refine TL.nil (Post.thnN ?_)
                      refine T.block ?_
                      refine T.loop (ι := Nat × Int × (List Int) × Chunk) (fun ⟨kl6, n9l6, xPa0l6, cPa0l6⟩ H' L' ds' => n9l6.toNat < kl6 ∧ Has L' [cPa0l6] ∧ OwnS (intE .u64) 26 H' (.slice Aa0 a0.length pa0) xPa0l6 cPa0l6 ∧ 0 ≤ n9l6 ∧ n9l6 < a2 ∧ slices_partialInsertionSortOrdered_Id_l6 kl6 ((n9l6, xPa0l6)) = slices_partialInsertionSortOrdered_Id_l6 (((n7l2 - 1)).toNat + 1) (((n7l2 - 1), xPa0c4))) (fun ⟨kl6, n9l6, xPa0l6, cPa0l6⟩ => [(0, .slice Aa0 a0.length pa0), (1, .int .i64 a1), (2, .int .i64 a2), (7, .int .i64 n7l2), (8, .int .i64 n8l1), (9, .int .i64 n9l6)]) (fun ⟨kl6, n9l6, xPa0l6, cPa0l6⟩ => kl6) ((((n7l2 - 1)).toNat + 1), (n7l2 - 1), xPa0c4, cPa0c4) ?_ ?_ ?_
                      · exact ⟨(by omega), (Has.cons .hd Has.nil), wPa0c4, (by first | omega | (simp; done) | (simp; omega) | (simp at *; omega)), (by first | omega | (simp; done) | (simp; omega) | (simp at *; omega)), (by rfl)⟩
                      · exact ⟨rfl, rfl, rfl, rfl, rfl, rfl, trivial⟩
                      · intro ⟨kl6, n9l6, xPa0l6, cPa0l6⟩ σ_l6 H_l6 L_l6 ds_l6 s_l6 hI_l6
                        obtain ⟨hkl6, hI_l6⟩ := hI_l6
                        obtain ⟨ml6, rfl⟩ : ∃ m, kl6 = m + 1 := ⟨kl6 - 1, by omega⟩
                        obtain ⟨hLl6, wPa0l6, hBl6_0, hBl6_1, hQl6⟩ := hI_l6
                        have nPa0l6_ := OwnS.len wPa0l6
                        refine T.has hLl6 ?_
                        refine T.seq ?_
                        refine T.seq ?_
                        refine T.region ?_
                        refine R.mvE rfl (by conv => lhs; whnf) ?_
                        refine R.geq rfl rfl rfl ?_
                        refine TL.nil (Post.thnN ?_)
                        refine T.condD rfl (fun c65 => ?_) (fun c65 => ?_)
                        · refine T.set 65 (.bool true) (congrArg Value.bool (decide_eq_true c65)) ?_
                          refine T.skip (Post.thnN ?_)
                          refine T.seq ?_
                          refine T.block ?_
                          refine T.seq ?_
                          refine T.seq ?_
                          refine T.cutK (ι := Bool) (fun b78c7 H' L' ds' => Has L' [cPa0l6] ∧ ((!(cmp_Less_Id_m (xPa0l6.getD n9l6.toNat (0 : Int)) (xPa0l6.getD (((n9l6 - 1)).toNat) (0 : Int)))) : Bool) = b78c7) (fun b78c7 => [(0, .slice Aa0 a0.length pa0), (1, .int .i64 a1), (2, .int .i64 a2), (7, .int .i64 n7l2), (8, .int .i64 n8l1), (9, .int .i64 n9l6), (78, .bool (b78c7))]) ?_ ?_
                          · refine T.draw Try_mixed (by kernel_rfl) ?_
                            refine Plan.v 0 [1, 2, 3, 4, 5, 6, 7, 8, 9, 10] (by kernel_rfl) (by kernel_rfl) (by kernel_rfl) (by kernel_rfl) rfl (fun _ _ h_ => R.mvE rfl (by conv => lhs; whnf) (TL.nil h_)) ?_
                            refine Plan.v 1 [2, 3, 4, 5, 6, 7, 8, 9, 10] (by kernel_rfl) (by kernel_rfl) (by kernel_rfl) (by kernel_rfl) rfl (fun _ _ h_ => R.mvE rfl (by conv => lhs; whnf) (TL.nil h_)) ?_
                            have hl70 : n9l6.toNat < a0.length := by first | omega | (simp; done) | (simp; omega) | (simp at *; omega)
                            obtain ⟨y70, e70, h70⟩ : ∃ y, y = (xPa0l6.getD n9l6.toNat (0 : Int)) ∧ xPa0l6[n9l6.toNat]? = some y := ⟨_, rfl, getD_get (by first | exact hl70 | simpa using hl70 | (simp only [List.length_set]; omega) | omega | (rw [(sortI_perm _).length_eq]; exact hl70))⟩
                            obtain ⟨b70, u70, cs70, l70, f70, j70, i70, g70, k70⟩ := OwnS.elem wPa0l6 h70
                            obtain rfl : l70 = [.int .u64 y70] := g70
                            refine Plan.v 2 [3, 4, 5, 6, 7, 8, 9, 10] (by kernel_rfl) (by kernel_rfl) (by kernel_rfl) (by kernel_rfl) rfl (fun _ _ h_ => R.ixp (sz := ((intE .u64)).size) Try.underlying22 Try.sizeOf26 rfl rfl rfl (by first | omega | (simp; done) | (simp; omega) | (simp at *; omega)) i70 (TL.nil h_)) ?_
                            refine Plan.v 4 [3, 5, 6, 7, 8, 9, 10] (by kernel_rfl) (by kernel_rfl) (by kernel_rfl) (by kernel_rfl) rfl (fun _ _ h_ => R.mvE rfl (by conv => lhs; whnf) (TL.nil h_)) ?_
                            refine Plan.v 5 [3, 6, 7, 8, 9, 10] (by kernel_rfl) (by kernel_rfl) (by kernel_rfl) (by kernel_rfl) rfl (fun _ _ h_ => R.mvE rfl (by conv => lhs; whnf) (TL.nil h_)) ?_
                            refine Plan.v 6 [3, 7, 8, 9, 10] (by kernel_rfl) (by kernel_rfl) (by kernel_rfl) (by kernel_rfl) rfl (fun _ _ h_ => R.subI rfl rfl rfl (by omega) (TL.nil h_)) ?_
                            have hl75 : ((n9l6 - 1)).toNat < a0.length := by first | omega | (simp; done) | (simp; omega) | (simp at *; omega)
                            obtain ⟨y75, e75, h75⟩ : ∃ y, y = (xPa0l6.getD (((n9l6 - 1)).toNat) (0 : Int)) ∧ xPa0l6[((n9l6 - 1)).toNat]? = some y := ⟨_, rfl, getD_get (by first | exact hl75 | simpa using hl75 | (simp only [List.length_set]; omega) | omega | (rw [(sortI_perm _).length_eq]; exact hl75))⟩
                            obtain ⟨b75, u75, cs75, l75, f75, j75, i75, g75, k75⟩ := OwnS.elem wPa0l6 h75
                            obtain rfl : l75 = [.int .u64 y75] := g75
                            refine Plan.v 7 [3, 8, 9, 10] (by kernel_rfl) (by kernel_rfl) (by kernel_rfl) (by kernel_rfl) rfl (fun _ _ h_ => R.ixp (sz := ((intE .u64)).size) Try.underlying22 Try.sizeOf26 rfl rfl rfl (by first | omega | (simp; done) | (simp; omega) | (simp at *; omega)) i75 (TL.nil h_)) ?_
                            refine Plan.s2 3 8 [8, 9, 10] [3, 9, 10] (by kernel_rfl) (by kernel_rfl) (by kernel_rfl) rfl rfl ?_ ?_
                            · refine R.ld Try.isAgg26 rfl rfl (by rw [← f70]; exact .hd) (k70 0 _ rfl) ?_
                              refine TL.nil (Plan.e1 (HLe.refl _) ?_)
                              refine Plan.s1 8 [9, 10] (by kernel_rfl) (by kernel_rfl) rfl ?_
                              refine R.ld Try.isAgg26 rfl rfl (by rw [← f75]; exact .hd) (k75 0 _ rfl) ?_
                              refine TL.nil (Plan.e1 (HLe.refl _) ?_)
                              refine Plan.v 9 [10] (by kernel_rfl) (by kernel_rfl) (by kernel_rfl) (by kernel_rfl) rfl (fun _ _ h_ => R.callv rfl rfl rfl (cmp_Less_Id_c _ (y70) (y75)) (TL.nil h_)) ?_
                              refine Plan.v 10 [] (by kernel_rfl) (by kernel_rfl) (by kernel_rfl) (by kernel_rfl) rfl (fun _ _ h_ => R.not rfl rfl (TL.nil h_)) ?_
                              refine Plan.done (Post.thnN ?_)
                              exact ⟨(!(cmp_Less_Id_m y70 y75)), HLe.refl _, ⟨(Has.cons .hd Has.nil), (by subst e75; subst e70; rfl)⟩, rfl, rfl, rfl, rfl, rfl, rfl, rfl, trivial⟩
                            · refine R.ld Try.isAgg26 rfl rfl (by rw [← f75]; exact .hd) (k75 0 _ rfl) ?_
                              refine TL.nil (Plan.e1 (HLe.refl _) ?_)
                              refine Plan.s1 3 [9, 10] (by kernel_rfl) (by kernel_rfl) rfl ?_
                              refine R.ld Try.isAgg26 rfl rfl (by rw [← f70]; exact .hd) (k70 0 _ rfl) ?_
                              refine TL.nil (Plan.e1 (HLe.refl _) ?_)
                              refine Plan.v 9 [10] (by kernel_rfl) (by kernel_rfl) (by kernel_rfl) (by kernel_rfl) rfl (fun _ _ h_ => R.callv rfl rfl rfl (cmp_Less_Id_c _ (y70) (y75)) (TL.nil h_)) ?_
                              refine Plan.v 10 [] (by kernel_rfl) (by kernel_rfl) (by kernel_rfl) (by kernel_rfl) rfl (fun _ _ h_ => R.not rfl rfl (TL.nil h_)) ?_
                              refine Plan.done (Post.thnN ?_)
                              exact ⟨(!(cmp_Less_Id_m y70 y75)), HLe.refl _, ⟨(Has.cons .hd Has.nil), (by subst e75; subst e70; rfl)⟩, rfl, rfl, rfl, rfl, rfl, rfl, rfl, trivial⟩
                          · intro b78c7 σ_c7 H_c7 L_c7 ds_c7 s_c7 hI_c7
                            obtain ⟨hLc7, hTc7⟩ := hI_c7
                            refine T.has hLc7 ?_
                            refine T.cond rfl (fun c78 => ?_) (fun c78 => ?_)
                            · refine T.set 78 (.bool true) (congrArg Value.bool c78) ?_
                              have hZ78 := hTc7.trans c78
                              try simp only [or_f, or_t, and_f, and_t, decide_eq_true_eq, decide_eq_false_iff_not, Bool.not_eq_true'] at hZ78
                              refine T.exit (Post.thnE (Post.blkE rfl (Post.thnE (Post.thnE (Post.blkX ?_)))))
                              have hEl6 : slices_partialInsertionSortOrdered_Id_l6 (((n7l2 - 1)).toNat + 1) (((n7l2 - 1), xPa0c4)) = (n9l6, xPa0l6) := (by rw [← hQl6, slices_partialInsertionSortOrdered_Id_l6]; rw [if_pos c65, hTc7, LR.seq_go, if_t c78])
                              refine id (Post.thnN ?_)
                              exact ⟨(xPa0l6, cPa0l6), (s_l6.trans s_c7), ⟨(Has.cons .hd Has.nil), (OwnS.mono wPa0l6 s_c7), (by rw [if_pos c61, hEl6, LR.seq_go])⟩, rfl, rfl, rfl, rfl, rfl, trivial⟩
                            · refine T.set 78 (.bool false) (congrArg Value.bool c78) ?_
                              have hZ78 := hTc7.trans c78
                              try simp only [or_f, or_t, and_f, and_t, decide_eq_true_eq, decide_eq_false_iff_not, Bool.not_eq_true'] at hZ78
                              refine T.skip (Post.thnN ?_)
                              refine T.draw Try_mixed (by kernel_rfl) ?_
                              refine Plan.v 0 [1, 2, 3, 4, 5, 6, 7, 8, 9, 10, 11, 12, 13, 14, 15, 16, 17] (by kernel_rfl) (by kernel_rfl) (by kernel_rfl) (by kernel_rfl) rfl (fun _ _ h_ => R.mvE rfl (by conv => lhs; whnf) (TL.nil h_)) ?_
                              refine Plan.v 1 [2, 3, 4, 5, 6, 7, 8, 9, 10, 11, 12, 13, 14, 15, 16, 17] (by kernel_rfl) (by kernel_rfl) (by kernel_rfl) (by kernel_rfl) rfl (fun _ _ h_ => R.mvE rfl (by conv => lhs; whnf) (TL.nil h_)) ?_
                              refine Plan.v 2 [3, 4, 5, 6, 7, 8, 9, 10, 11, 12, 13, 14, 15, 16, 17] (by kernel_rfl) (by kernel_rfl) (by kernel_rfl) (by kernel_rfl) rfl (fun _ _ h_ => R.mvE rfl (by conv => lhs; whnf) (TL.nil h_)) ?_
                              refine Plan.v 3 [4, 5, 6, 7, 8, 9, 10, 11, 12, 13, 14, 15, 16, 17] (by kernel_rfl) (by kernel_rfl) (by kernel_rfl) (by kernel_rfl) rfl (fun _ _ h_ => R.mvE rfl (by conv => lhs; whnf) (TL.nil h_)) ?_
                              refine Plan.v 4 [5, 6, 7, 8, 9, 10, 11, 12, 13, 14, 15, 16, 17] (by kernel_rfl) (by kernel_rfl) (by kernel_rfl) (by kernel_rfl) rfl (fun _ _ h_ => R.subI rfl rfl rfl (by omega) (TL.nil h_)) ?_
                              refine Plan.v 5 [6, 7, 8, 9, 10, 11, 12, 13, 14, 15, 16, 17] (by kernel_rfl) (by kernel_rfl) (by kernel_rfl) (by kernel_rfl) rfl (fun _ _ h_ => R.mvE rfl (by conv => lhs; whnf) (TL.nil h_)) ?_
                              refine Plan.v 6 [7, 8, 9, 10, 11, 12, 13, 14, 15, 16, 17] (by kernel_rfl) (by kernel_rfl) (by kernel_rfl) (by kernel_rfl) rfl (fun _ _ h_ => R.mvE rfl (by conv => lhs; whnf) (TL.nil h_)) ?_
                              refine Plan.v 7 [8, 9, 10, 11, 12, 13, 14, 15, 16, 17] (by kernel_rfl) (by kernel_rfl) (by kernel_rfl) (by kernel_rfl) rfl (fun _ _ h_ => R.subI rfl rfl rfl (by omega) (TL.nil h_)) ?_
                              have hl87 : ((n9l6 - 1)).toNat < a0.length := by first | omega | (simp; done) | (simp; omega) | (simp at *; omega)
                              obtain ⟨y87, e87, h87⟩ : ∃ y, y = (xPa0l6.getD (((n9l6 - 1)).toNat) (0 : Int)) ∧ xPa0l6[((n9l6 - 1)).toNat]? = some y := ⟨_, rfl, getD_get (by first | exact hl87 | simpa using hl87 | (simp only [List.length_set]; omega) | omega | (rw [(sortI_perm _).length_eq]; exact hl87))⟩
                              obtain ⟨b87, u87, cs87, l87, f87, j87, i87, g87, k87⟩ := OwnS.elem (OwnS.mono wPa0l6 s_c7) h87
                              obtain rfl : l87 = [.int .u64 y87] := g87
                              refine Plan.v 8 [9, 10, 11, 12, 13, 14, 15, 16, 17] (by kernel_rfl) (by kernel_rfl) (by kernel_rfl) (by kernel_rfl) rfl (fun _ _ h_ => R.ixp (sz := ((intE .u64)).size) Try.underlying22 Try.sizeOf26 rfl rfl rfl (by first | omega | (simp; done) | (simp; omega) | (simp at *; omega)) i87 (TL.nil h_)) ?_
                              refine Plan.v 10 [9, 11, 12, 13, 14, 15, 16, 17] (by kernel_rfl) (by kernel_rfl) (by kernel_rfl) (by kernel_rfl) rfl (fun _ _ h_ => R.mvE rfl (by conv => lhs; whnf) (TL.nil h_)) ?_
                              refine Plan.v 11 [9, 12, 13, 14, 15, 16, 17] (by kernel_rfl) (by kernel_rfl) (by kernel_rfl) (by kernel_rfl) rfl (fun _ _ h_ => R.mvE rfl (by conv => lhs; whnf) (TL.nil h_)) ?_
                              have hl91 : n9l6.toNat < a0.length := by first | omega | (simp; done) | (simp; omega) | (simp at *; omega)
                              obtain ⟨y91, e91, h91⟩ : ∃ y, y = (xPa0l6.getD n9l6.toNat (0 : Int)) ∧ xPa0l6[n9l6.toNat]? = some y := ⟨_, rfl, getD_get (by first | exact hl91 | simpa using hl91 | (simp only [List.length_set]; omega) | omega | (rw [(sortI_perm _).length_eq]; exact hl91))⟩
                              obtain ⟨b91, u91, cs91, l91, f91, j91, i91, g91, k91⟩ := OwnS.elem (OwnS.mono wPa0l6 s_c7) h91
                              obtain rfl : l91 = [.int .u64 y91] := g91
                              refine Plan.v 12 [9, 13, 14, 15, 16, 17] (by kernel_rfl) (by kernel_rfl) (by kernel_rfl) (by kernel_rfl) rfl (fun _ _ h_ => R.ixp (sz := ((intE .u64)).size) Try.underlying22 Try.sizeOf26 rfl rfl rfl (by first | omega | (simp; done) | (simp; omega) | (simp at *; omega)) i91 (TL.nil h_)) ?_
                              refine Plan.s2 9 13 [13, 14, 15, 16, 17] [9, 14, 15, 16, 17] (by kernel_rfl) (by kernel_rfl) (by kernel_rfl) rfl rfl ?_ ?_
                              · refine R.ld Try.isAgg26 rfl rfl (by rw [← f87]; exact .hd) (k87 0 _ rfl) ?_
                                refine TL.nil (Plan.e1 (HLe.refl _) ?_)
                                refine Plan.s1 13 [14, 15, 16, 17] (by kernel_rfl) (by kernel_rfl) rfl ?_
                                refine R.ld Try.isAgg26 rfl rfl (by rw [← f91]; exact .hd) (k91 0 _ rfl) ?_
                                refine TL.nil (Plan.e1 (HLe.refl _) ?_)
                                have hl93 : n9l6.toNat < a0.length := by first | omega | (simp; done) | (simp; omega) | (simp at *; omega)
                                obtain ⟨y93, e93, h93⟩ : ∃ y, y = (xPa0l6.getD n9l6.toNat (0 : Int)) ∧ xPa0l6[n9l6.toNat]? = some y := ⟨_, rfl, getD_get (by first | exact hl93 | simpa using hl93 | (simp only [List.length_set]; omega) | omega | (rw [(sortI_perm _).length_eq]; exact hl93))⟩
                                obtain ⟨b93, u93, cs93, l93, f93, j93, i93, g93, k93⟩ := OwnS.elem (OwnS.mono wPa0l6 s_c7) h93
                                obtain rfl : l93 = [.int .u64 y93] := g93
                                refine Plan.v 14 [15, 16, 17] (by kernel_rfl) (by kernel_rfl) (by kernel_rfl) (by kernel_rfl) rfl (fun _ _ h_ => R.ixp (sz := ((intE .u64)).size) Try.underlying22 Try.sizeOf26 rfl rfl rfl (by first | omega | (simp; done) | (simp; omega) | (simp at *; omega)) i93 (TL.nil h_)) ?_
                                refine Plan.s1 15 [16, 17] (by kernel_rfl) (by kernel_rfl) rfl ?_
                                refine R.stEF (E := (intE .u64)) (e := 26) (v := (.slice Aa0 a0.length pa0)) (m := [.int .u64 y87]) (o := 0) (y := y93) (y' := y87) (j := n9l6.toNat) Try.sizeOf26 rfl (OwnS.mono wPa0l6 s_c7) .hd i93 rfl rfl (cells1 rfl) (all_one rfl) h93 (by show 0 + 1 ≤ 1; decide) (fun l hl => by have e0 : l = [.int .u64 y93] := hl; subst e0; exact rfl) ?_
                                intro cst163 wst163
                                refine TL.nil (Plan.e0 (HLe.refl _) ?_)
                                have hl94 : ((n9l6 - 1)).toNat < a0.length := by first | omega | (simp; done) | (simp; omega) | (simp at *; omega)
                                obtain ⟨y94, e94, h94⟩ : ∃ y, y = (((xPa0l6.set n9l6.toNat y87)).getD (((n9l6 - 1)).toNat) (0 : Int)) ∧ ((xPa0l6.set n9l6.toNat y87))[((n9l6 - 1)).toNat]? = some y := ⟨_, rfl, getD_get (by first | exact hl94 | simpa using hl94 | (simp only [List.length_set]; omega) | omega | (rw [(sortI_perm _).length_eq]; exact hl94))⟩
                                obtain ⟨b94, u94, cs94, l94, f94, j94, i94, g94, k94⟩ := OwnS.elem wst163 h94
                                obtain rfl : l94 = [.int .u64 y94] := g94
                                refine Plan.v 16 [17] (by kernel_rfl) (by kernel_rfl) (by kernel_rfl) (by kernel_rfl) rfl (fun _ _ h_ => R.ixp (sz := ((intE .u64)).size) Try.underlying22 Try.sizeOf26 rfl rfl rfl (by first | omega | (simp; done) | (simp; omega) | (simp at *; omega)) i94 (TL.nil h_)) ?_
                                refine Plan.s1 17 [] (by kernel_rfl) (by kernel_rfl) rfl ?_
                                refine R.stEF (E := (intE .u64)) (e := 26) (v := (.slice Aa0 a0.length pa0)) (m := [.int .u64 y91]) (o := 0) (y := y94) (y' := y91) (j := ((n9l6 - 1)).toNat) Try.sizeOf26 rfl wst163 .hd i94 rfl rfl (cells1 rfl) (all_one rfl) h94 (by show 0 + 1 ≤ 1; decide) (fun l hl => by have e0 : l = [.int .u64 y94] := hl; subst e0; exact rfl) ?_
                                intro cst164 wst164
                                refine TL.nil (Plan.e0 (HLe.refl _) ?_)
                                refine Plan.done (Post.blkN ?_)
                                refine id (Post.thnN ?_)
                                refine T.region ?_
                                refine R.mvE rfl (by conv => lhs; whnf) ?_
                                refine R.subI rfl rfl rfl (by omega) ?_
                                refine R.asE rfl (by conv => lhs; whnf) ?_
                                refine TL.nil (Post.thnN ?_)
                                exact ⟨(ml6, (n9l6 - 1), (((xPa0l6.set n9l6.toNat y87)).set (((n9l6 - 1)).toNat) y91), cst164), (s_l6.trans s_c7), ⟨(by first | omega | (simp; omega) | (simp at *; omega)), (Has.cons .hd Has.nil), wst164, (by first | omega | (simp; done) | (simp; omega) | (simp at *; omega)), (by first | omega | (simp; done) | (simp; omega) | (simp at *; omega)), (by subst e94; subst e93; subst e91; subst e87; rw [← hQl6, slices_partialInsertionSortOrdered_Id_l6]; rw [if_pos c65, hTc7, LR.seq_go, if_f c78])⟩, by show ml6 < ml6 + 1; omega, rfl, rfl, rfl, rfl, rfl, rfl, trivial⟩
                              · refine R.ld Try.isAgg26 rfl rfl (by rw [← f91]; exact .hd) (k91 0 _ rfl) ?_
                                refine TL.nil (Plan.e1 (HLe.refl _) ?_)
                                refine Plan.s1 9 [14, 15, 16, 17] (by kernel_rfl) (by kernel_rfl) rfl ?_
                                refine R.ld Try.isAgg26 rfl rfl (by rw [← f87]; exact .hd) (k87 0 _ rfl) ?_
                                refine TL.nil (Plan.e1 (HLe.refl _) ?_)
                                have hl93 : n9l6.toNat < a0.length := by first | omega | (simp; done) | (simp; omega) | (simp at *; omega)
                                obtain ⟨y93, e93, h93⟩ : ∃ y, y = (xPa0l6.getD n9l6.toNat (0 : Int)) ∧ xPa0l6[n9l6.toNat]? = some y := ⟨_, rfl, getD_get (by first | exact hl93 | simpa using hl93 | (simp only [List.length_set]; omega) | omega | (rw [(sortI_perm _).length_eq]; exact hl93))⟩
                                obtain ⟨b93, u93, cs93, l93, f93, j93, i93, g93, k93⟩ := OwnS.elem (OwnS.mono wPa0l6 s_c7) h93
                                obtain rfl : l93 = [.int .u64 y93] := g93
                                refine Plan.v 14 [15, 16, 17] (by kernel_rfl) (by kernel_rfl) (by kernel_rfl) (by kernel_rfl) rfl (fun _ _ h_ => R.ixp (sz := ((intE .u64)).size) Try.underlying22 Try.sizeOf26 rfl rfl rfl (by first | omega | (simp; done) | (simp; omega) | (simp at *; omega)) i93 (TL.nil h_)) ?_
                                refine Plan.s1 15 [16, 17] (by kernel_rfl) (by kernel_rfl) rfl ?_
                                refine R.stEF (E := (intE .u64)) (e := 26) (v := (.slice Aa0 a0.length pa0)) (m := [.int .u64 y87]) (o := 0) (y := y93) (y' := y87) (j := n9l6.toNat) Try.sizeOf26 rfl (OwnS.mono wPa0l6 s_c7) .hd i93 rfl rfl (cells1 rfl) (all_one rfl) h93 (by show 0 + 1 ≤ 1; decide) (fun l hl => by have e0 : l = [.int .u64 y93] := hl; subst e0; exact rfl) ?_
                                intro cst165 wst165
                                refine TL.nil (Plan.e0 (HLe.refl _) ?_)
                                have hl94 : ((n9l6 - 1)).toNat < a0.length := by first | omega | (simp; done) | (simp; omega) | (simp at *; omega)
                                obtain ⟨y94, e94, h94⟩ : ∃ y, y = (((xPa0l6.set n9l6.toNat y87)).getD (((n9l6 - 1)).toNat) (0 : Int)) ∧ ((xPa0l6.set n9l6.toNat y87))[((n9l6 - 1)).toNat]? = some y := ⟨_, rfl, getD_get (by first | exact hl94 | simpa using hl94 | (simp only [List.length_set]; omega) | omega | (rw [(sortI_perm _).length_eq]; exact hl94))⟩
                                obtain ⟨b94, u94, cs94, l94, f94, j94, i94, g94, k94⟩ := OwnS.elem wst165 h94
                                obtain rfl : l94 = [.int .u64 y94] := g94
                                refine Plan.v 16 [17] (by kernel_rfl) (by kernel_rfl) (by kernel_rfl) (by kernel_rfl) rfl (fun _ _ h_ => R.ixp (sz := ((intE .u64)).size) Try.underlying22 Try.sizeOf26 rfl rfl rfl (by first | omega | (simp; done) | (simp; omega) | (simp at *; omega)) i94 (TL.nil h_)) ?_
                                refine Plan.s1 17 [] (by kernel_rfl) (by kernel_rfl) rfl ?_
                                refine R.stEF (E := (intE .u64)) (e := 26) (v := (.slice Aa0 a0.length pa0)) (m := [.int .u64 y91]) (o := 0) (y := y94) (y' := y91) (j := ((n9l6 - 1)).toNat) Try.sizeOf26 rfl wst165 .hd i94 rfl rfl (cells1 rfl) (all_one rfl) h94 (by show 0 + 1 ≤ 1; decide) (fun l hl => by have e0 : l = [.int .u64 y94] := hl; subst e0; exact rfl) ?_
                                intro cst166 wst166
                                refine TL.nil (Plan.e0 (HLe.refl _) ?_)
                                refine Plan.done (Post.blkN ?_)
                                refine id (Post.thnN ?_)
                                refine T.region ?_
                                refine R.mvE rfl (by conv => lhs; whnf) ?_
                                refine R.subI rfl rfl rfl (by omega) ?_
                                refine R.asE rfl (by conv => lhs; whnf) ?_
                                refine TL.nil (Post.thnN ?_)
                                exact ⟨(ml6, (n9l6 - 1), (((xPa0l6.set n9l6.toNat y87)).set (((n9l6 - 1)).toNat) y91), cst166), (s_l6.trans s_c7), ⟨(by first | omega | (simp; omega) | (simp at *; omega)), (Has.cons .hd Has.nil), wst166, (by first | omega | (simp; done) | (simp; omega) | (simp at *; omega)), (by first | omega | (simp; done) | (simp; omega) | (simp at *; omega)), (by subst e94; subst e93; subst e91; subst e87; rw [← hQl6, slices_partialInsertionSortOrdered_Id_l6]; rw [if_pos c65, hTc7, LR.seq_go, if_f c78])⟩, by show ml6 < ml6 + 1; omega, rfl, rfl, rfl, rfl, rfl, rfl, trivial⟩
                        · refine T.set 65 (.bool false) (congrArg Value.bool (decide_eq_false c65)) ?_
                          refine T.exit (Post.thnE (Post.thnE (Post.blkX ?_)))
                          have hEl6 : slices_partialInsertionSortOrdered_Id_l6 (((n7l2 - 1)).toNat + 1) (((n7l2 - 1), xPa0c4)) = (n9l6, xPa0l6) := (by rw [← hQl6, slices_partialInsertionSortOrdered_Id_l6]; rw [if_neg c65])
                          refine id (Post.thnN ?_)
                          exact ⟨(xPa0l6, cPa0l6), s_l6, ⟨(Has.cons .hd Has.nil), wPa0l6, (by rw [if_pos c61, hEl6, LR.seq_go])⟩, rfl, rfl, rfl, rfl, rfl, trivial⟩
                    · refine T.set 61 (.bool false) (congrArg Value.bool (decide_eq_false c61)) ?_
                      refine T.skip (Post.thnN ?_)
                      exact ⟨(xPa0c4, cPa0c4), HLe.refl _, ⟨(Has.cons .hd Has.nil), wPa0c4, (by rw [if_neg c61])⟩, rfl, rfl, rfl, rfl, rfl, trivial⟩
                  · intro ⟨xPa0c5, cPa0c5⟩ σ_c5 H_c5 L_c5 ds_c5 s_c5 hI_c5
                    obtain ⟨hLc5, wPa0c5, hTc5⟩ := hI_c5
                    have nPa0c5_ := OwnS.len wPa0c5
                    refine T.has hLc5 ?_
                    refine T.seq ?_
                    refine T.region ?_
                    refine R.mvE rfl (by conv => lhs; whnf) ?_
                    refine R.mvE rfl (by conv => lhs; whnf) ?_
                    refine R.subI rfl rfl rfl (by omega) ?_
                    refine R.geq rfl rfl rfl ?_
                    refine TL.nil (Post.thnN ?_)
                    refine T.condD rfl (fun c98 => ?_) (fun c98 => ?_)
                    · refine T.set 98 (.bool true) (congrArg Value.bool (decide_eq_true c98)) ?_
                      refine T.seq ?_
                      refine T.region ?_
                      refine R.mvE rfl (by conv => lhs; whnf) ?_
                      refine R.addI rfl rfl rfl (by omega) ?_
                      refine R.asE rfl (by conv => lhs; whnf) ?_
                      refine TL.nil (Post.thnN ?_)
                      refine T.block ?_
                      refine T.loop (ι := Nat × Int × (List Int) × Chunk) (fun ⟨kl8, n10l8, xPa0l8, cPa0l8⟩ H' L' ds' => (a2 - n10l8).toNat < kl8 ∧ Has L' [cPa0l8] ∧ OwnS (intE .u64) 26 H' (.slice Aa0 a0.length pa0) xPa0l8 cPa0l8 ∧ a1 + 1 ≤ n10l8 ∧ n10l8 ≤ a2 ∧ slices_partialInsertionSortOrdered_Id_l8 a2 kl8 ((n10l8, xPa0l8)) = slices_partialInsertionSortOrdered_Id_l8 a2 ((a2 - ((n7l2 + 1))).toNat + 1) (((n7l2 + 1), xPa0c5))) (fun ⟨kl8, n10l8, xPa0l8, cPa0l8⟩ => [(0, .slice Aa0 a0.length pa0), (1, .int .i64 a1), (2, .int .i64 a2), (7, .int .i64 n7l2), (8, .int .i64 n8l1), (10, .int .i64 n10l8)]) (fun ⟨kl8, n10l8, xPa0l8, cPa0l8⟩ => kl8) (((a2 - ((n7l2 + 1))).toNat + 1), (n7l2 + 1), xPa0c5, cPa0c5) ?_ ?_ ?_
                      · exact ⟨(by omega), (Has.cons .hd Has.nil), wPa0c5, (by first | omega | (simp; done) | (simp; omega) | (simp at *; omega)), (by first | omega | (simp; done) | (simp; omega) | (simp at *; omega)), (by rfl)⟩
                      · exact ⟨rfl, rfl, rfl, rfl, rfl, rfl, trivial⟩
                      · intro ⟨kl8, n10l8, xPa0l8, cPa0l8⟩ σ_l8 H_l8 L_l8 ds_l8 s_l8 hI_l8
                        obtain ⟨hkl8, hI_l8⟩ := hI_l8
                        obtain ⟨ml8, rfl⟩ : ∃ m, kl8 = m + 1 := ⟨kl8 - 1, by omega⟩
                        obtain ⟨hLl8, wPa0l8, hBl8_0, hBl8_1, hQl8⟩ := hI_l8
                        have nPa0l8_ := OwnS.len wPa0l8
                        refine T.has hLl8 ?_
                        refine T.seq ?_
                        refine T.seq ?_
                        refine T.region ?_
                        refine R.mvE rfl (by conv => lhs; whnf) ?_
                        refine R.mvE rfl (by conv => lhs; whnf) ?_
                        refine R.lss rfl rfl rfl ?_
                        refine TL.nil (Post.thnN ?_)
                        refine T.condD rfl (fun c103 => ?_) (fun c103 => ?_)
                        · refine T.set 103 (.bool true) (congrArg Value.bool (decide_eq_true c103)) ?_
                          refine T.skip (Post.thnN ?_)
                          refine T.seq ?_
                          refine T.block ?_
                          refine T.seq ?_
                          refine T.seq ?_
                          refine T.cutK (ι := Bool) (fun b116c9 H' L' ds' => Has L' [cPa0l8] ∧ ((!(cmp_Less_Id_m (xPa0l8.getD n10l8.toNat (0 : Int)) (xPa0l8.getD (((n10l8 - 1)).toNat) (0 : Int)))) : Bool) = b116c9) (fun b116c9 => [(0, .slice Aa0 a0.length pa0), (1, .int .i64 a1), (2, .int .i64 a2), (7, .int .i64 n7l2), (8, .int .i64 n8l1), (10, .int .i64 n10l8), (116, .bool (b116c9))]) ?_ ?_
                          · refine T.draw Try_mixed (by kernel_rfl) ?_
                            refine Plan.v 0 [1, 2, 3, 4, 5, 6, 7, 8, 9, 10] (by kernel_rfl) (by kernel_rfl) (by kernel_rfl) (by kernel_rfl) rfl (fun _ _ h_ => R.mvE rfl (by conv => lhs; whnf) (TL.nil h_)) ?_
                            refine Plan.v 1 [2, 3, 4, 5, 6, 7, 8, 9, 10] (by kernel_rfl) (by kernel_rfl) (by kernel_rfl) (by kernel_rfl) rfl (fun _ _ h_ => R.mvE rfl (by conv => lhs; whnf) (TL.nil h_)) ?_
                            have hl108 : n10l8.toNat < a0.length := by first | omega | (simp; done) | (simp; omega) | (simp at *; omega)
                            obtain ⟨y108, e108, h108⟩ : ∃ y, y = (xPa0l8.getD n10l8.toNat (0 : Int)) ∧ xPa0l8[n10l8.toNat]? = some y := ⟨_, rfl, getD_get (by first | exact hl108 | simpa using hl108 | (simp only [List.length_set]; omega) | omega | (rw [(sortI_perm _).length_eq]; exact hl108))⟩
                            obtain ⟨b108, u108, cs108, l108, f108, j108, i108, g108, k108⟩ := OwnS.elem wPa0l8 h108
                            obtain rfl : l108 = [.int .u64 y108] := g108
                            refine Plan.v 2 [3, 4, 5, 6, 7, 8, 9, 10] (by kernel_rfl) (by kernel_rfl) (by kernel_rfl) (by kernel_rfl) rfl (fun _ _ h_ => R.ixp (sz := ((intE .u64)).size) Try.underlying22 Try.sizeOf26 rfl rfl rfl (by first | omega | (simp; done) | (simp; omega) | (simp at *; omega)) i108 (TL.nil h_)) ?_
                            refine Plan.v 4 [3, 5, 6, 7, 8, 9, 10] (by kernel_rfl) (by kernel_rfl) (by kernel_rfl) (by kernel_rfl) rfl (fun _ _ h_ => R.mvE rfl (by conv => lhs; whnf) (TL.nil h_)) ?_
                            refine Plan.v 5 [3, 6, 7, 8, 9, 10] (by kernel_rfl) (by kernel_rfl) (by kernel_rfl) (by kernel_rfl) rfl (fun _ _ h_ => R.mvE rfl (by conv => lhs; whnf) (TL.nil h_)) ?_
                            refine Plan.v 6 [3, 7, 8, 9, 10] (by kernel_rfl) (by kernel_rfl) (by kernel_rfl) (by kernel_rfl) rfl (fun _ _ h_ => R.subI rfl rfl rfl (by omega) (TL.nil h_)) ?_
                            have hl113 : ((n10l8 - 1)).toNat < a0.length := by first | omega | (simp; done) | (simp; omega) | (simp at *; omega)
                            obtain ⟨y113, e113, h113⟩ : ∃ y, y = (xPa0l8.getD (((n10l8 - 1)).toNat) (0 : Int)) ∧ xPa0l8[((n10l8 - 1)).toNat]? = some y := ⟨_, rfl, getD_get (by first | exact hl113 | simpa using hl113 | (simp only [List.length_set]; omega) | omega | (rw [(sortI_perm _).length_eq]; exact hl113))⟩
                            obtain ⟨b113, u113, cs113, l113, f113, j113, i113, g113, k113⟩ := OwnS.elem wPa0l8 h113
                            obtain rfl : l113 = [.int .u64 y113] := g113
                            refine Plan.v 7 [3, 8, 9, 10] (by kernel_rfl) (by kernel_rfl) (by kernel_rfl) (by kernel_rfl) rfl (fun _ _ h_ => R.ixp (sz := ((intE .u64)).size) Try.underlying22 Try.sizeOf26 rfl rfl rfl (by first | omega | (simp; done) | (simp; omega) | (simp at *; omega)) i113 (TL.nil h_)) ?_
                            refine Plan.s2 3 8 [8, 9, 10] [3, 9, 10] (by kernel_rfl) (by kernel_rfl) (by kernel_rfl) rfl rfl ?_ ?_
                            · refine R.ld Try.isAgg26 rfl rfl (by rw [← f108]; exact .hd) (k108 0 _ rfl) ?_
                              refine TL.nil (Plan.e1 (HLe.refl _) ?_)
                              refine Plan.s1 8 [9, 10] (by kernel_rfl) (by kernel_rfl) rfl ?_
                              refine R.ld Try.isAgg26 rfl rfl (by rw [← f113]; exact .hd) (k113 0 _ rfl) ?_
                              refine TL.nil (Plan.e1 (HLe.refl _) ?_)
                              refine Plan.v 9 [10] (by kernel_rfl) (by kernel_rfl) (by kernel_rfl) (by kernel_rfl) rfl (fun _ _ h_ => R.callv rfl rfl rfl (cmp_Less_Id_c _ (y108) (y113)) (TL.nil h_)) ?_
                              refine Plan.v 10 [] (by kernel_rfl) (by kernel_rfl) (by kernel_rfl) (by kernel_rfl) rfl (fun _ _ h_ => R.not rfl rfl (TL.nil h_)) ?_
                              refine Plan.done (Post.thnN ?_)
                              exact ⟨(!(cmp_Less_Id_m y108 y113)), HLe.refl _, ⟨(Has.cons .hd Has.nil), (by subst e113; subst e108; rfl)⟩, rfl, rfl, rfl, rfl, rfl, rfl, rfl, trivial⟩
                            · refine R.ld Try.isAgg26 rfl rfl (by rw [← f113]; exact .hd) (k113 0 _ rfl) ?_
                              refine TL.nil (Plan.e1 (HLe.refl _) ?_)
                              refine Plan.s1 3 [9, 10] (by kernel_rfl) (by kernel_rfl) rfl ?_
                              refine R.ld Try.isAgg26 rfl rfl (by rw [← f108]; exact .hd) (k108 0 _ rfl) ?_
                              refine TL.nil (Plan.e1 (HLe.refl _) ?_)
                              refine Plan.v 9 [10] (by kernel_rfl) (by kernel_rfl) (by kernel_rfl) (by kernel_rfl) rfl (fun _ _ h_ => R.callv rfl rfl rfl (cmp_Less_Id_c _ (y108) (y113)) (TL.nil h_)) ?_
                              refine Plan.v 10 [] (by kernel_rfl) (by kernel_rfl) (by kernel_rfl) (by kernel_rfl) rfl (fun _ _ h_ => R.not rfl rfl (TL.nil h_)) ?_
                              refine Plan.done (Post.thnN ?_)
                              exact ⟨(!(cmp_Less_Id_m y108 y113)), HLe.refl _, ⟨(Has.cons .hd Has.nil), (by subst e113; subst e108; rfl)⟩, rfl, rfl, rfl, rfl, rfl, rfl, rfl, trivial⟩
                          · intro b116c9 σ_c9 H_c9 L_c9 ds_c9 s_c9 hI_c9
                            obtain ⟨hLc9, hTc9⟩ := hI_c9
                            refine T.has hLc9 ?_
                            refine T.cond rfl (fun c116 => ?_) (fun c116 => ?_)
                            · refine T.set 116 (.bool true) (congrArg Value.bool c116) ?_
                              have hZ116 := hTc9.trans c116
                              try simp only [or_f, or_t, and_f, and_t, decide_eq_true_eq, decide_eq_false_iff_not, Bool.not_eq_true'] at hZ116
                              refine T.exit (Post.thnE (Post.blkE rfl (Post.thnE (Post.thnE (Post.blkX ?_)))))
                              have hEl8 : slices_partialInsertionSortOrdered_Id_l8 a2 ((a2 - ((n7l2 + 1))).toNat + 1) (((n7l2 + 1), xPa0c5)) = (n10l8, xPa0l8) := (by rw [← hQl8, slices_partialInsertionSortOrdered_Id_l8]; rw [if_pos c103, hTc9, LR.seq_go, if_t c116])
                              refine id (Post.blkN ?_)
                              refine id (Post.thnN ?_)
                              refine T.region ?_
                              refine R.mvE rfl (by conv => lhs; whnf) ?_
                              refine R.addI rfl rfl rfl (by omega) ?_
                              refine R.asE rfl (by conv => lhs; whnf) ?_
                              refine TL.nil (Post.thnN ?_)
                              exact ⟨(ml1, n7l2, (n8l1 + 1), xPa0l8, cPa0l8), (s_l1.trans (s_l2.trans (s_c3.trans (s_c4.trans (s_c5.trans (s_l8.trans s_c9)))))), ⟨(by first | omega | (simp; omega) | (simp at *; omega)), (Has.cons .hd Has.nil), (OwnS.mono wPa0l8 s_c9), (by first | omega | (simp; done) | (simp; omega) | (simp at *; omega)), (by first | omega | (simp; done) | (simp; omega) | (simp at *; omega)), (by first | omega | (simp; done) | (simp; omega) | (simp at *; omega)), (by first | omega | (simp; done) | (simp; omega) | (simp at *; omega)), (by rw [← hQl1, slices_partialInsertionSortOrdered_Id_l1]; rw [if_pos c14, hEl2, LR.seq_go, if_neg c37, if_neg c41, hTc4, LR.seq_go, hTc5, LR.seq_go, if_pos c98, hEl8, LR.seq_go])⟩, by show ml1 < ml1 + 1; omega, rfl, rfl, rfl, rfl, rfl, trivial⟩
                            · refine T.set 116 (.bool false) (congrArg Value.bool c116) ?_
                              have hZ116 := hTc9.trans c116
                              try simp only [or_f, or_t, and_f, and_t, decide_eq_true_eq, decide_eq_false_iff_not, Bool.not_eq_true'] at hZ116
                              refine T.skip (Post.thnN ?_)
                              refine T.draw Try_mixed (by kernel_rfl) ?_
                              refine Plan.v 0 [1, 2, 3, 4, 5, 6, 7, 8, 9, 10, 11, 12, 13, 14, 15, 16, 17] (by kernel_rfl) (by kernel_rfl) (by kernel_rfl) (by kernel_rfl) rfl (fun _ _ h_ => R.mvE rfl (by conv => lhs; whnf) (TL.nil h_)) ?_
                              refine Plan.v 1 [2, 3, 4, 5, 6, 7, 8, 9, 10, 11, 12, 13, 14, 15, 16, 17] (by kernel_rfl) (by kernel_rfl) (by kernel_rfl) (by kernel_rfl) rfl (fun _ _ h_ => R.mvE rfl (by conv => lhs; whnf) (TL.nil h_)) ?_
                              refine Plan.v 2 [3, 4, 5, 6, 7, 8, 9, 10, 11, 12, 13, 14, 15, 16, 17] (by kernel_rfl) (by kernel_rfl) (by kernel_rfl) (by kernel_rfl) rfl (fun _ _ h_ => R.mvE rfl (by conv => lhs; whnf) (TL.nil h_)) ?_
                              refine Plan.v 3 [4, 5, 6, 7, 8, 9, 10, 11, 12, 13, 14, 15, 16, 17] (by kernel_rfl) (by kernel_rfl) (by kernel_rfl) (by kernel_rfl) rfl (fun _ _ h_ => R.mvE rfl (by conv => lhs; whnf) (TL.nil h_)) ?_
                              refine Plan.v 4 [5, 6, 7, 8, 9, 10, 11, 12, 13, 14, 15, 16, 17] (by kernel_rfl) (by kernel_rfl) (by kernel_rfl) (by kernel_rfl) rfl (fun _ _ h_ => R.subI rfl rfl rfl (by omega) (TL.nil h_)) ?_
                              refine Plan.v 5 [6, 7, 8, 9, 10, 11, 12, 13, 14, 15, 16, 17] (by kernel_rfl) (by kernel_rfl) (by kernel_rfl) (by kernel_rfl) rfl (fun _ _ h_ => R.mvE rfl (by conv => lhs; whnf) (TL.nil h_)) ?_
                              refine Plan.v 6 [7, 8, 9, 10, 11, 12, 13, 14, 15, 16, 17] (by kernel_rfl) (by kernel_rfl) (by kernel_rfl) (by kernel_rfl) rfl (fun _ _ h_ => R.mvE rfl (by conv => lhs; whnf) (TL.nil h_)) ?_
                              refine Plan.v 7 [8, 9, 10, 11, 12, 13, 14, 15, 16, 17] (by kernel_rfl) (by kernel_rfl) (by kernel_rfl) (by kernel_rfl) rfl (fun _ _ h_ => R.subI rfl rfl rfl (by omega) (TL.nil h_)) ?_
                              have hl125 : ((n10l8 - 1)).toNat < a0.length := by first | omega | (simp; done) | (simp; omega) | (simp at *; omega)
                              obtain ⟨y125, e125, h125⟩ : ∃ y, y = (xPa0l8.getD (((n10l8 - 1)).toNat) (0 : Int)) ∧ xPa0l8[((n10l8 - 1)).toNat]? = some y := ⟨_, rfl, getD_get (by first | exact hl125 | simpa using hl125 | (simp only [List.length_set]; omega) | omega | (rw [(sortI_perm _).length_eq]; exact hl125))⟩
                              obtain ⟨b125, u125, cs125, l125, f125, j125, i125, g125, k125⟩ := OwnS.elem (OwnS.mono wPa0l8 s_c9) h125
                              obtain rfl : l125 = [.int .u64 y125] := g125
                              refine Plan.v 8 [9, 10, 11, 12, 13, 14, 15, 16, 17] (by kernel_rfl) (by kernel_rfl) (by kernel_rfl) (by kernel_rfl) rfl (fun _ _ h_ => R.ixp (sz := ((intE .u64)).size) Try.underlying22 Try.sizeOf26 rfl rfl rfl (by first | omega | (simp; done) | (simp; omega) | (simp at *; omega)) i125 (TL.nil h_)) ?_
                              refine Plan.v 10 [9, 11, 12, 13, 14, 15, 16, 17] (by kernel_rfl) (by kernel_rfl) (by kernel_rfl) (by kernel_rfl) rfl (fun _ _ h_ => R.mvE rfl (by conv => lhs; whnf) (TL.nil h_)) ?_
                              refine Plan.v 11 [9, 12, 13, 14, 15, 16, 17] (by kernel_rfl) (by kernel_rfl) (by kernel_rfl) (by kernel_rfl) rfl (fun _ _ h_ => R.mvE rfl (by conv => lhs; whnf) (TL.nil h_)) ?_
                              have hl129 : n10l8.toNat < a0.length := by first | omega | (simp; done) | (simp; omega) | (simp at *; omega)
                              obtain ⟨y129, e129, h129⟩ : ∃ y, y = (xPa0l8.getD n10l8.toNat (0 : Int)) ∧ xPa0l8[n10l8.toNat]? = some y := ⟨_, rfl, getD_get (by first | exact hl129 | simpa using hl129 | (simp only [List.length_set]; omega) | omega | (rw [(sortI_perm _).length_eq]; exact hl129))⟩
                              obtain ⟨b129, u129, cs129, l129, f129, j129, i129, g129, k129⟩ := OwnS.elem (OwnS.mono wPa0l8 s_c9) h129
                              obtain rfl : l129 = [.int .u64 y129] := g129
                              refine Plan.v 12 [9, 13, 14, 15, 16, 17] (by kernel_rfl) (by kernel_rfl) (by kernel_rfl) (by kernel_rfl) rfl (fun _ _ h_ => R.ixp (sz := ((intE .u64)).size) Try.underlying22 Try.sizeOf26 rfl rfl rfl (by first | omega | (simp; done) | (simp; omega) | (simp at *; omega)) i129 (TL.nil h_)) ?_
                              refine Plan.s2 9 13 [13, 14, 15, 16, 17] [9, 14, 15, 16, 17] (by kernel_rfl) (by kernel_rfl) (by kernel_rfl) rfl rfl ?_ ?_
                              · refine R.ld Try.isAgg26 rfl rfl (by rw [← f125]; exact .hd) (k125 0 _ rfl) ?_
                                refine TL.nil (Plan.e1 (HLe.refl _) ?_)
                                refine Plan.s1 13 [14, 15, 16, 17] (by kernel_rfl) (by kernel_rfl) rfl ?_
                                refine R.ld Try.isAgg26 rfl rfl (by rw [← f129]; exact .hd) (k129 0 _ rfl) ?_
                                refine TL.nil (Plan.e1 (HLe.refl _) ?_)
                                have hl131 : n10l8.toNat < a0.length := by first | omega | (simp; done) | (simp; omega) | (simp at *; omega)
                                obtain ⟨y131, e131, h131⟩ : ∃ y, y = (xPa0l8.getD n10l8.toNat (0 : Int)) ∧ xPa0l8[n10l8.toNat]? = some y := ⟨_, rfl, getD_get (by first | exact hl131 | simpa using hl131 | (simp only [List.length_set]; omega) | omega | (rw [(sortI_perm _).length_eq]; exact hl131))⟩
                                obtain ⟨b131, u131, cs131, l131, f131, j131, i131, g131, k131⟩ := OwnS.elem (OwnS.mono wPa0l8 s_c9) h131
                                obtain rfl : l131 = [.int .u64 y131] := g131
                                refine Plan.v 14 [15, 16, 17] (by kernel_rfl) (by kernel_rfl) (by kernel_rfl) (by kernel_rfl) rfl (fun _ _ h_ => R.ixp (sz := ((intE .u64)).size) Try.underlying22 Try.sizeOf26 rfl rfl rfl (by first | omega | (simp; done) | (simp; omega) | (simp at *; omega)) i131 (TL.nil h_)) ?_
                                refine Plan.s1 15 [16, 17] (by kernel_rfl) (by kernel_rfl) rfl ?_
                                refine R.stEF (E := (intE .u64)) (e := 26) (v := (.slice Aa0 a0.length pa0)) (m := [.int .u64 y125]) (o := 0) (y := y131) (y' := y125) (j := n10l8.toNat) Try.sizeOf26 rfl (OwnS.mono wPa0l8 s_c9) .hd i131 rfl rfl (cells1 rfl) (all_one rfl) h131 (by show 0 + 1 ≤ 1; decide) (fun l hl => by have e0 : l = [.int .u64 y131] := hl; subst e0; exact rfl) ?_
                                intro cst167 wst167
                                refine TL.nil (Plan.e0 (HLe.refl _) ?_)
                                have hl132 : ((n10l8 - 1)).toNat < a0.length := by first | omega | (simp; done) | (simp; omega) | (simp at *; omega)
                                obtain ⟨y132, e132, h132⟩ : ∃ y, y = (((xPa0l8.set n10l8.toNat y125)).getD (((n10l8 - 1)).toNat) (0 : Int)) ∧ ((xPa0l8.set n10l8.toNat y125))[((n10l8 - 1)).toNat]? = some y := ⟨_, rfl, getD_get (by first | exact hl132 | simpa using hl132 | (simp only [List.length_set]; omega) | omega | (rw [(sortI_perm _).length_eq]; exact hl132))⟩
                                obtain ⟨b132, u132, cs132, l132, f132, j132, i132, g132, k132⟩ := OwnS.elem wst167 h132
                                obtain rfl : l132 = [.int .u64 y132] := g132
                                refine Plan.v 16 [17] (by kernel_rfl) (by kernel_rfl) (by kernel_rfl) (by kernel_rfl) rfl (fun _ _ h_ => R.ixp (sz := ((intE .u64)).size) Try.underlying22 Try.sizeOf26 rfl rfl rfl (by first | omega | (simp; done) | (simp; omega) | (simp at *; omega)) i132 (TL.nil h_)) ?_
                                refine Plan.s1 17 [] (by kernel_rfl) (by kernel_rfl) rfl ?_
                                refine R.stEF (E := (intE .u64)) (e := 26) (v := (.slice Aa0 a0.length pa0)) (m := [.int .u64 y129]) (o := 0) (y := y132) (y' := y129) (j := ((n10l8 - 1)).toNat) Try.sizeOf26 rfl wst167 .hd i132 rfl rfl (cells1 rfl) (all_one rfl) h132 (by show 0 + 1 ≤ 1; decide) (fun l hl => by have e0 : l = [.int .u64 y132] := hl; subst e0; exact rfl) ?_
                                intro cst168 wst168
                                refine TL.nil (Plan.e0 (HLe.refl _) ?_)
                                refine Plan.done (Post.blkN ?_)
                                refine id (Post.thnN ?_)
                                refine T.region ?_
                                refine R.mvE rfl (by conv => lhs; whnf) ?_
                                refine R.addI rfl rfl rfl (by omega) ?_
                                refine R.asE rfl (by conv => lhs; whnf) ?_
                                refine TL.nil (Post.thnN ?_)
                                exact ⟨(ml8, (n10l8 + 1), (((xPa0l8.set n10l8.toNat y125)).set (((n10l8 - 1)).toNat) y129), cst168), (s_l8.trans s_c9), ⟨(by first | omega | (simp; omega) | (simp at *; omega)), (Has.cons .hd Has.nil), wst168, (by first | omega | (simp; done) | (simp; omega) | (simp at *; omega)), (by first | omega | (simp; done) | (simp; omega) | (simp at *; omega)), (by subst e132; subst e131; subst e129; subst e125; rw [← hQl8, slices_partialInsertionSortOrdered_Id_l8]; rw [if_pos c103, hTc9, LR.seq_go, if_f c116])⟩, by show ml8 < ml8 + 1; omega, rfl, rfl, rfl, rfl, rfl, rfl, trivial⟩
                              · refine R.ld Try.isAgg26 rfl rfl (by rw [← f129]; exact .hd) (k129 0 _ rfl) ?_
                                refine TL.nil (Plan.e1 (HLe.refl _) ?_)
                                refine Plan.s1 9 [14, 15, 16, 17] (by kernel_rfl) (by kernel_rfl) rfl ?_
                                refine R.ld Try.isAgg26 rfl rfl (by rw [← f125]; exact .hd) (k125 0 _ rfl) ?_
                                refine TL.nil (Plan.e1 (HLe.refl _) ?_)
                                have hl131 : n10l8.toNat < a0.length := by first | omega | (simp; done) | (simp; omega) | (simp at *; omega)
                                obtain ⟨y131, e131, h131⟩ : ∃ y, y = (xPa0l8.getD n10l8.toNat (0 : Int)) ∧ xPa0l8[n10l8.toNat]? = some y := ⟨_, rfl, getD_get (by first | exact hl131 | simpa using hl131 | (simp only [List.length_set]; omega) | omega | (rw [(sortI_perm _).length_eq]; exact hl131))⟩
                                obtain ⟨b131, u131, cs131, l131, f131, j131, i131, g131, k131⟩ := OwnS.elem (OwnS.mono wPa0l8 s_c9) h131
                                obtain rfl : l131 = [.int .u64 y131] := g131
                                refine Plan.v 14 [15, 16, 17] (by kernel_rfl) (by kernel_rfl) (by kernel_rfl) (by kernel_rfl) rfl (fun _ _ h_ => R.ixp (sz := ((intE .u64)).size) Try.underlying22 Try.sizeOf26 rfl rfl rfl (by first | omega | (simp; done) | (simp; omega) | (simp at *; omega)) i131 (TL.nil h_)) ?_
                                refine Plan.s1 15 [16, 17] (by kernel_rfl) (by kernel_rfl) rfl ?_
                                refine R.stEF (E := (intE .u64)) (e := 26) (v := (.slice Aa0 a0.length pa0)) (m := [.int .u64 y125]) (o := 0) (y := y131) (y' := y125) (j := n10l8.toNat) Try.sizeOf26 rfl (OwnS.mono wPa0l8 s_c9) .hd i131 rfl rfl (cells1 rfl) (all_one rfl) h131 (by show 0 + 1 ≤ 1; decide) (fun l hl => by have e0 : l = [.int .u64 y131] := hl; subst e0; exact rfl) ?_
                                intro cst169 wst169
                                refine TL.nil (Plan.e0 (HLe.refl _) ?_)
                                have hl132 : ((n10l8 - 1)).toNat < a0.length := by first | omega | (simp; done) | (simp; omega) | (simp at *; omega)
                                obtain ⟨y132, e132, h132⟩ : ∃ y, y = (((xPa0l8.set n10l8.toNat y125)).getD (((n10l8 - 1)).toNat) (0 : Int)) ∧ ((xPa0l8.set n10l8.toNat y125))[((n10l8 - 1)).toNat]? = some y := ⟨_, rfl, getD_get (by first | exact hl132 | simpa using hl132 | (simp only [List.length_set]; omega) | omega | (rw [(sortI_perm _).length_eq]; exact hl132))⟩
                                obtain ⟨b132, u132, cs132, l132, f132, j132, i132, g132, k132⟩ := OwnS.elem wst169 h132
                                obtain rfl : l132 = [.int .u64 y132] := g132
                                refine Plan.v 16 [17] (by kernel_rfl) (by kernel_rfl) (by kernel_rfl) (by kernel_rfl) rfl (fun _ _ h_ => R.ixp (sz := ((intE .u64)).size) Try.underlying22 Try.sizeOf26 rfl rfl rfl (by first | omega | (simp; done) | (simp; omega) | (simp at *; omega)) i132 (TL.nil h_)) ?_
                                refine Plan.s1 17 [] (by kernel_rfl) (by kernel_rfl) rfl ?_
                                refine R.stEF (E := (intE .u64)) (e := 26) (v := (.slice Aa0 a0.length pa0)) (m := [.int .u64 y129]) (o := 0) (y := y132) (y' := y129) (j := ((n10l8 - 1)).toNat) Try.sizeOf26 rfl wst169 .hd i132 rfl rfl (cells1 rfl) (all_one rfl) h132 (by show 0 + 1 ≤ 1; decide) (fun l hl => by have e0 : l = [.int .u64 y132] := hl; subst e0; exact rfl) ?_
                                intro cst170 wst170
                                refine TL.nil (Plan.e0 (HLe.refl _) ?_)
                                refine Plan.done (Post.blkN ?_)
                                refine id (Post.thnN ?_)
                                refine T.region ?_
                                refine R.mvE rfl (by conv => lhs; whnf) ?_
                                refine R.addI rfl rfl rfl (by omega) ?_
                                refine R.asE rfl (by conv => lhs; whnf) ?_
                                refine TL.nil (Post.thnN ?_)
                                exact ⟨(ml8, (n10l8 + 1), (((xPa0l8.set n10l8.toNat y125)).set (((n10l8 - 1)).toNat) y129), cst170), (s_l8.trans s_c9), ⟨(by first | omega | (simp; omega) | (simp at *; omega)), (Has.cons .hd Has.nil), wst170, (by first | omega | (simp; done) | (simp; omega) | (simp at *; omega)), (by first | omega | (simp; done) | (simp; omega) | (simp at *; omega)), (by subst e132; subst e131; subst e129; subst e125; rw [← hQl8, slices_partialInsertionSortOrdered_Id_l8]; rw [if_pos c103, hTc9, LR.seq_go, if_f c116])⟩, by show ml8 < ml8 + 1; omega, rfl, rfl, rfl, rfl, rfl, rfl, trivial⟩
                        · refine T.set 103 (.bool false) (congrArg Value.bool (decide_eq_false c103)) ?_
                          refine T.exit (Post.thnE (Post.thnE (Post.blkX ?_)))
                          have hEl8 : slices_partialInsertionSortOrdered_Id_l8 a2 ((a2 - ((n7l2 + 1))).toNat + 1) (((n7l2 + 1), xPa0c5)) = (n10l8, xPa0l8) := (by rw [← hQl8, slices_partialInsertionSortOrdered_Id_l8]; rw [if_neg c103])
                          refine id (Post.blkN ?_)
                          refine id (Post.thnN ?_)
                          refine T.region ?_
                          refine R.mvE rfl (by conv => lhs; whnf) ?_
                          refine R.addI rfl rfl rfl (by omega) ?_
                          refine R.asE rfl (by conv => lhs; whnf) ?_
                          refine TL.nil (Post.thnN ?_)
                          exact ⟨(ml1, n7l2, (n8l1 + 1), xPa0l8, cPa0l8), (s_l1.trans (s_l2.trans (s_c3.trans (s_c4.trans (s_c5.trans s_l8))))), ⟨(by first | omega | (simp; omega) | (simp at *; omega)), (Has.cons .hd Has.nil), wPa0l8, (by first | omega | (simp; done) | (simp; omega) | (simp at *; omega)), (by first | omega | (simp; done) | (simp; omega) | (simp at *; omega)), (by first | omega | (simp; done) | (simp; omega) | (simp at *; omega)), (by first | omega | (simp; done) | (simp; omega) | (simp at *; omega)), (by rw [← hQl1, slices_partialInsertionSortOrdered_Id_l1]; rw [if_pos c14, hEl2, LR.seq_go, if_neg c37, if_neg c41, hTc4, LR.seq_go, hTc5, LR.seq_go, if_pos c98, hEl8, LR.seq_go])⟩, by show ml1 < ml1 + 1; omega, rfl, rfl, rfl, rfl, rfl, trivial⟩
                    · refine T.set 98 (.bool false) (congrArg Value.bool (decide_eq_false c98)) ?_
                      refine T.skip (Post.blkN ?_)
                      refine id (Post.thnN ?_)
                      refine T.region ?_
                      refine R.mvE rfl (by conv => lhs; whnf) ?_
                      refine R.addI rfl rfl rfl (by omega) ?_
                      refine R.asE rfl (by conv => lhs; whnf) ?_
                      refine TL.nil (Post.thnN ?_)
                      exact ⟨(ml1, n7l2, (n8l1 + 1), xPa0c5, cPa0c5), (s_l1.trans (s_l2.trans (s_c3.trans (s_c4.trans s_c5)))), ⟨(by first | omega | (simp; omega) | (simp at *; omega)), (Has.cons .hd Has.nil), wPa0c5, (by first | omega | (simp; done) | (simp; omega) | (simp at *; omega)), (by first | omega | (simp; done) | (simp; omega) | (simp at *; omega)), (by first | omega | (simp; done) | (simp; omega) | (simp at *; omega)), (by first | omega | (simp; done) | (simp; omega) | (simp at *; omega)), (by rw [← hQl1, slices_partialInsertionSortOrdered_Id_l1]; rw [if_pos c14, hEl2, LR.seq_go, if_neg c37, if_neg c41, hTc4, LR.seq_go, hTc5, LR.seq_go, if_neg c98])⟩, by show ml1 < ml1 + 1; omega, rfl, rfl, rfl, rfl, rfl, trivial⟩
    · refine T.set 14 (.bool false) (congrArg Value.bool (decide_eq_false c14)) ?_
      refine T.exit (Post.thnE (Post.thnE (Post.blkX ?_)))
      have hEl1 : slices_partialInsertionSortOrdered_Id_l1 a1 a2 ((5 - 0 : Int).toNat + 1) (((a1 + 1), 0, a0)) = .go ((n7l1, n8l1, xPa0l1)) := (by rw [← hQl1, slices_partialInsertionSortOrdered_Id_l1]; rw [if_neg c14])
      refine id (Post.thnN ?_)
      refine T.seq ?_
      refine T.region ?_
      refine R.asE rfl (by conv => lhs; whnf) ?_
      refine TL.nil (Post.thnN ?_)
      refine T.has (Has.cons .hd Has.nil) ?_
      refine T.ret ?_
      have hM : slices_partialInsertionSortOrdered_Id_m a0 a1 a2 = (false, xPa0l1) := by rw [slices_partialInsertionSortOrdered_Id_m, hEl1, LR.on_go]
      exact fin1L (v := .bool false) [cPa0l1] rfl rfl (List.Sublist.refl _) ⟨cPa0l1, by first | rw [hM] | rfl, by first | rw [hM] | rfl, by rw [hM]; exact wPa0l1⟩

end Go.SX
