/- 'PlanOf' answers true, whatever it is handed, and what it is handed reads behind it as it did: the row, and its tied card. -/
import Derived.RangeFuncNested
import Derived.RangeFuncBound
import Derived.RangeFuncCalls
import Derived.RangeFuncLeaves
import Derived.Shelf.Abstract
import Derived.Laws.AppendOwn
import Derived.Laws.OwnMore
import Derived.KernelRfl
import Derived.IntWalk
import Derived.Laws.Append
import Derived.WideLaws
import Derived.Laws.Slices
import Derived.Laws.MakeOwn
import Derived.OrdersIn
import Derived.Laws.Cover3
import Derived.Test.YtmhoclmjgjopfaaGreatDoorProg
import Derived.Laws.StructEq
import Derived.Shelf.Sort.Plain
import Derived.Sort.OwnSortedInts
import Derived.Shelf.Slices.In.SortNone
import Derived.Shelf.Slices.CompactI
import Derived.ProofKit
import Derived.ChangeSlices
import Derived.Carry
import Derived.Deep.Slices
import Derived.OpenShut
import Derived.Test.YtmhoclmjgjopfaaGreatDoorCards
import Derived.Test.YtmhoclmjgjopfaaGreatDoorTie
import Derived.LaidMore
import Derived.Stop.Joined
import Derived.MakeChecks
import Derived.Test.YtmhoclmjgjopfaaGreatDoorKO4
set_option linter.unusedVariables false
set_option linter.unusedSimpArgs false
namespace Go.SX
open Go Go.Proofs

def windroseref20_put_l2 (a1 : Int) : List Int → ((List Int)) → (List Int)
  | [], sl2 => sl2
  | yl2 :: ysl2, sl2 => if a1 < yl2 then (windroseref20_put_l2 a1 ysl2 ((sl2 ++ [yl2]))) else (windroseref20_put_l2 a1 ysl2 sl2)
def windroseref20_put_l1 (a1 : Int) : List Int → ((List Int)) → (List Int)
  | [], sl1 => sl1
  | yl1 :: ysl1, sl1 => if yl1 < a1 then (windroseref20_put_l1 a1 ysl1 ((sl1 ++ [yl1]))) else (windroseref20_put_l1 a1 ysl1 sl1)
def windroseref20_put_m (a0 : List Int) (a1 : Int) : (List Int) :=
  LR.seq (windroseref20_put_l1 a1 a0 []) (fun ol1 => LR.seq (windroseref20_put_l2 a1 a0 ((ol1 ++ [a1]))) (fun ol2 => ol2))
set_option maxHeartbeats 3200000 in
theorem windroseref20_put_c (H : Heap) (va0 : Value) (a0 : List Int) (ha0 : RdS (intE .i64) H va0 a0) (a1 : Int) (hl : a0.length ≤ 2000000) : Fc Tryz.prog (fnv 87) [va0, .int .i64 a1] H [] (fun v' H' L' => ∃ u0_0 c0_0, v' = u0_0 ∧ L' = [c0_0] ∧ OwnS (intE .i64) 3 H' u0_0 (windroseref20_put_m a0 a1) c0_0) := by
  refine Fc.of_body (N := 43) Tryz.func87 rfl (by kernel_rfl) rfl rfl ?_
  intro w0
  obtain ⟨Aa0, ca0, rfl, hca0, hda0, ha0⟩ := ha0.shape
  refine T.seq ?_
  refine T.region ?_
  refine R.asE rfl (by conv => lhs; whnf) ?_
  refine TL.nil (Post.thnN ?_)
  refine T.seq ?_
  refine T.region ?_
  refine R.asE rfl (by conv => lhs; whnf) ?_
  refine TL.nil (Post.thnN ?_)
  refine T.seq ?_
  refine T.seq ?_
  refine T.region ?_
  refine R.mvE rfl (by conv => lhs; whnf) ?_
  refine R.len Tryz.underlying30 rfl rfl ?_
  refine R.mvE rfl (by conv => lhs; whnf) ?_
  refine TL.nil (Post.thnN ?_)
  refine T.block ?_
  refine T.loop (ι := Nat × Value × (List Int) × Chunk) (fun ⟨kl1, v5l1, x5l1, c5l1⟩ H' L' ds' => kl1 ≤ a0.length ∧ Has L' [c5l1] ∧ OwnS (intE .i64) 3 H' v5l1 x5l1 c5l1 ∧ x5l1.length ≤ kl1 ∧ windroseref20_put_l1 a1 (a0.drop kl1) x5l1 = windroseref20_put_l1 a1 a0 []) (fun ⟨kl1, v5l1, x5l1, c5l1⟩ => [(12, .int .i64 (kl1 : Int)), (0, .slice Aa0 a0.length ca0), (1, .int .i64 a1), (5, v5l1), (10, .slice Aa0 a0.length ca0), (11, .int .i64 (a0.length : Int))]) (fun ⟨kl1, v5l1, x5l1, c5l1⟩ => a0.length - kl1) (0, .slice none 0 0, [], []) ?_ ?_ ?_
  · exact ⟨(by omega), (Has.none Has.nil), OwnS.nil, (by first | omega | (simp; done) | (simp; omega) | (simp at *; omega)), (by rfl)⟩
  · exact ⟨rfl, rfl, rfl, rfl, rfl, rfl, trivial⟩
  · intro ⟨kl1, v5l1, x5l1, c5l1⟩ σ_l1 H_l1 L_l1 ds_l1 s_l1 hI_l1
    obtain ⟨hkl1, hI_l1⟩ := hI_l1
    obtain ⟨hLl1, w5l1, hBl1_0, hQl1⟩ := hI_l1
    obtain ⟨A5l1, p5l1, rfl, m5l1, n5l1_⟩ := OwnS.shape w5l1
    refine T.has hLl1 ?_
    refine T.seq ?_
    refine T.region ?_
    refine R.lss rfl rfl rfl ?_
    refine TL.nil (Post.thnN ?_)
    refine T.seq ?_
    refine T.condD rfl (fun c13 => ?_) (fun c13 => ?_)
    · have hltl1 : kl1 < a0.length := by omega
      obtain ⟨yl1, hyl1⟩ := getk (xs := a0) (k := kl1) (by omega)
      refine T.skip (Post.thnN ?_)
      refine T.seq ?_
      refine T.block ?_
      refine T.seq ?_
      refine T.region ?_
      obtain ⟨b14, o14, i14, k14⟩ := RdS.elem (ha0.mono s_l1) hyl1
      obtain ⟨l14, g14, k14⟩ := k14
      obtain rfl : l14 = [.int .i64 yl1] := g14
      refine R.ixp Tryz.underlying30 Tryz.sizeOf3 rfl rfl rfl (by omega) i14 ?_
      refine R.ldC Tryz.isAgg3 rfl rfl (k14 0 _ rfl) ?_
      refine R.asE rfl (by conv => lhs; whnf) ?_
      refine TL.nil (Post.thnN ?_)
      refine T.seq ?_
      refine T.region ?_
      refine R.mvE rfl (by conv => lhs; whnf) ?_
      refine R.mvE rfl (by conv => lhs; whnf) ?_
      refine R.lss rfl rfl rfl ?_
      refine TL.nil (Post.thnN ?_)
      refine T.condD rfl (fun c18 => ?_) (fun c18 => ?_)
      · refine T.set 18 (.bool true) (congrArg Value.bool (decide_eq_true c18)) ?_
        refine T.region ?_
        refine R.mvE rfl (by conv => lhs; whnf) ?_
        refine R.mvE rfl (by conv => lhs; whnf) ?_
        refine R.bs rfl (run_buildSlice1 Tryz.underlying30 Tryz.sizeOf3 Tryz.zeroValue3 rfl rfl) ?_
        intro b21
        have w21 : OwnS (intE .i64) 3 H_l1 (.slice (some ⟨b21, 0, none⟩) 1 1) [yl1] [(b21, .cells #[.int .i64 yl1] 3)] := OwnS.lit (xs := [yl1]) (cellsOf_cons (a := [.int .i64 yl1]) rfl cellsOf_nil) (by show 1 ≤ maxLen; decide)
        obtain ⟨k22, y22, r22⟩ := Src.ownA w21
        refine R.app (E := (intE .i64)) (e := 3) (xs := x5l1) (ys := [yl1]) Tryz_ty30 rfl rfl rfl w5l1 (.tl .hd) (r22 _ .hd) y22 (by (try simp only [List.length_append, List.length_cons, List.length_nil, List.length_replicate, List.length_take, List.length_drop]); omega) (by (try simp only [List.length_append, List.length_cons, List.length_nil, List.length_replicate, List.length_take, List.length_drop]); omega) ?_
        intro v22 c22 w22
        obtain ⟨A22, p22, rfl, m22, n22⟩ := OwnS.shape w22
        refine TL.del (.tl .hd) ?_
        refine R.asE rfl (by conv => lhs; whnf) ?_
        refine TL.nil (Post.blkN ?_)
        refine id (Post.thnN ?_)
        refine T.region ?_
        refine R.addI rfl rfl rfl (by omega) ?_
        refine R.mvE rfl (by conv => lhs; whnf) ?_
        refine TL.nil (Post.thnN ?_)
        exact ⟨(kl1 + 1, .slice A22 (x5l1 ++ [yl1]).length p22, (x5l1 ++ [yl1]), c22), s_l1, ⟨(by omega), (Has.cons .hd Has.nil), w22, (by first | omega | (simp; done) | (simp; omega) | (simp at *; omega)), (by rw [← hQl1, drop_cons hyl1, windroseref20_put_l1]; rw [if_pos c18])⟩, by show a0.length - (kl1 + 1) < a0.length - kl1; omega, rfl, rfl, rfl, rfl, rfl, rfl, trivial⟩
      · refine T.set 18 (.bool false) (congrArg Value.bool (decide_eq_false c18)) ?_
        refine T.skip (Post.blkN ?_)
        refine id (Post.thnN ?_)
        refine T.region ?_
        refine R.addI rfl rfl rfl (by omega) ?_
        refine R.mvE rfl (by conv => lhs; whnf) ?_
        refine TL.nil (Post.thnN ?_)
        exact ⟨(kl1 + 1, .slice A5l1 x5l1.length p5l1, x5l1, c5l1), s_l1, ⟨(by omega), (Has.cons .hd Has.nil), w5l1, (by first | omega | (simp; done) | (simp; omega) | (simp at *; omega)), (by rw [← hQl1, drop_cons hyl1, windroseref20_put_l1]; rw [if_neg c18])⟩, by show a0.length - (kl1 + 1) < a0.length - kl1; omega, rfl, rfl, rfl, rfl, rfl, rfl, trivial⟩
    · refine T.exit (Post.thnE (Post.thnE (Post.blkX ?_)))
      have hEl1 : windroseref20_put_l1 a1 a0 [] = x5l1 := (hQl1.symm.trans (by rw [show kl1 = a0.length by omega, List.drop_length, windroseref20_put_l1]))
      refine id (Post.thnN ?_)
      refine T.seq ?_
      refine T.region ?_
      refine R.mvE rfl (by conv => lhs; whnf) ?_
      refine R.mvE rfl (by conv => lhs; whnf) ?_
      refine R.bs rfl (run_buildSlice1 Tryz.underlying30 Tryz.sizeOf3 Tryz.zeroValue3 rfl rfl) ?_
      intro b26
      have w26 : OwnS (intE .i64) 3 H_l1 (.slice (some ⟨b26, 0, none⟩) 1 1) [a1] [(b26, .cells #[.int .i64 a1] 3)] := OwnS.lit (xs := [a1]) (cellsOf_cons (a := [.int .i64 a1]) rfl cellsOf_nil) (by show 1 ≤ maxLen; decide)
      obtain ⟨k27, y27, r27⟩ := Src.ownA w26
      refine R.app (E := (intE .i64)) (e := 3) (xs := x5l1) (ys := [a1]) Tryz_ty30 rfl rfl rfl w5l1 (.tl .hd) (r27 _ .hd) y27 (by (try simp only [List.length_append, List.length_cons, List.length_nil, List.length_replicate, List.length_take, List.length_drop]); omega) (by (try simp only [List.length_append, List.length_cons, List.length_nil, List.length_replicate, List.length_take, List.length_drop]); omega) ?_
      intro v27 c27 w27
      obtain ⟨A27, p27, rfl, m27, n27⟩ := OwnS.shape w27
      refine TL.del (.tl .hd) ?_
      refine R.asE rfl (by conv => lhs; whnf) ?_
      refine TL.nil (Post.thnN ?_)
      refine T.seq ?_
      refine T.seq ?_
      refine T.region ?_
      refine R.mvE rfl (by conv => lhs; whnf) ?_
      refine R.len Tryz.underlying30 rfl rfl ?_
      refine R.mvE rfl (by conv => lhs; whnf) ?_
      refine TL.nil (Post.thnN ?_)
      refine T.block ?_
      refine T.loop (ι := Nat × Value × (List Int) × Chunk) (fun ⟨kl2, v5l2, x5l2, c5l2⟩ H' L' ds' => kl2 ≤ a0.length ∧ Has L' [c5l2] ∧ OwnS (intE .i64) 3 H' v5l2 x5l2 c5l2 ∧ x5l2.length ≤ a0.length + 1 + kl2 ∧ windroseref20_put_l2 a1 (a0.drop kl2) x5l2 = windroseref20_put_l2 a1 a0 ((x5l1 ++ [a1]))) (fun ⟨kl2, v5l2, x5l2, c5l2⟩ => [(30, .int .i64 (kl2 : Int)), (1, .int .i64 a1), (5, v5l2), (28, .slice Aa0 a0.length ca0), (29, .int .i64 (a0.length : Int))]) (fun ⟨kl2, v5l2, x5l2, c5l2⟩ => a0.length - kl2) (0, .slice A27 (x5l1 ++ [a1]).length p27, (x5l1 ++ [a1]), c27) ?_ ?_ ?_
      · exact ⟨(by omega), (Has.cons .hd Has.nil), w27, (by first | omega | (simp; done) | (simp; omega) | (simp at *; omega)), (by rfl)⟩
      · exact ⟨rfl, rfl, rfl, rfl, rfl, trivial⟩
      · intro ⟨kl2, v5l2, x5l2, c5l2⟩ σ_l2 H_l2 L_l2 ds_l2 s_l2 hI_l2
        obtain ⟨hkl2, hI_l2⟩ := hI_l2
        obtain ⟨hLl2, w5l2, hBl2_0, hQl2⟩ := hI_l2
        obtain ⟨A5l2, p5l2, rfl, m5l2, n5l2_⟩ := OwnS.shape w5l2
        refine T.has hLl2 ?_
        refine T.seq ?_
        refine T.region ?_
        refine R.lss rfl rfl rfl ?_
        refine TL.nil (Post.thnN ?_)
        refine T.seq ?_
        refine T.condD rfl (fun c31 => ?_) (fun c31 => ?_)
        · have hltl2 : kl2 < a0.length := by omega
          obtain ⟨yl2, hyl2⟩ := getk (xs := a0) (k := kl2) (by omega)
          refine T.skip (Post.thnN ?_)
          refine T.seq ?_
          refine T.block ?_
          refine T.seq ?_
          refine T.region ?_
          obtain ⟨b32, o32, i32, k32⟩ := RdS.elem (ha0.mono (s_l1.trans s_l2)) hyl2
          obtain ⟨l32, g32, k32⟩ := k32
          obtain rfl : l32 = [.int .i64 yl2] := g32
          refine R.ixp Tryz.underlying30 Tryz.sizeOf3 rfl rfl rfl (by omega) i32 ?_
          refine R.ldC Tryz.isAgg3 rfl rfl (k32 0 _ rfl) ?_
          refine R.asE rfl (by conv => lhs; whnf) ?_
          refine TL.nil (Post.thnN ?_)
          refine T.seq ?_
          refine T.region ?_
          refine R.mvE rfl (by conv => lhs; whnf) ?_
          refine R.mvE rfl (by conv => lhs; whnf) ?_
          refine R.gtr rfl rfl rfl ?_
          refine TL.nil (Post.thnN ?_)
          refine T.condD rfl (fun c36 => ?_) (fun c36 => ?_)
          · refine T.set 36 (.bool true) (congrArg Value.bool (decide_eq_true c36)) ?_
            refine T.region ?_
            refine R.mvE rfl (by conv => lhs; whnf) ?_
            refine R.mvE rfl (by conv => lhs; whnf) ?_
            refine R.bs rfl (run_buildSlice1 Tryz.underlying30 Tryz.sizeOf3 Tryz.zeroValue3 rfl rfl) ?_
            intro b39
            have w39 : OwnS (intE .i64) 3 H_l2 (.slice (some ⟨b39, 0, none⟩) 1 1) [yl2] [(b39, .cells #[.int .i64 yl2] 3)] := OwnS.lit (xs := [yl2]) (cellsOf_cons (a := [.int .i64 yl2]) rfl cellsOf_nil) (by show 1 ≤ maxLen; decide)
            obtain ⟨k40, y40, r40⟩ := Src.ownA w39
            refine R.app (E := (intE .i64)) (e := 3) (xs := x5l2) (ys := [yl2]) Tryz_ty30 rfl rfl rfl w5l2 (.tl .hd) (r40 _ .hd) y40 (by (try simp only [List.length_append, List.length_cons, List.length_nil, List.length_replicate, List.length_take, List.length_drop]); omega) (by (try simp only [List.length_append, List.length_cons, List.length_nil, List.length_replicate, List.length_take, List.length_drop]); omega) ?_
            intro v40 c40 w40
            obtain ⟨A40, p40, rfl, m40, n40⟩ := OwnS.shape w40
            refine TL.del (.tl .hd) ?_
            refine R.asE rfl (by conv => lhs; whnf) ?_
            refine TL.nil (Post.blkN ?_)
            refine id (Post.thnN ?_)
            refine T.region ?_
            refine R.addI rfl rfl rfl (by omega) ?_
            refine R.mvE rfl (by conv => lhs; whnf) ?_
            refine TL.nil (Post.thnN ?_)
            exact ⟨(kl2 + 1, .slice A40 (x5l2 ++ [yl2]).length p40, (x5l2 ++ [yl2]), c40), s_l2, ⟨(by omega), (Has.cons .hd Has.nil), w40, (by first | omega | (simp; done) | (simp; omega) | (simp at *; omega)), (by rw [← hQl2, drop_cons hyl2, windroseref20_put_l2]; rw [if_pos c36])⟩, by show a0.length - (kl2 + 1) < a0.length - kl2; omega, rfl, rfl, rfl, rfl, rfl, trivial⟩
          · refine T.set 36 (.bool false) (congrArg Value.bool (decide_eq_false c36)) ?_
            refine T.skip (Post.blkN ?_)
            refine id (Post.thnN ?_)
            refine T.region ?_
            refine R.addI rfl rfl rfl (by omega) ?_
            refine R.mvE rfl (by conv => lhs; whnf) ?_
            refine TL.nil (Post.thnN ?_)
            exact ⟨(kl2 + 1, .slice A5l2 x5l2.length p5l2, x5l2, c5l2), s_l2, ⟨(by omega), (Has.cons .hd Has.nil), w5l2, (by first | omega | (simp; done) | (simp; omega) | (simp at *; omega)), (by rw [← hQl2, drop_cons hyl2, windroseref20_put_l2]; rw [if_neg c36])⟩, by show a0.length - (kl2 + 1) < a0.length - kl2; omega, rfl, rfl, rfl, rfl, rfl, trivial⟩
        · refine T.exit (Post.thnE (Post.thnE (Post.blkX ?_)))
          have hEl2 : windroseref20_put_l2 a1 a0 ((x5l1 ++ [a1])) = x5l2 := (hQl2.symm.trans (by rw [show kl2 = a0.length by omega, List.drop_length, windroseref20_put_l2]))
          refine id (Post.thnN ?_)
          refine T.seq ?_
          refine T.region ?_
          refine R.mvE rfl (by conv => lhs; whnf) ?_
          refine R.asE rfl (by conv => lhs; whnf) ?_
          refine TL.nil (Post.thnN ?_)
          refine T.has (Has.cons .hd Has.nil) ?_
          refine T.ret ?_
          have hM : windroseref20_put_m a0 a1 = x5l2 := by rw [windroseref20_put_m, hEl1, LR.seq_go, hEl2, LR.seq_go]
          exact fin1L (v := .slice A5l2 x5l2.length p5l2) [c5l2] rfl rfl (List.Sublist.refl _) ⟨.slice A5l2 x5l2.length p5l2, c5l2, by first | rw [hM] | rfl, rfl, by rw [hM]; exact w5l2⟩

def windroseref20_has_l1 (a1 : Int) : List Int → Unit → LR (Bool) (Unit)
  | [], sl1 => .go ()
  | yl1 :: ysl1, sl1 => if yl1 = a1 then (.ret true) else (windroseref20_has_l1 a1 ysl1 ())
def windroseref20_has_m (a0 : List Int) (a1 : Int) : Bool :=
  LR.on (windroseref20_has_l1 a1 a0 ()) (fun r => r) (fun ol1 => false)
set_option maxHeartbeats 3200000 in
theorem windroseref20_has_c (H : Heap) (va0 : Value) (a0 : List Int) (ha0 : RdS (intE .i64) H va0 a0) (a1 : Int) : Fv Tryz.prog (fnv 46) [va0, .int .i64 a1] H (.bool (windroseref20_has_m a0 a1)) := by
  refine Fc.of_body (N := 17) Tryz.func46 rfl (by kernel_rfl) rfl rfl ?_
  intro w0
  obtain ⟨Aa0, ca0, rfl, hca0, hda0, ha0⟩ := ha0.shape
  refine T.seq ?_
  refine T.region ?_
  refine R.asE rfl (by conv => lhs; whnf) ?_
  refine TL.nil (Post.thnN ?_)
  refine T.seq ?_
  refine T.seq ?_
  refine T.region ?_
  refine R.mvE rfl (by conv => lhs; whnf) ?_
  refine R.len Tryz.underlying30 rfl rfl ?_
  refine R.mvE rfl (by conv => lhs; whnf) ?_
  refine TL.nil (Post.thnN ?_)
  refine T.block ?_
  refine T.loop (ι := Nat) (fun kl1 H' L' ds' => kl1 ≤ a0.length ∧ Has L' [] ∧ windroseref20_has_l1 a1 (a0.drop kl1) () = windroseref20_has_l1 a1 a0 ()) (fun kl1 => [(9, .int .i64 (kl1 : Int)), (1, .int .i64 a1), (7, .slice Aa0 a0.length ca0), (8, .int .i64 (a0.length : Int))]) (fun kl1 => a0.length - kl1) 0 ?_ ?_ ?_
  · exact ⟨(by omega), Has.nil, (by rfl)⟩
  · exact ⟨rfl, rfl, rfl, rfl, trivial⟩
  · intro kl1 σ_l1 H_l1 L_l1 ds_l1 s_l1 hI_l1
    obtain ⟨hkl1, hI_l1⟩ := hI_l1
    obtain ⟨hLl1, hQl1⟩ := hI_l1
    refine T.has hLl1 ?_
    refine T.seq ?_
    refine T.region ?_
    refine R.lss rfl rfl rfl ?_
    refine TL.nil (Post.thnN ?_)
    refine T.seq ?_
    refine T.condD rfl (fun c10 => ?_) (fun c10 => ?_)
    · have hltl1 : kl1 < a0.length := by omega
      obtain ⟨yl1, hyl1⟩ := getk (xs := a0) (k := kl1) (by omega)
      refine T.skip (Post.thnN ?_)
      refine T.seq ?_
      refine T.block ?_
      refine T.seq ?_
      refine T.region ?_
      obtain ⟨b11, o11, i11, k11⟩ := RdS.elem (ha0.mono s_l1) hyl1
      obtain ⟨l11, g11, k11⟩ := k11
      obtain rfl : l11 = [.int .i64 yl1] := g11
      refine R.ixp Tryz.underlying30 Tryz.sizeOf3 rfl rfl rfl (by omega) i11 ?_
      refine R.ldC Tryz.isAgg3 rfl rfl (k11 0 _ rfl) ?_
      refine R.asE rfl (by conv => lhs; whnf) ?_
      refine TL.nil (Post.thnN ?_)
      refine T.seq ?_
      refine T.region ?_
      refine R.mvE rfl (by conv => lhs; whnf) ?_
      refine R.mvE rfl (by conv => lhs; whnf) ?_
      refine R.eql rfl rfl rfl ?_
      refine TL.nil (Post.thnN ?_)
      refine T.condD rfl (fun c15 => ?_) (fun c15 => ?_)
      · refine T.set 15 (.bool true) (congrArg Value.bool (decide_eq_true c15)) ?_
        refine T.seq ?_
        refine T.region ?_
        refine R.asE rfl (by conv => lhs; whnf) ?_
        refine TL.nil (Post.thnN ?_)
        refine T.has Has.nil ?_
        refine T.ret (Post.blkR (Post.thnR (Post.thnR (Post.blkR (Post.thnR ?_)))))
        have hXl1 : windroseref20_has_l1 a1 a0 () = .ret true := by rw [← hQl1, drop_cons hyl1, windroseref20_has_l1]; rw [if_pos c15]
        have hM : windroseref20_has_m a0 a1 = true := by rw [windroseref20_has_m, hXl1, LR.on_ret]
        exact fin1L (v := .bool true) [] rfl rfl (List.Sublist.refl _) ⟨rfl, by first | rw [hM] | rfl⟩
      · refine T.set 15 (.bool false) (congrArg Value.bool (decide_eq_false c15)) ?_
        refine T.skip (Post.blkN ?_)
        refine id (Post.thnN ?_)
        refine T.region ?_
        refine R.addI rfl rfl rfl (by omega) ?_
        refine R.mvE rfl (by conv => lhs; whnf) ?_
        refine TL.nil (Post.thnN ?_)
        exact ⟨kl1 + 1, s_l1, ⟨(by omega), Has.nil, (by rw [← hQl1, drop_cons hyl1, windroseref20_has_l1]; rw [if_neg c15])⟩, by show a0.length - (kl1 + 1) < a0.length - kl1; omega, rfl, rfl, rfl, rfl, trivial⟩
    · refine T.exit (Post.thnE (Post.thnE (Post.blkX ?_)))
      have hEl1 : windroseref20_has_l1 a1 a0 () = .go () := (hQl1.symm.trans (by rw [show kl1 = a0.length by omega, List.drop_length, windroseref20_has_l1]))
      refine id (Post.thnN ?_)
      refine T.seq ?_
      refine T.region ?_
      refine R.asE rfl (by conv => lhs; whnf) ?_
      refine TL.nil (Post.thnN ?_)
      refine T.has Has.nil ?_
      refine T.ret ?_
      have hM : windroseref20_has_m a0 a1 = false := by rw [windroseref20_has_m, hEl1, LR.on_go]
      exact fin1L (v := .bool false) [] rfl rfl (List.Sublist.refl _) ⟨rfl, by first | rw [hM] | rfl⟩

theorem put20_l1 (n : Int) : ∀ (l a : List Int), windroseref20_put_l1 n l a = a ++ l.filter (fun x => decide (x < n))
  | [], a => by simp [windroseref20_put_l1]
  | y :: ys, a => by
    rw [windroseref20_put_l1, List.filter_cons]
    by_cases h : y < n
    · rw [if_pos h, if_pos (decide_eq_true h), put20_l1 n ys]; simp
    · rw [if_neg h, if_neg (by simpa using h), put20_l1 n ys]
theorem put20_l2 (n : Int) : ∀ (l a : List Int), windroseref20_put_l2 n l a = a ++ l.filter (fun x => decide (n < x))
  | [], a => by simp [windroseref20_put_l2]
  | y :: ys, a => by
    rw [windroseref20_put_l2, List.filter_cons]
    by_cases h : n < y
    · rw [if_pos h, if_pos (decide_eq_true h), put20_l2 n ys]; simp
    · rw [if_neg h, if_neg (by simpa using h), put20_l2 n ys]
theorem put20_eq (l : List Int) (n : Int) : windroseref20_put_m l n = putI l n := by
  unfold windroseref20_put_m
  simp only [LR.seq, put20_l1, put20_l2, List.nil_append]
  unfold putI; simp
end Go.SX

set_option linter.unusedVariables false
set_option linter.unusedSimpArgs false
namespace Go.SX
open Go Go.Proofs

def windroseref20_policy_l1 (a0 : List (Int × (Bool × Bool × Int × Int × Int))) (a1 : Int × Int) (a3 : Int) : List Int → Unit → LR (Bool) (Unit)
  | [], sl1 => .go ()
  | yl1 :: ysl1, sl1 => LR.seq (windroseref13_Policy_m a0 a1.2 yl1) (fun r24 => LR.seq (if r24.2 = true then ((decide (r24.1 = a3))) else false : Bool) (fun sc2 => if sc2 = true then (.ret true) else (windroseref20_policy_l1 a0 a1 a3 ysl1 ())))
def windroseref20_policy_m (a0 : List (Int × (Bool × Bool × Int × Int × Int))) (a1 : Int × Int) (a2 : List Int) (a3 : Int) : Bool :=
  LR.on (windroseref20_policy_l1 a0 a1 a3 a2 ()) (fun r => r) (fun ol1 => false)
set_option maxHeartbeats 3200000 in
theorem windroseref20_policy_c (H : Heap) (va0 : Value) (a0 : List (Int × (Bool × Bool × Int × Int × Int))) (ha0 : RdS relationE H va0 a0) (a1 : Int × Int) (va2 : Value) (a2 : List Int) (ha2 : RdS (intE .i64) H va2 a2) (a3 : Int) : Fv Tryz.prog (fnv 86) [va0, .agg #[.int .i64 a1.1, .int .u64 a1.2], va2, .int .i64 a3] H (.bool (windroseref20_policy_m a0 a1 a2 a3)) := by
  refine Fc.of_body (N := 34) Tryz.func86 rfl (by kernel_rfl) rfl rfl ?_
  intro w0
  obtain ⟨Aa0, ca0, rfl, hca0, hda0, ha0⟩ := ha0.shape
  obtain ⟨Aa2, ca2, rfl, hca2, hda2, ha2⟩ := ha2.shape
  refine T.seq ?_
  refine T.region ?_
  refine R.box rfl (by conv => lhs; whnf) ?_
  intro b5
  refine R.asE rfl (by conv => lhs; whnf) ?_
  refine TL.shut .hd ?_
  intro Hb5_1 sb5_1 qb5_1
  have hb5_1 : Hb5_1 b5 = some (.cells #[.int .i64 (a1.1), .int .u64 (a1.2)] 50) := shut1 qb5_1
  refine TL.nil (Post.thnN ?_)
  refine T.seq ?_
  refine T.seq ?_
  refine T.region ?_
  refine R.mvE rfl (by conv => lhs; whnf) ?_
  refine R.len Tryz.underlying30 rfl rfl ?_
  refine R.mvE rfl (by conv => lhs; whnf) ?_
  refine TL.nil (Post.thnN ?_)
  refine T.block ?_
  refine T.loop (ι := Nat) (fun kl1 H' L' ds' => kl1 ≤ a2.length ∧ Has L' [] ∧ windroseref20_policy_l1 a0 a1 a3 (a2.drop kl1) () = windroseref20_policy_l1 a0 a1 a3 a2 ()) (fun kl1 => [(15, .int .i64 (kl1 : Int)), (0, .slice Aa0 a0.length ca0), (3, .int .i64 a3), (5, .pointer (some ⟨b5, 0, none⟩)), (13, .slice Aa2 a2.length ca2), (14, .int .i64 (a2.length : Int))]) (fun kl1 => a2.length - kl1) 0 ?_ ?_ ?_
  · exact ⟨(by omega), Has.nil, (by rfl)⟩
  · exact ⟨rfl, rfl, rfl, rfl, rfl, rfl, trivial⟩
  · intro kl1 σ_l1 H_l1 L_l1 ds_l1 s_l1 hI_l1
    obtain ⟨hkl1, hI_l1⟩ := hI_l1
    obtain ⟨hLl1, hQl1⟩ := hI_l1
    refine T.has hLl1 ?_
    refine T.seq ?_
    refine T.region ?_
    refine R.lss rfl rfl rfl ?_
    refine TL.nil (Post.thnN ?_)
    refine T.seq ?_
    refine T.condD rfl (fun c16 => ?_) (fun c16 => ?_)
    · have hltl1 : kl1 < a2.length := by omega
      obtain ⟨yl1, hyl1⟩ := getk (xs := a2) (k := kl1) (by omega)
      refine T.skip (Post.thnN ?_)
      refine T.seq ?_
      refine T.block ?_
      refine T.seq ?_
      refine T.region ?_
      obtain ⟨b17, o17, i17, k17⟩ := RdS.elem (ha2.mono (sb5_1.trans s_l1)) hyl1
      obtain ⟨l17, g17, k17⟩ := k17
      obtain rfl : l17 = [.int .i64 yl1] := g17
      refine R.ixp Tryz.underlying30 Tryz.sizeOf3 rfl rfl rfl (by omega) i17 ?_
      refine R.ldC Tryz.isAgg3 rfl rfl (k17 0 _ rfl) ?_
      refine R.asE rfl (by conv => lhs; whnf) ?_
      refine TL.nil (Post.thnN ?_)
      refine T.seq ?_
      refine T.region ?_
      refine R.mvE rfl (by conv => lhs; whnf) ?_
      refine R.fldA Tryz.underlying50 rfl Tryz.sizeOf48 (by decide) rfl rfl ?_
      refine R.ldH Tryz.isAgg48 rfl rfl (s_l1 _ _ hb5_1) rfl ?_
      refine R.mvE rfl (by conv => lhs; whnf) ?_
      obtain ⟨r24, er24⟩ : ∃ r, r = (windroseref13_Policy_m a0 a1.2 yl1) := ⟨_, rfl⟩
      refine R.callv (v := .tuple #[.int .i64 r24.1, .bool r24.2]) rfl rfl rfl (by rw [er24]; exact windroseref13_Policy_c _ _ a0 (ha0.mono (sb5_1.trans s_l1)) (a1.2) (yl1)) ?_
      refine R.mvE rfl (by conv => lhs; whnf) ?_
      refine R.ext rfl rfl rfl ?_
      refine R.ext rfl rfl rfl ?_
      refine R.asE rfl (by conv => lhs; whnf) ?_
      refine R.asE rfl (by conv => lhs; whnf) ?_
      refine TL.nil (Post.thnN ?_)
      refine T.seq ?_
      refine T.cutK (ι := Bool) (fun b32c2 H' L' ds' => Has L' [] ∧ (if r24.2 = true then ((decide (r24.1 = a3))) else false : Bool) = b32c2) (fun b32c2 => [(0, .slice Aa0 a0.length ca0), (3, .int .i64 a3), (5, .pointer (some ⟨b5, 0, none⟩)), (13, .slice Aa2 a2.length ca2), (14, .int .i64 (a2.length : Int)), (15, .int .i64 (kl1 : Int)), (32, .bool (b32c2))]) ?_ ?_
      · refine T.region ?_
        refine R.mvE rfl (by conv => lhs; whnf) ?_
        refine R.mvE rfl (by conv => lhs; whnf) ?_
        refine TL.gsplit 28 rfl (fun g28 => ?_) (fun g28 => ?_)
        · refine R.mvE rfl (by conv => lhs; whnf) ?_
          refine R.mvE rfl (by conv => lhs; whnf) ?_
          refine R.eql rfl rfl rfl ?_
          refine R.pkTE rfl rfl (by conv => lhs; whnf) ?_
          refine TL.nil (Post.thnN ?_)
          exact ⟨(decide (r24.1 = a3)), HLe.refl _, ⟨Has.nil, (by rw [if_t g28])⟩, rfl, rfl, rfl, rfl, rfl, rfl, rfl, trivial⟩
        · refine TL.off rfl rfl rfl ?_
          refine TL.off rfl rfl rfl ?_
          refine TL.off rfl rfl rfl ?_
          refine R.pkFE rfl rfl (by conv => lhs; whnf) ?_
          refine TL.nil (Post.thnN ?_)
          exact ⟨false, HLe.refl _, ⟨Has.nil, (by rw [if_f g28])⟩, rfl, rfl, rfl, rfl, rfl, rfl, rfl, trivial⟩
      · intro b32c2 σ_c2 H_c2 L_c2 ds_c2 s_c2 hI_c2
        obtain ⟨hLc2, hTc2⟩ := hI_c2
        refine T.has hLc2 ?_
        refine T.cond rfl (fun c32 => ?_) (fun c32 => ?_)
        · refine T.set 32 (.bool true) (congrArg Value.bool c32) ?_
          have hZ32 := hTc2.trans c32
          try simp only [or_f, or_t, and_f, and_t, decide_eq_true_eq, decide_eq_false_iff_not, Bool.not_eq_true'] at hZ32
          refine T.seq ?_
          refine T.region ?_
          refine R.asE rfl (by conv => lhs; whnf) ?_
          refine TL.nil (Post.thnN ?_)
          refine T.has Has.nil ?_
          refine T.ret (Post.blkR (Post.thnR (Post.thnR (Post.blkR (Post.thnR ?_)))))
          have hXl1 : windroseref20_policy_l1 a0 a1 a3 a2 () = .ret true := by subst er24; rw [← hQl1, drop_cons hyl1, windroseref20_policy_l1]; rw [LR.seq_go, hTc2, LR.seq_go, if_t c32]
          have hM : windroseref20_policy_m a0 a1 a2 a3 = true := by rw [windroseref20_policy_m, hXl1, LR.on_ret]
          exact fin1L (v := .bool true) [] rfl rfl (List.Sublist.refl _) ⟨rfl, by first | rw [hM] | rfl⟩
        · refine T.set 32 (.bool false) (congrArg Value.bool c32) ?_
          have hZ32 := hTc2.trans c32
          try simp only [or_f, or_t, and_f, and_t, decide_eq_true_eq, decide_eq_false_iff_not, Bool.not_eq_true'] at hZ32
          refine T.skip (Post.blkN ?_)
          refine id (Post.thnN ?_)
          refine T.region ?_
          refine R.addI rfl rfl rfl (by omega) ?_
          refine R.mvE rfl (by conv => lhs; whnf) ?_
          refine TL.nil (Post.thnN ?_)
          exact ⟨kl1 + 1, (s_l1.trans s_c2), ⟨(by omega), Has.nil, (by subst er24; rw [← hQl1, drop_cons hyl1, windroseref20_policy_l1]; rw [LR.seq_go, hTc2, LR.seq_go, if_f c32])⟩, by show a2.length - (kl1 + 1) < a2.length - kl1; omega, rfl, rfl, rfl, rfl, rfl, rfl, trivial⟩
    · refine T.exit (Post.thnE (Post.thnE (Post.blkX ?_)))
      have hEl1 : windroseref20_policy_l1 a0 a1 a3 a2 () = .go () := (hQl1.symm.trans (by rw [show kl1 = a2.length by omega, List.drop_length, windroseref20_policy_l1]))
      refine id (Post.thnN ?_)
      refine T.seq ?_
      refine T.region ?_
      refine R.asE rfl (by conv => lhs; whnf) ?_
      refine TL.nil (Post.thnN ?_)
      refine T.has Has.nil ?_
      refine T.ret ?_
      have hM : windroseref20_policy_m a0 a1 a2 a3 = false := by rw [windroseref20_policy_m, hEl1, LR.on_go]
      exact fin1L (v := .bool false) [] rfl rfl (List.Sublist.refl _) ⟨rfl, by first | rw [hM] | rfl⟩

def windroseref20_deletes_m (a0 : List (Int × (Bool × Bool × Int × Int × Int))) (a1 : Int × Int) (a2 : List Int) : Bool :=
  (windroseref20_policy_m a0 a1 a2 1)
set_option maxHeartbeats 3200000 in
theorem windroseref20_deletes_c (H : Heap) (va0 : Value) (a0 : List (Int × (Bool × Bool × Int × Int × Int))) (ha0 : RdS relationE H va0 a0) (a1 : Int × Int) (va2 : Value) (a2 : List Int) (ha2 : RdS (intE .i64) H va2 a2) : Fv Tryz.prog (fnv 47) [va0, .agg #[.int .i64 a1.1, .int .u64 a1.2], va2] H (.bool (windroseref20_deletes_m a0 a1 a2)) := by
  refine Fc.of_body (N := 11) Tryz.func47 rfl (by kernel_rfl) rfl rfl ?_
  intro w0
  obtain ⟨Aa0, ca0, rfl, hca0, hda0, ha0⟩ := ha0.shape
  obtain ⟨Aa2, ca2, rfl, hca2, hda2, ha2⟩ := ha2.shape
  refine T.seq ?_
  refine T.region ?_
  refine R.box rfl (by conv => lhs; whnf) ?_
  intro b4
  refine R.asE rfl (by conv => lhs; whnf) ?_
  refine TL.shut .hd ?_
  intro Hb4_1 sb4_1 qb4_1
  have hb4_1 : Hb4_1 b4 = some (.cells #[.int .i64 (a1.1), .int .u64 (a1.2)] 50) := shut1 qb4_1
  refine TL.nil (Post.thnN ?_)
  refine T.seq ?_
  refine T.region ?_
  refine R.mvE rfl (by conv => lhs; whnf) ?_
  refine R.ldXH (cs := [.int .i64 (a1.1), .int .u64 (a1.2)]) (l := [.int .i64 (a1.1), .int .u64 (a1.2)]) Tryz.isAgg50 Tryz.sizeOf50 rfl rfl hb4_1 rfl rfl ?_
  refine R.mvE rfl (by conv => lhs; whnf) ?_
  refine R.callv rfl rfl rfl (windroseref20_policy_c _ _ a0 (ha0.mono sb4_1) a1 _ a2 (ha2.mono sb4_1) (1)) ?_
  refine R.asE rfl (by conv => lhs; whnf) ?_
  refine TL.nil (Post.thnN ?_)
  refine T.has Has.nil ?_
  refine T.ret ?_
  have hM : windroseref20_deletes_m a0 a1 a2 = (windroseref20_policy_m a0 a1 a2 1) := by rw [windroseref20_deletes_m]
  exact fin1L (v := .bool ((windroseref20_policy_m a0 a1 a2 1))) [] rfl rfl (List.Sublist.refl _) ⟨rfl, by first | rw [hM] | rfl⟩

def windroseref20_refuses_m (a0 : List (Int × (Bool × Bool × Int × Int × Int))) (a1 : Int × Int) (a2 : List Int) : Bool :=
  if (!(windroseref20_deletes_m a0 a1 a2)) = true then ((windroseref20_policy_m a0 a1 a2 2)) else false
set_option maxHeartbeats 3200000 in
theorem windroseref20_refuses_c (H : Heap) (va0 : Value) (a0 : List (Int × (Bool × Bool × Int × Int × Int))) (ha0 : RdS relationE H va0 a0) (a1 : Int × Int) (va2 : Value) (a2 : List Int) (ha2 : RdS (intE .i64) H va2 a2) : Fv Tryz.prog (fnv 52) [va0, .agg #[.int .i64 a1.1, .int .u64 a1.2], va2] H (.bool (windroseref20_refuses_m a0 a1 a2)) := by
  refine Fc.of_body (N := 18) Tryz.func52 rfl (by kernel_rfl) rfl rfl ?_
  intro w0
  obtain ⟨Aa0, ca0, rfl, hca0, hda0, ha0⟩ := ha0.shape
  obtain ⟨Aa2, ca2, rfl, hca2, hda2, ha2⟩ := ha2.shape
  refine T.seq ?_
  refine T.region ?_
  refine R.box rfl (by conv => lhs; whnf) ?_
  intro b4
  refine R.asE rfl (by conv => lhs; whnf) ?_
  refine TL.shut .hd ?_
  intro Hb4_1 sb4_1 qb4_1
  have hb4_1 : Hb4_1 b4 = some (.cells #[.int .i64 (a1.1), .int .u64 (a1.2)] 50) := shut1 qb4_1
  refine TL.nil (Post.thnN ?_)
  refine T.seq ?_
  refine T.region ?_
  refine R.mvE rfl (by conv => lhs; whnf) ?_
  refine R.ldXH (cs := [.int .i64 (a1.1), .int .u64 (a1.2)]) (l := [.int .i64 (a1.1), .int .u64 (a1.2)]) Tryz.isAgg50 Tryz.sizeOf50 rfl rfl hb4_1 rfl rfl ?_
  refine R.mvE rfl (by conv => lhs; whnf) ?_
  refine R.callv rfl rfl rfl (windroseref20_deletes_c _ _ a0 (ha0.mono sb4_1) a1 _ a2 (ha2.mono sb4_1)) ?_
  refine R.not rfl rfl ?_
  refine R.mvE rfl (by conv => lhs; whnf) ?_
  refine TL.gsplit 12 rfl (fun g12 => ?_) (fun g12 => ?_)
  · refine R.mvE rfl (by conv => lhs; whnf) ?_
    refine R.ldXH (cs := [.int .i64 (a1.1), .int .u64 (a1.2)]) (l := [.int .i64 (a1.1), .int .u64 (a1.2)]) Tryz.isAgg50 Tryz.sizeOf50 rfl rfl hb4_1 rfl rfl ?_
    refine R.mvE rfl (by conv => lhs; whnf) ?_
    refine R.callv rfl rfl rfl (windroseref20_policy_c _ _ a0 (ha0.mono sb4_1) a1 _ a2 (ha2.mono sb4_1) (2)) ?_
    refine R.pkTE rfl rfl (by conv => lhs; whnf) ?_
    refine R.asE rfl (by conv => lhs; whnf) ?_
    refine TL.nil (Post.thnN ?_)
    refine T.has Has.nil ?_
    refine T.ret ?_
    have hM : windroseref20_refuses_m a0 a1 a2 = (windroseref20_policy_m a0 a1 a2 2) := by rw [windroseref20_refuses_m, if_t g12]
    exact fin1L (v := .bool ((windroseref20_policy_m a0 a1 a2 2))) [] rfl rfl (List.Sublist.refl _) ⟨rfl, by first | rw [hM] | rfl⟩
  · refine TL.off rfl rfl rfl ?_
    refine TL.off rfl rfl rfl ?_
    refine TL.off rfl rfl rfl ?_
    refine TL.off rfl rfl rfl ?_
    refine R.pkFE rfl rfl (by conv => lhs; whnf) ?_
    refine R.asE rfl (by conv => lhs; whnf) ?_
    refine TL.nil (Post.thnN ?_)
    refine T.has Has.nil ?_
    refine T.ret ?_
    have hM : windroseref20_refuses_m a0 a1 a2 = false := by rw [windroseref20_refuses_m, if_f g12]
    exact fin1L (v := .bool false) [] rfl rfl (List.Sublist.refl _) ⟨rfl, by first | rw [hM] | rfl⟩

def windroseref20_touched_m (a0 : List (Int × (Bool × Bool × Int × Int × Int))) (a1 : Int × Int) (a2 : List Int) : Bool :=
  if (windroseref20_deletes_m a0 a1 a2) = true then true else (if (windroseref20_refuses_m a0 a1 a2) = true then true else ((windroseref20_policy_m a0 a1 a2 0)))
set_option maxHeartbeats 3200000 in
theorem windroseref20_touched_c (H : Heap) (va0 : Value) (a0 : List (Int × (Bool × Bool × Int × Int × Int))) (ha0 : RdS relationE H va0 a0) (a1 : Int × Int) (va2 : Value) (a2 : List Int) (ha2 : RdS (intE .i64) H va2 a2) : Fv Tryz.prog (fnv 51) [va0, .agg #[.int .i64 a1.1, .int .u64 a1.2], va2] H (.bool (windroseref20_touched_m a0 a1 a2)) := by
  refine Fc.of_body (N := 23) Tryz.func51 rfl (by kernel_rfl) rfl rfl ?_
  intro w0
  obtain ⟨Aa0, ca0, rfl, hca0, hda0, ha0⟩ := ha0.shape
  obtain ⟨Aa2, ca2, rfl, hca2, hda2, ha2⟩ := ha2.shape
  refine T.seq ?_
  refine T.region ?_
  refine R.box rfl (by conv => lhs; whnf) ?_
  intro b4
  refine R.asE rfl (by conv => lhs; whnf) ?_
  refine TL.shut .hd ?_
  intro Hb4_1 sb4_1 qb4_1
  have hb4_1 : Hb4_1 b4 = some (.cells #[.int .i64 (a1.1), .int .u64 (a1.2)] 50) := shut1 qb4_1
  refine TL.nil (Post.thnN ?_)
  refine T.seq ?_
  refine T.region ?_
  refine R.mvE rfl (by conv => lhs; whnf) ?_
  refine R.ldXH (cs := [.int .i64 (a1.1), .int .u64 (a1.2)]) (l := [.int .i64 (a1.1), .int .u64 (a1.2)]) Tryz.isAgg50 Tryz.sizeOf50 rfl rfl hb4_1 rfl rfl ?_
  refine R.mvE rfl (by conv => lhs; whnf) ?_
  refine R.callv rfl rfl rfl (windroseref20_deletes_c _ _ a0 (ha0.mono sb4_1) a1 _ a2 (ha2.mono sb4_1)) ?_
  refine R.mvE rfl (by conv => lhs; whnf) ?_
  refine TL.gsplit 11 rfl (fun g11 => ?_) (fun g11 => ?_)
  · refine TL.off rfl rfl rfl ?_
    refine TL.off rfl rfl rfl ?_
    refine TL.off rfl rfl rfl ?_
    refine TL.off rfl rfl rfl ?_
    refine R.pkTE rfl rfl (by conv => lhs; whnf) ?_
    refine R.mvE rfl (by conv => lhs; whnf) ?_
    refine TL.off rfl rfl rfl ?_
    refine TL.off rfl rfl rfl ?_
    refine TL.off rfl rfl rfl ?_
    refine TL.off rfl rfl rfl ?_
    refine R.pkTE rfl rfl (by conv => lhs; whnf) ?_
    refine R.asE rfl (by conv => lhs; whnf) ?_
    refine TL.nil (Post.thnN ?_)
    refine T.has Has.nil ?_
    refine T.ret ?_
    have hM : windroseref20_touched_m a0 a1 a2 = true := by rw [windroseref20_touched_m, if_t g11]
    exact fin1L (v := .bool true) [] rfl rfl (List.Sublist.refl _) ⟨rfl, by first | rw [hM] | rfl⟩
  · refine R.mvE rfl (by conv => lhs; whnf) ?_
    refine R.ldXH (cs := [.int .i64 (a1.1), .int .u64 (a1.2)]) (l := [.int .i64 (a1.1), .int .u64 (a1.2)]) Tryz.isAgg50 Tryz.sizeOf50 rfl rfl hb4_1 rfl rfl ?_
    refine R.mvE rfl (by conv => lhs; whnf) ?_
    refine R.callv rfl rfl rfl (windroseref20_refuses_c _ _ a0 (ha0.mono sb4_1) a1 _ a2 (ha2.mono sb4_1)) ?_
    refine R.pkFE rfl rfl (by conv => lhs; whnf) ?_
    refine R.mvE rfl (by conv => lhs; whnf) ?_
    refine TL.gsplit 17 rfl (fun g17 => ?_) (fun g17 => ?_)
    · refine TL.off rfl rfl rfl ?_
      refine TL.off rfl rfl rfl ?_
      refine TL.off rfl rfl rfl ?_
      refine TL.off rfl rfl rfl ?_
      refine R.pkTE rfl rfl (by conv => lhs; whnf) ?_
      refine R.asE rfl (by conv => lhs; whnf) ?_
      refine TL.nil (Post.thnN ?_)
      refine T.has Has.nil ?_
      refine T.ret ?_
      have hM : windroseref20_touched_m a0 a1 a2 = true := by rw [windroseref20_touched_m, if_f g11, if_t g17]
      exact fin1L (v := .bool true) [] rfl rfl (List.Sublist.refl _) ⟨rfl, by first | rw [hM] | rfl⟩
    · refine R.mvE rfl (by conv => lhs; whnf) ?_
      refine R.ldXH (cs := [.int .i64 (a1.1), .int .u64 (a1.2)]) (l := [.int .i64 (a1.1), .int .u64 (a1.2)]) Tryz.isAgg50 Tryz.sizeOf50 rfl rfl hb4_1 rfl rfl ?_
      refine R.mvE rfl (by conv => lhs; whnf) ?_
      refine R.callv rfl rfl rfl (windroseref20_policy_c _ _ a0 (ha0.mono sb4_1) a1 _ a2 (ha2.mono sb4_1) (0)) ?_
      refine R.pkFE rfl rfl (by conv => lhs; whnf) ?_
      refine R.asE rfl (by conv => lhs; whnf) ?_
      refine TL.nil (Post.thnN ?_)
      refine T.has Has.nil ?_
      refine T.ret ?_
      have hM : windroseref20_touched_m a0 a1 a2 = (windroseref20_policy_m a0 a1 a2 0) := by rw [windroseref20_touched_m, if_f g11, if_f g17]
      exact fin1L (v := .bool ((windroseref20_policy_m a0 a1 a2 0))) [] rfl rfl (List.Sublist.refl _) ⟨rfl, by first | rw [hM] | rfl⟩

def windroseref20_Closed_l1 (a0 : List (Int × (Bool × Bool × Int × Int × Int))) (a2 : List Int) : List (Int × Int) → Unit → LR (Bool) (Unit)
  | [], sl1 => .go ()
  | yl1 :: ysl1, sl1 => LR.seq (if (!(windroseref20_has_m a2 yl1.1)) = true then ((windroseref20_deletes_m a0 yl1 a2)) else false : Bool) (fun sc2 => if sc2 = true then (.ret false) else (windroseref20_Closed_l1 a0 a2 ysl1 ()))
def windroseref20_Closed_m (a0 : List (Int × (Bool × Bool × Int × Int × Int))) (a1 : List (Int × Int)) (a2 : List Int) : Bool :=
  LR.on (windroseref20_Closed_l1 a0 a2 a1 ()) (fun r => r) (fun ol1 => true)
set_option maxHeartbeats 3200000 in
theorem windroseref20_Closed_c (H : Heap) (va0 : Value) (a0 : List (Int × (Bool × Bool × Int × Int × Int))) (ha0 : RdS relationE H va0 a0) (va1 : Value) (a1 : List (Int × Int)) (ha1 : RdS heldE H va1 a1) (va2 : Value) (a2 : List Int) (ha2 : RdS (intE .i64) H va2 a2) : Fv Tryz.prog (fnv 12) [va0, va1, va2] H (.bool (windroseref20_Closed_m a0 a1 a2)) := by
  refine Fc.of_body (N := 27) Tryz.func12 rfl (by kernel_rfl) rfl rfl ?_
  intro w0
  obtain ⟨Aa0, ca0, rfl, hca0, hda0, ha0⟩ := ha0.shape
  obtain ⟨Aa1, ca1, rfl, hca1, hda1, ha1⟩ := ha1.shape
  obtain ⟨Aa2, ca2, rfl, hca2, hda2, ha2⟩ := ha2.shape
  refine T.seq ?_
  refine T.region ?_
  refine R.asE rfl (by conv => lhs; whnf) ?_
  refine TL.nil (Post.thnN ?_)
  refine T.seq ?_
  refine T.seq ?_
  refine T.region ?_
  refine R.mvE rfl (by conv => lhs; whnf) ?_
  refine R.len Tryz.underlying23 rfl rfl ?_
  refine R.mvE rfl (by conv => lhs; whnf) ?_
  refine TL.nil (Post.thnN ?_)
  refine T.block ?_
  refine T.loop (ι := Nat) (fun kl1 H' L' ds' => kl1 ≤ a1.length ∧ Has L' [] ∧ windroseref20_Closed_l1 a0 a2 (a1.drop kl1) () = windroseref20_Closed_l1 a0 a2 a1 ()) (fun kl1 => [(11, .int .i64 (kl1 : Int)), (0, .slice Aa0 a0.length ca0), (2, .slice Aa2 a2.length ca2), (9, .slice Aa1 a1.length ca1), (10, .int .i64 (a1.length : Int))]) (fun kl1 => a1.length - kl1) 0 ?_ ?_ ?_
  · exact ⟨(by omega), Has.nil, (by rfl)⟩
  · exact ⟨rfl, rfl, rfl, rfl, rfl, trivial⟩
  · intro kl1 σ_l1 H_l1 L_l1 ds_l1 s_l1 hI_l1
    obtain ⟨hkl1, hI_l1⟩ := hI_l1
    obtain ⟨hLl1, hQl1⟩ := hI_l1
    refine T.has hLl1 ?_
    refine T.seq ?_
    refine T.region ?_
    refine R.lss rfl rfl rfl ?_
    refine TL.nil (Post.thnN ?_)
    refine T.seq ?_
    refine T.condD rfl (fun c12 => ?_) (fun c12 => ?_)
    · have hltl1 : kl1 < a1.length := by omega
      obtain ⟨yl1, hyl1⟩ := getk (xs := a1) (k := kl1) (by omega)
      refine T.skip (Post.thnN ?_)
      refine T.seq ?_
      refine T.block ?_
      refine T.seq ?_
      refine T.region ?_
      obtain ⟨b13, o13, i13, k13⟩ := RdS.elem (ha1.mono s_l1) hyl1
      obtain ⟨l13, g13, k13⟩ := k13
      obtain rfl : l13 = [.int .i64 (yl1.1), .int .u64 (yl1.2)] := g13
      refine R.ixp Tryz.underlying23 Tryz.sizeOf50 rfl rfl rfl (by omega) i13 ?_
      refine R.ldK (l := [.int .i64 (yl1.1), .int .u64 (yl1.2)]) Tryz.isAgg50 Tryz.sizeOf50 rfl rfl k13 rfl ?_
      refine R.alloc Tryz.zeroValue50 rfl ?_
      intro b8
      refine R.stX (old := [.int .i64 0, .int .u64 0]) (l := [.int .i64 (yl1.1), .int .u64 (yl1.2)]) (new := [.int .i64 (yl1.1), .int .u64 (yl1.2)]) (et := 50) Tryz.sizeOf50 rfl rfl rfl rfl rfl (by show 0 + 2 ≤ 2; decide) rfl (all_one rfl) .hd ?_
      refine TL.shut .hd ?_
      intro Hb8_1 sb8_1 qb8_1
      have hb8_1 : Hb8_1 b8 = some (.cells #[.int .i64 (yl1.1), .int .u64 (yl1.2)] 50) := shut1 qb8_1
      refine TL.nil (Post.thnN ?_)
      refine T.seq ?_
      refine T.cutK (ι := Bool) (fun b25c2 H' L' ds' => Has L' [] ∧ (if (!(windroseref20_has_m a2 yl1.1)) = true then ((windroseref20_deletes_m a0 yl1 a2)) else false : Bool) = b25c2) (fun b25c2 => [(0, .slice Aa0 a0.length ca0), (2, .slice Aa2 a2.length ca2), (9, .slice Aa1 a1.length ca1), (10, .int .i64 (a1.length : Int)), (11, .int .i64 (kl1 : Int)), (25, .bool (b25c2))]) ?_ ?_
      · refine T.region ?_
        refine R.mvE rfl (by conv => lhs; whnf) ?_
        refine R.fldA Tryz.underlying50 rfl Tryz.sizeOf3 (by decide) rfl rfl ?_
        refine R.ldH Tryz.isAgg3 rfl rfl hb8_1 rfl ?_
        refine R.callv rfl rfl rfl (windroseref20_has_c _ _ a2 (ha2.mono (s_l1.trans sb8_1)) (yl1.1)) ?_
        refine R.not rfl rfl ?_
        refine R.mvE rfl (by conv => lhs; whnf) ?_
        refine TL.gsplit 20 rfl (fun g20 => ?_) (fun g20 => ?_)
        · refine R.mvE rfl (by conv => lhs; whnf) ?_
          refine R.ldXH (cs := [.int .i64 (yl1.1), .int .u64 (yl1.2)]) (l := [.int .i64 (yl1.1), .int .u64 (yl1.2)]) Tryz.isAgg50 Tryz.sizeOf50 rfl rfl hb8_1 rfl rfl ?_
          refine R.mvE rfl (by conv => lhs; whnf) ?_
          refine R.callv rfl rfl rfl (windroseref20_deletes_c _ _ a0 (ha0.mono (s_l1.trans sb8_1)) yl1 _ a2 (ha2.mono (s_l1.trans sb8_1))) ?_
          refine R.pkTE rfl rfl (by conv => lhs; whnf) ?_
          refine TL.nil (Post.thnN ?_)
          exact ⟨(windroseref20_deletes_m a0 yl1 a2), HLe.refl _, ⟨Has.nil, (by rw [if_t g20])⟩, rfl, rfl, rfl, rfl, rfl, rfl, trivial⟩
        · refine TL.off rfl rfl rfl ?_
          refine TL.off rfl rfl rfl ?_
          refine TL.off rfl rfl rfl ?_
          refine TL.off rfl rfl rfl ?_
          refine R.pkFE rfl rfl (by conv => lhs; whnf) ?_
          refine TL.nil (Post.thnN ?_)
          exact ⟨false, HLe.refl _, ⟨Has.nil, (by rw [if_f g20])⟩, rfl, rfl, rfl, rfl, rfl, rfl, trivial⟩
      · intro b25c2 σ_c2 H_c2 L_c2 ds_c2 s_c2 hI_c2
        obtain ⟨hLc2, hTc2⟩ := hI_c2
        refine T.has hLc2 ?_
        refine T.cond rfl (fun c25 => ?_) (fun c25 => ?_)
        · refine T.set 25 (.bool true) (congrArg Value.bool c25) ?_
          have hZ25 := hTc2.trans c25
          try simp only [or_f, or_t, and_f, and_t, decide_eq_true_eq, decide_eq_false_iff_not, Bool.not_eq_true'] at hZ25
          refine T.seq ?_
          refine T.region ?_
          refine R.asE rfl (by conv => lhs; whnf) ?_
          refine TL.nil (Post.thnN ?_)
          refine T.has Has.nil ?_
          refine T.ret (Post.blkR (Post.thnR (Post.thnR (Post.blkR (Post.thnR ?_)))))
          have hXl1 : windroseref20_Closed_l1 a0 a2 a1 () = .ret false := by rw [← hQl1, drop_cons hyl1, windroseref20_Closed_l1]; rw [hTc2, LR.seq_go, if_t c25]
          have hM : windroseref20_Closed_m a0 a1 a2 = false := by rw [windroseref20_Closed_m, hXl1, LR.on_ret]
          exact fin1L (v := .bool false) [] rfl rfl (List.Sublist.refl _) ⟨rfl, by first | rw [hM] | rfl⟩
        · refine T.set 25 (.bool false) (congrArg Value.bool c25) ?_
          have hZ25 := hTc2.trans c25
          try simp only [or_f, or_t, and_f, and_t, decide_eq_true_eq, decide_eq_false_iff_not, Bool.not_eq_true'] at hZ25
          refine T.skip (Post.blkN ?_)
          refine id (Post.thnN ?_)
          refine T.region ?_
          refine R.addI rfl rfl rfl (by omega) ?_
          refine R.mvE rfl (by conv => lhs; whnf) ?_
          refine TL.nil (Post.thnN ?_)
          exact ⟨kl1 + 1, (s_l1.trans (sb8_1.trans s_c2)), ⟨(by omega), Has.nil, (by rw [← hQl1, drop_cons hyl1, windroseref20_Closed_l1]; rw [hTc2, LR.seq_go, if_f c25])⟩, by show a1.length - (kl1 + 1) < a1.length - kl1; omega, rfl, rfl, rfl, rfl, rfl, trivial⟩
    · refine T.exit (Post.thnE (Post.thnE (Post.blkX ?_)))
      have hEl1 : windroseref20_Closed_l1 a0 a2 a1 () = .go () := (hQl1.symm.trans (by rw [show kl1 = a1.length by omega, List.drop_length, windroseref20_Closed_l1]))
      refine id (Post.thnN ?_)
      refine T.seq ?_
      refine T.region ?_
      refine R.asE rfl (by conv => lhs; whnf) ?_
      refine TL.nil (Post.thnN ?_)
      refine T.has Has.nil ?_
      refine T.ret ?_
      have hM : windroseref20_Closed_m a0 a1 a2 = true := by rw [windroseref20_Closed_m, hEl1, LR.on_go]
      exact fin1L (v := .bool true) [] rfl rfl (List.Sublist.refl _) ⟨rfl, by first | rw [hM] | rfl⟩

def windroseref20_sameHeld_l1 (a1 : List (Int × Int)) : List (Int × Int) → Nat → Unit → LR (Bool) (Unit)
  | [], kl1, sl1 => .go ()
  | yl1 :: ysl1, kl1, sl1 => if (yl1 : Int × Int) ≠ (a1.getD kl1 (((0, 0) : Int × Int) : Int × Int)) then (.ret false) else (windroseref20_sameHeld_l1 a1 ysl1 (kl1 + 1) ())
def windroseref20_sameHeld_m (a0 : List (Int × Int)) (a1 : List (Int × Int)) : Bool :=
  if (a0.length : Int) ≠ (a1.length : Int) then false else (LR.on (windroseref20_sameHeld_l1 a1 a0 0 ()) (fun r => r) (fun ol1 => true))
set_option maxHeartbeats 3200000 in
theorem windroseref20_sameHeld_c (H : Heap) (va0 : Value) (a0 : List (Int × Int)) (ha0 : RdS heldE H va0 a0) (va1 : Value) (a1 : List (Int × Int)) (ha1 : RdS heldE H va1 a1) : Fv Tryz.prog (fnv 53) [va0, va1] H (.bool (windroseref20_sameHeld_m a0 a1)) := by
  refine Fc.of_body (N := 26) Tryz.func53 rfl (by kernel_rfl) rfl rfl ?_
  intro w0
  obtain ⟨Aa0, ca0, rfl, hca0, hda0, ha0⟩ := ha0.shape
  obtain ⟨Aa1, ca1, rfl, hca1, hda1, ha1⟩ := ha1.shape
  refine T.seq ?_
  refine T.region ?_
  refine R.asE rfl (by conv => lhs; whnf) ?_
  refine TL.nil (Post.thnN ?_)
  refine T.seq ?_
  refine T.seq ?_
  refine T.region ?_
  refine R.mvE rfl (by conv => lhs; whnf) ?_
  refine R.len Tryz.underlying23 rfl rfl ?_
  refine R.mvE rfl (by conv => lhs; whnf) ?_
  refine R.len Tryz.underlying23 rfl rfl ?_
  refine R.neq rfl rfl rfl ?_
  refine TL.nil (Post.thnN ?_)
  refine T.condD rfl (fun c11 => ?_) (fun c11 => ?_)
  · refine T.set 11 (.bool true) (congrArg Value.bool (decide_eq_true c11)) ?_
    refine T.seq ?_
    refine T.region ?_
    refine R.asE rfl (by conv => lhs; whnf) ?_
    refine TL.nil (Post.thnN ?_)
    refine T.has Has.nil ?_
    refine T.ret (Post.thnR ?_)
    have hM : windroseref20_sameHeld_m a0 a1 = false := by rw [windroseref20_sameHeld_m, if_pos c11]
    exact fin1L (v := .bool false) [] rfl rfl (List.Sublist.refl _) ⟨rfl, by first | rw [hM] | rfl⟩
  · refine T.set 11 (.bool false) (congrArg Value.bool (decide_eq_false c11)) ?_
    refine T.skip (Post.thnN ?_)
    refine T.seq ?_
    refine T.seq ?_
    refine T.region ?_
    refine R.mvE rfl (by conv => lhs; whnf) ?_
    refine R.len Tryz.underlying23 rfl rfl ?_
    refine R.mvE rfl (by conv => lhs; whnf) ?_
    refine TL.nil (Post.thnN ?_)
    refine T.block ?_
    refine T.loop (ι := Nat) (fun kl1 H' L' ds' => kl1 ≤ a0.length ∧ Has L' [] ∧ windroseref20_sameHeld_l1 a1 (a0.drop kl1) kl1 () = windroseref20_sameHeld_l1 a1 a0 0 ()) (fun kl1 => [(14, .int .i64 (kl1 : Int)), (1, .slice Aa1 a1.length ca1), (12, .slice Aa0 a0.length ca0), (13, .int .i64 (a0.length : Int))]) (fun kl1 => a0.length - kl1) 0 ?_ ?_ ?_
    · exact ⟨(by omega), Has.nil, (by rfl)⟩
    · exact ⟨rfl, rfl, rfl, rfl, trivial⟩
    · intro kl1 σ_l1 H_l1 L_l1 ds_l1 s_l1 hI_l1
      obtain ⟨hkl1, hI_l1⟩ := hI_l1
      obtain ⟨hLl1, hQl1⟩ := hI_l1
      refine T.has hLl1 ?_
      refine T.seq ?_
      refine T.region ?_
      refine R.lss rfl rfl rfl ?_
      refine TL.nil (Post.thnN ?_)
      refine T.seq ?_
      refine T.condD rfl (fun c15 => ?_) (fun c15 => ?_)
      · have hltl1 : kl1 < a0.length := by omega
        obtain ⟨yl1, hyl1⟩ := getk (xs := a0) (k := kl1) (by omega)
        refine T.skip (Post.thnN ?_)
        refine T.seq ?_
        refine T.block ?_
        refine T.seq ?_
        refine T.region ?_
        refine R.mvE rfl (by conv => lhs; whnf) ?_
        obtain ⟨b17, o17, i17, k17⟩ := RdS.elem (ha0.mono s_l1) hyl1
        obtain ⟨l17, g17, k17⟩ := k17
        obtain rfl : l17 = [.int .i64 (yl1.1), .int .u64 (yl1.2)] := g17
        refine R.ixp Tryz.underlying23 Tryz.sizeOf50 rfl rfl rfl (by omega) i17 ?_
        refine R.ldK (l := [.int .i64 (yl1.1), .int .u64 (yl1.2)]) Tryz.isAgg50 Tryz.sizeOf50 rfl rfl k17 rfl ?_
        refine R.alloc Tryz.zeroValue50 rfl ?_
        intro b6
        refine R.asE rfl (by conv => lhs; whnf) ?_
        refine R.stX (old := [.int .i64 0, .int .u64 0]) (l := [.int .i64 (yl1.1), .int .u64 (yl1.2)]) (new := [.int .i64 (yl1.1), .int .u64 (yl1.2)]) (et := 50) Tryz.sizeOf50 rfl rfl rfl rfl rfl (by show 0 + 2 ≤ 2; decide) rfl (all_one rfl) .hd ?_
        refine TL.shut .hd ?_
        intro Hb6_1 sb6_1 qb6_1
        have hb6_1 : Hb6_1 b6 = some (.cells #[.int .i64 (yl1.1), .int .u64 (yl1.2)] 50) := shut1 qb6_1
        refine TL.nil (Post.thnN ?_)
        refine T.seq ?_
        refine T.draw Tryz_mixed (by kernel_rfl) ?_
        refine Plan.v 0 [1, 2, 3, 4, 5] (by kernel_rfl) (by kernel_rfl) (by kernel_rfl) (by kernel_rfl) rfl (fun _ _ h_ => R.ldXH (cs := [.int .i64 (yl1.1), .int .u64 (yl1.2)]) (l := [.int .i64 (yl1.1), .int .u64 (yl1.2)]) Tryz.isAgg50 Tryz.sizeOf50 rfl rfl hb6_1 rfl rfl (TL.nil h_)) ?_
        refine Plan.v 1 [2, 3, 4, 5] (by kernel_rfl) (by kernel_rfl) (by kernel_rfl) (by kernel_rfl) rfl (fun _ _ h_ => R.mvE rfl (by conv => lhs; whnf) (TL.nil h_)) ?_
        refine Plan.v 2 [3, 4, 5] (by kernel_rfl) (by kernel_rfl) (by kernel_rfl) (by kernel_rfl) rfl (fun _ _ h_ => R.mvE rfl (by conv => lhs; whnf) (TL.nil h_)) ?_
        have hl22 : kl1 < a1.length := by first | omega | (simp; done) | (simp; omega) | (simp at *; omega)
        obtain ⟨y22, e22, h22⟩ : ∃ y, y = (a1.getD kl1 (((0, 0) : Int × Int) : Int × Int)) ∧ a1[kl1]? = some y := ⟨_, rfl, getD_get (by first | exact hl22 | simpa using hl22 | (rw [(sortI_perm _).length_eq]; exact hl22))⟩
        obtain ⟨b22, o22, i22, k22⟩ := RdS.elem (ha1.mono (s_l1.trans sb6_1)) h22
        obtain ⟨l22, g22, k22⟩ := k22
        obtain rfl : l22 = [.int .i64 (y22.1), .int .u64 (y22.2)] := g22
        refine Plan.v 3 [4, 5] (by kernel_rfl) (by kernel_rfl) (by kernel_rfl) (by kernel_rfl) rfl (fun _ _ h_ => R.ixp Tryz.underlying23 Tryz.sizeOf50 rfl rfl rfl (by first | omega | (simp; done) | (simp; omega) | (simp at *; omega)) i22 (TL.nil h_)) ?_
        refine Plan.v 4 [5] (by kernel_rfl) (by kernel_rfl) (by kernel_rfl) (by kernel_rfl) rfl (fun _ _ h_ => R.ldK (l := [.int .i64 (y22.1), .int .u64 (y22.2)]) Tryz.isAgg50 Tryz.sizeOf50 rfl rfl k22 rfl (TL.nil h_)) ?_
        refine Plan.v 5 [] (by kernel_rfl) (by kernel_rfl) (by kernel_rfl) (by kernel_rfl) rfl (fun _ _ h_ => R.neG (a := (yl1 : Int × Int)) (b := (y22 : Int × Int)) (eqT50 9998 yl1 y22) eqG50 rfl rfl rfl (TL.nil h_)) ?_
        refine Plan.done (Post.thnN ?_)
        refine T.condD rfl (fun c24 => ?_) (fun c24 => ?_)
        · refine T.set 24 (.bool true) (congrArg Value.bool (decide_eq_true c24)) ?_
          refine T.seq ?_
          refine T.region ?_
          refine R.asE rfl (by conv => lhs; whnf) ?_
          refine TL.nil (Post.thnN ?_)
          refine T.has Has.nil ?_
          refine T.ret (Post.blkR (Post.thnR (Post.thnR (Post.blkR (Post.thnR ?_)))))
          have hXl1 : windroseref20_sameHeld_l1 a1 a0 0 () = .ret false := by subst e22; rw [← hQl1, drop_cons hyl1, windroseref20_sameHeld_l1]; rw [if_pos c24]
          have hM : windroseref20_sameHeld_m a0 a1 = false := by rw [windroseref20_sameHeld_m, if_neg c11, hXl1, LR.on_ret]
          exact fin1L (v := .bool false) [] rfl rfl (List.Sublist.refl _) ⟨rfl, by first | rw [hM] | rfl⟩
        · refine T.set 24 (.bool false) (congrArg Value.bool (decide_eq_false c24)) ?_
          refine T.skip (Post.blkN ?_)
          refine id (Post.thnN ?_)
          refine T.region ?_
          refine R.addI rfl rfl rfl (by omega) ?_
          refine R.mvE rfl (by conv => lhs; whnf) ?_
          refine TL.nil (Post.thnN ?_)
          exact ⟨kl1 + 1, (s_l1.trans sb6_1), ⟨(by omega), Has.nil, (by subst e22; rw [← hQl1, drop_cons hyl1, windroseref20_sameHeld_l1]; rw [if_neg c24])⟩, by show a0.length - (kl1 + 1) < a0.length - kl1; omega, rfl, rfl, rfl, rfl, trivial⟩
      · refine T.exit (Post.thnE (Post.thnE (Post.blkX ?_)))
        have hEl1 : windroseref20_sameHeld_l1 a1 a0 0 () = .go () := (hQl1.symm.trans (by rw [show kl1 = a0.length by omega, List.drop_length, windroseref20_sameHeld_l1]))
        refine id (Post.thnN ?_)
        refine T.seq ?_
        refine T.region ?_
        refine R.asE rfl (by conv => lhs; whnf) ?_
        refine TL.nil (Post.thnN ?_)
        refine T.has Has.nil ?_
        refine T.ret ?_
        have hM : windroseref20_sameHeld_m a0 a1 = true := by rw [windroseref20_sameHeld_m, if_neg c11, hEl1, LR.on_go]
        exact fin1L (v := .bool true) [] rfl rfl (List.Sublist.refl _) ⟨rfl, by first | rw [hM] | rfl⟩

def windroseref20_Same_l1 (a1 : (List Int) × (List (Int × Int)) × (List (Int × Int))) : List Int → Nat → Unit → LR (Bool) (Unit)
  | [], kl1, sl1 => .go ()
  | yl1 :: ysl1, kl1, sl1 => if yl1 ≠ (a1.1.getD kl1 (0 : Int)) then (.ret false) else (windroseref20_Same_l1 a1 ysl1 (kl1 + 1) ())
def windroseref20_Same_m (a0 : (List Int) × (List (Int × Int)) × (List (Int × Int))) (a1 : (List Int) × (List (Int × Int)) × (List (Int × Int))) : Bool :=
  if (a0.1.length : Int) ≠ (a1.1.length : Int) then false else (LR.on (windroseref20_Same_l1 a1 a0.1 0 ()) (fun r => r) (fun ol1 => if (windroseref20_sameHeld_m a0.2.1 a1.2.1) = true then ((windroseref20_sameHeld_m a0.2.2 a1.2.2)) else false))
set_option maxHeartbeats 3200000 in
theorem windroseref20_Same_c (H : Heap) (a0 : (List Int) × (List (Int × Int)) × (List (Int × Int))) (va0_0 : Value) (ha0_0 : RdS (intE .i64) H va0_0 a0.1) (va0_1 : Value) (ha0_1 : RdS heldE H va0_1 a0.2.1) (va0_2 : Value) (ha0_2 : RdS heldE H va0_2 a0.2.2) (a1 : (List Int) × (List (Int × Int)) × (List (Int × Int))) (va1_0 : Value) (ha1_0 : RdS (intE .i64) H va1_0 a1.1) (va1_1 : Value) (ha1_1 : RdS heldE H va1_1 a1.2.1) (va1_2 : Value) (ha1_2 : RdS heldE H va1_2 a1.2.2) : Fv Tryz.prog (fnv 18) [.agg #[va0_0, va0_1, va0_2], .agg #[va1_0, va1_1, va1_2]] H (.bool (windroseref20_Same_m a0 a1)) := by
  refine Fc.of_body (N := 42) Tryz.func18 rfl (by kernel_rfl) rfl rfl ?_
  intro w0
  obtain ⟨Aa0_0, ca0_0, rfl, hca0_0, hda0_0, ha0_0⟩ := ha0_0.shape
  obtain ⟨Aa0_1, ca0_1, rfl, hca0_1, hda0_1, ha0_1⟩ := ha0_1.shape
  obtain ⟨Aa0_2, ca0_2, rfl, hca0_2, hda0_2, ha0_2⟩ := ha0_2.shape
  obtain ⟨Aa1_0, ca1_0, rfl, hca1_0, hda1_0, ha1_0⟩ := ha1_0.shape
  obtain ⟨Aa1_1, ca1_1, rfl, hca1_1, hda1_1, ha1_1⟩ := ha1_1.shape
  obtain ⟨Aa1_2, ca1_2, rfl, hca1_2, hda1_2, ha1_2⟩ := ha1_2.shape
  refine T.seq ?_
  refine T.region ?_
  refine R.box rfl (by conv => lhs; whnf) ?_
  intro b2
  refine R.box rfl (by conv => lhs; whnf) ?_
  intro b3
  refine R.asE rfl (by conv => lhs; whnf) ?_
  refine TL.shut .hd ?_
  intro Hb3_1 sb3_1 qb3_1
  have hb3_1 : Hb3_1 b3 = some (.cells #[.slice Aa1_0 a1.1.length ca1_0, .slice Aa1_1 a1.2.1.length ca1_1, .slice Aa1_2 a1.2.2.length ca1_2] 33) := shut1 qb3_1
  refine TL.shut .hd ?_
  intro Hb2_2 sb2_2 qb2_2
  have hb2_2 : Hb2_2 b2 = some (.cells #[.slice Aa0_0 a0.1.length ca0_0, .slice Aa0_1 a0.2.1.length ca0_1, .slice Aa0_2 a0.2.2.length ca0_2] 33) := shut1 qb2_2
  refine TL.nil (Post.thnN ?_)
  refine T.seq ?_
  refine T.seq ?_
  refine T.region ?_
  refine R.fldA Tryz.underlying33 rfl Tryz.sizeOf30 (by decide) rfl rfl ?_
  refine R.ldH Tryz.isAgg30 rfl rfl hb2_2 rfl ?_
  refine R.len Tryz.underlying30 rfl rfl ?_
  refine R.fldA Tryz.underlying33 rfl Tryz.sizeOf30 (by decide) rfl rfl ?_
  refine R.ldH Tryz.isAgg30 rfl rfl (sb2_2 _ _ hb3_1) rfl ?_
  refine R.len Tryz.underlying30 rfl rfl ?_
  refine R.neq rfl rfl rfl ?_
  refine TL.nil (Post.thnN ?_)
  refine T.condD rfl (fun c13 => ?_) (fun c13 => ?_)
  · refine T.set 13 (.bool true) (congrArg Value.bool (decide_eq_true c13)) ?_
    refine T.seq ?_
    refine T.region ?_
    refine R.asE rfl (by conv => lhs; whnf) ?_
    refine TL.nil (Post.thnN ?_)
    refine T.has Has.nil ?_
    refine T.ret (Post.thnR ?_)
    have hM : windroseref20_Same_m a0 a1 = false := by rw [windroseref20_Same_m, if_pos c13]
    exact fin1L (v := .bool false) [] rfl rfl (List.Sublist.refl _) ⟨rfl, by first | rw [hM] | rfl⟩
  · refine T.set 13 (.bool false) (congrArg Value.bool (decide_eq_false c13)) ?_
    refine T.skip (Post.thnN ?_)
    refine T.seq ?_
    refine T.seq ?_
    refine T.region ?_
    refine R.fldA Tryz.underlying33 rfl Tryz.sizeOf30 (by decide) rfl rfl ?_
    refine R.ldH Tryz.isAgg30 rfl rfl hb2_2 rfl ?_
    refine R.len Tryz.underlying30 rfl rfl ?_
    refine R.mvE rfl (by conv => lhs; whnf) ?_
    refine TL.nil (Post.thnN ?_)
    refine T.block ?_
    refine T.loop (ι := Nat) (fun kl1 H' L' ds' => kl1 ≤ a0.1.length ∧ Has L' [] ∧ windroseref20_Same_l1 a1 (a0.1.drop kl1) kl1 () = windroseref20_Same_l1 a1 a0.1 0 ()) (fun kl1 => [(17, .int .i64 (kl1 : Int)), (2, .pointer (some ⟨b2, 0, none⟩)), (3, .pointer (some ⟨b3, 0, none⟩)), (15, .slice Aa0_0 a0.1.length ca0_0), (16, .int .i64 (a0.1.length : Int))]) (fun kl1 => a0.1.length - kl1) 0 ?_ ?_ ?_
    · exact ⟨(by omega), Has.nil, (by rfl)⟩
    · exact ⟨rfl, rfl, rfl, rfl, rfl, trivial⟩
    · intro kl1 σ_l1 H_l1 L_l1 ds_l1 s_l1 hI_l1
      obtain ⟨hkl1, hI_l1⟩ := hI_l1
      obtain ⟨hLl1, hQl1⟩ := hI_l1
      refine T.has hLl1 ?_
      refine T.seq ?_
      refine T.region ?_
      refine R.lss rfl rfl rfl ?_
      refine TL.nil (Post.thnN ?_)
      refine T.seq ?_
      refine T.condD rfl (fun c18 => ?_) (fun c18 => ?_)
      · have hltl1 : kl1 < a0.1.length := by omega
        obtain ⟨yl1, hyl1⟩ := getk (xs := a0.1) (k := kl1) (by omega)
        refine T.skip (Post.thnN ?_)
        refine T.seq ?_
        refine T.block ?_
        refine T.seq ?_
        refine T.region ?_
        refine R.mvE rfl (by conv => lhs; whnf) ?_
        obtain ⟨b20, o20, i20, k20⟩ := RdS.elem (ha0_0.mono (sb3_1.trans (sb2_2.trans s_l1))) hyl1
        obtain ⟨l20, g20, k20⟩ := k20
        obtain rfl : l20 = [.int .i64 yl1] := g20
        refine R.ixp Tryz.underlying30 Tryz.sizeOf3 rfl rfl rfl (by omega) i20 ?_
        refine R.ldC Tryz.isAgg3 rfl rfl (k20 0 _ rfl) ?_
        refine R.asE rfl (by conv => lhs; whnf) ?_
        refine R.asE rfl (by conv => lhs; whnf) ?_
        refine TL.nil (Post.thnN ?_)
        refine T.seq ?_
        refine T.region ?_
        refine R.mvE rfl (by conv => lhs; whnf) ?_
        refine R.fldA Tryz.underlying33 rfl Tryz.sizeOf30 (by decide) rfl rfl ?_
        refine R.ldH Tryz.isAgg30 rfl rfl ((sb2_2.trans s_l1) _ _ hb3_1) rfl ?_
        refine R.mvE rfl (by conv => lhs; whnf) ?_
        have hl26 : kl1 < a1.1.length := by first | omega | (simp; done) | (simp; omega) | (simp at *; omega)
        obtain ⟨y26, e26, h26⟩ : ∃ y, y = (a1.1.getD kl1 (0 : Int)) ∧ a1.1[kl1]? = some y := ⟨_, rfl, getD_get (by first | exact hl26 | simpa using hl26 | (rw [(sortI_perm _).length_eq]; exact hl26))⟩
        obtain ⟨b26, o26, i26, k26⟩ := RdS.elem (ha1_0.mono (sb3_1.trans (sb2_2.trans s_l1))) h26
        obtain ⟨l26, g26, k26⟩ := k26
        obtain rfl : l26 = [.int .i64 y26] := g26
        refine R.ixp Tryz.underlying30 Tryz.sizeOf3 rfl rfl rfl (by first | omega | (simp; done) | (simp; omega) | (simp at *; omega)) i26 ?_
        refine R.ldC Tryz.isAgg3 rfl rfl (k26 0 _ rfl) ?_
        refine R.neq rfl rfl rfl ?_
        refine TL.nil (Post.thnN ?_)
        refine T.condD rfl (fun c28 => ?_) (fun c28 => ?_)
        · refine T.set 28 (.bool true) (congrArg Value.bool (decide_eq_true c28)) ?_
          refine T.seq ?_
          refine T.region ?_
          refine R.asE rfl (by conv => lhs; whnf) ?_
          refine TL.nil (Post.thnN ?_)
          refine T.has Has.nil ?_
          refine T.ret (Post.blkR (Post.thnR (Post.thnR (Post.blkR (Post.thnR ?_)))))
          have hXl1 : windroseref20_Same_l1 a1 a0.1 0 () = .ret false := by subst e26; rw [← hQl1, drop_cons hyl1, windroseref20_Same_l1]; rw [if_pos c28]
          have hM : windroseref20_Same_m a0 a1 = false := by rw [windroseref20_Same_m, if_neg c13, hXl1, LR.on_ret]
          exact fin1L (v := .bool false) [] rfl rfl (List.Sublist.refl _) ⟨rfl, by first | rw [hM] | rfl⟩
        · refine T.set 28 (.bool false) (congrArg Value.bool (decide_eq_false c28)) ?_
          refine T.skip (Post.blkN ?_)
          refine id (Post.thnN ?_)
          refine T.region ?_
          refine R.addI rfl rfl rfl (by omega) ?_
          refine R.mvE rfl (by conv => lhs; whnf) ?_
          refine TL.nil (Post.thnN ?_)
          exact ⟨kl1 + 1, s_l1, ⟨(by omega), Has.nil, (by subst e26; rw [← hQl1, drop_cons hyl1, windroseref20_Same_l1]; rw [if_neg c28])⟩, by show a0.1.length - (kl1 + 1) < a0.1.length - kl1; omega, rfl, rfl, rfl, rfl, rfl, trivial⟩
      · refine T.exit (Post.thnE (Post.thnE (Post.blkX ?_)))
        have hEl1 : windroseref20_Same_l1 a1 a0.1 0 () = .go () := (hQl1.symm.trans (by rw [show kl1 = a0.1.length by omega, List.drop_length, windroseref20_Same_l1]))
        refine id (Post.thnN ?_)
        refine T.seq ?_
        refine T.region ?_
        refine R.fldA Tryz.underlying33 rfl Tryz.sizeOf23 (by decide) rfl rfl ?_
        refine R.ldH Tryz.isAgg23 rfl rfl (s_l1 _ _ hb2_2) rfl ?_
        refine R.fldA Tryz.underlying33 rfl Tryz.sizeOf23 (by decide) rfl rfl ?_
        refine R.ldH Tryz.isAgg23 rfl rfl ((sb2_2.trans s_l1) _ _ hb3_1) rfl ?_
        refine R.callv rfl rfl rfl (windroseref20_sameHeld_c _ _ a0.2.1 (ha0_1.mono (sb3_1.trans (sb2_2.trans s_l1))) _ a1.2.1 (ha1_1.mono (sb3_1.trans (sb2_2.trans s_l1)))) ?_
        refine R.mvE rfl (by conv => lhs; whnf) ?_
        refine TL.gsplit 35 rfl (fun g35 => ?_) (fun g35 => ?_)
        · refine R.fldA Tryz.underlying33 rfl Tryz.sizeOf23 (by decide) rfl rfl ?_
          refine R.ldH Tryz.isAgg23 rfl rfl (s_l1 _ _ hb2_2) rfl ?_
          refine R.fldA Tryz.underlying33 rfl Tryz.sizeOf23 (by decide) rfl rfl ?_
          refine R.ldH Tryz.isAgg23 rfl rfl ((sb2_2.trans s_l1) _ _ hb3_1) rfl ?_
          refine R.callv rfl rfl rfl (windroseref20_sameHeld_c _ _ a0.2.2 (ha0_2.mono (sb3_1.trans (sb2_2.trans s_l1))) _ a1.2.2 (ha1_2.mono (sb3_1.trans (sb2_2.trans s_l1)))) ?_
          refine R.pkTE rfl rfl (by conv => lhs; whnf) ?_
          refine R.asE rfl (by conv => lhs; whnf) ?_
          refine TL.nil (Post.thnN ?_)
          refine T.has Has.nil ?_
          refine T.ret ?_
          have hM : windroseref20_Same_m a0 a1 = (windroseref20_sameHeld_m a0.2.2 a1.2.2) := by rw [windroseref20_Same_m, if_neg c13, hEl1, LR.on_go, if_t g35]
          exact fin1L (v := .bool ((windroseref20_sameHeld_m a0.2.2 a1.2.2))) [] rfl rfl (List.Sublist.refl _) ⟨rfl, by first | rw [hM] | rfl⟩
        · refine TL.off rfl rfl rfl ?_
          refine TL.off rfl rfl rfl ?_
          refine TL.off rfl rfl rfl ?_
          refine TL.off rfl rfl rfl ?_
          refine TL.off rfl rfl rfl ?_
          refine R.pkFE rfl rfl (by conv => lhs; whnf) ?_
          refine R.asE rfl (by conv => lhs; whnf) ?_
          refine TL.nil (Post.thnN ?_)
          refine T.has Has.nil ?_
          refine T.ret ?_
          have hM : windroseref20_Same_m a0 a1 = false := by rw [windroseref20_Same_m, if_neg c13, hEl1, LR.on_go, if_f g35]
          exact fin1L (v := .bool false) [] rfl rfl (List.Sublist.refl _) ⟨rfl, by first | rw [hM] | rfl⟩

end Go.SX

set_option linter.unusedVariables false
set_option linter.unusedSimpArgs false
namespace Go.SX
open Go Go.Proofs

def windroseref20_Dies_l3 (a0 : List (Int × (Bool × Bool × Int × Int × Int))) : List (Int × Int) → ((List Int)) → (List Int)
  | [], sl3 => sl3
  | yl3 :: ysl3, sl3 => if (windroseref20_deletes_m a0 yl3 sl3) = true then (LR.seq (windroseref20_put_m sl3 yl3.1) (fun r39 => windroseref20_Dies_l3 a0 ysl3 r39)) else (windroseref20_Dies_l3 a0 ysl3 sl3)
def windroseref20_Dies_l2 (a0 : List (Int × (Bool × Bool × Int × Int × Int))) (a1 : List (Int × Int)) : Nat → Nat → ((List Int)) → (List Int)
  | 0, kl2, sl2 => sl2
  | ml2 + 1, kl2, sl2 => LR.seq (windroseref20_Dies_l3 a0 a1 sl2) (fun ol3 => windroseref20_Dies_l2 a0 a1 ml2 (kl2 + 1) ol3)
def windroseref20_Dies_l1  : List Int → ((List Int)) → (List Int)
  | [], sl1 => sl1
  | yl1 :: ysl1, sl1 => LR.seq (windroseref20_put_m sl1 yl1) (fun r20 => windroseref20_Dies_l1 ysl1 r20)
def windroseref20_Dies_m (a0 : List (Int × (Bool × Bool × Int × Int × Int))) (a1 : List (Int × Int)) (a2 : List Int) : (List Int) :=
  LR.seq (windroseref20_Dies_l1 a2 []) (fun ol1 => LR.seq (windroseref20_Dies_l2 a0 a1 (a1.length - 0) 0 ol1) (fun ol2 => ol2))
set_option maxHeartbeats 3200000 in
theorem windroseref20_Dies_c (H : Heap) (va0 : Value) (a0 : List (Int × (Bool × Bool × Int × Int × Int))) (ha0 : RdS relationE H va0 a0) (va1 : Value) (a1 : List (Int × Int)) (ha1 : RdS heldE H va1 a1) (va2 : Value) (a2 : List Int) (ha2 : RdS (intE .i64) H va2 a2) (hl : a1.length ≤ 100) (hf : a2.length ≤ 100) : Fp Tryz.prog (fnv 50) [va0, va1, va2] H (fun v' H' => ∃ u0_0, v' = u0_0 ∧ RdS (intE .i64) H' u0_0 (windroseref20_Dies_m a0 a1 a2)) := by
  refine Fc.of_body (N := 43) Tryz.func50 rfl (by kernel_rfl) rfl rfl ?_
  intro w0
  obtain ⟨Aa0, ca0, rfl, hca0, hda0, ha0⟩ := ha0.shape
  obtain ⟨Aa1, ca1, rfl, hca1, hda1, ha1⟩ := ha1.shape
  obtain ⟨Aa2, ca2, rfl, hca2, hda2, ha2⟩ := ha2.shape
  refine T.seq ?_
  refine T.region ?_
  refine R.asE rfl (by conv => lhs; whnf) ?_
  refine TL.nil (Post.thnN ?_)
  refine T.seq ?_
  refine T.region ?_
  refine R.asE rfl (by conv => lhs; whnf) ?_
  refine TL.nil (Post.thnN ?_)
  refine T.seq ?_
  refine T.seq ?_
  refine T.region ?_
  refine R.mvE rfl (by conv => lhs; whnf) ?_
  refine R.len Tryz.underlying30 rfl rfl ?_
  refine R.mvE rfl (by conv => lhs; whnf) ?_
  refine TL.nil (Post.thnN ?_)
  refine T.block ?_
  refine T.loop (ι := Nat × Value × (List Int)) (fun ⟨kl1, v7l1, x7l1⟩ H' L' ds' => kl1 ≤ a2.length ∧ Has L' [] ∧ RdS (intE .i64) H' v7l1 x7l1 ∧ Rg (a2 ++ a1.map Prod.fst) x7l1 ∧ windroseref20_Dies_l1 (a2.drop kl1) x7l1 = windroseref20_Dies_l1 a2 []) (fun ⟨kl1, v7l1, x7l1⟩ => [(14, .int .i64 (kl1 : Int)), (0, .slice Aa0 a0.length ca0), (1, .slice Aa1 a1.length ca1), (7, v7l1), (12, .slice Aa2 a2.length ca2), (13, .int .i64 (a2.length : Int))]) (fun ⟨kl1, v7l1, x7l1⟩ => a2.length - kl1) (0, .slice none 0 0, []) ?_ ?_ ?_
  · exact ⟨(by omega), Has.nil, RdS.nil, (by exact Rg.nil _), (by rfl)⟩
  · exact ⟨rfl, rfl, rfl, rfl, rfl, rfl, trivial⟩
  · intro ⟨kl1, v7l1, x7l1⟩ σ_l1 H_l1 L_l1 ds_l1 s_l1 hI_l1
    obtain ⟨hkl1, hI_l1⟩ := hI_l1
    obtain ⟨hLl1, w7l1, hBl1_0, hQl1⟩ := hI_l1
    obtain ⟨A7l1, p7l1, rfl, m7l1, n7l1_, w7l1⟩ := RdS.shape w7l1
    refine T.has hLl1 ?_
    refine T.seq ?_
    refine T.region ?_
    refine R.lss rfl rfl rfl ?_
    refine TL.nil (Post.thnN ?_)
    refine T.seq ?_
    refine T.condD rfl (fun c15 => ?_) (fun c15 => ?_)
    · have hltl1 : kl1 < a2.length := by omega
      obtain ⟨yl1, hyl1⟩ := getk (xs := a2) (k := kl1) (by omega)
      have hg1 := hBl1_0.len
      simp only [List.length_append, List.length_map] at hg1
      refine T.skip (Post.thnN ?_)
      refine T.seq ?_
      refine T.block ?_
      refine T.seq ?_
      refine T.region ?_
      obtain ⟨b16, o16, i16, k16⟩ := RdS.elem (ha2.mono s_l1) hyl1
      obtain ⟨l16, g16, k16⟩ := k16
      obtain rfl : l16 = [.int .i64 yl1] := g16
      refine R.ixp Tryz.underlying30 Tryz.sizeOf3 rfl rfl rfl (by omega) i16 ?_
      refine R.ldC Tryz.isAgg3 rfl rfl (k16 0 _ rfl) ?_
      refine R.asE rfl (by conv => lhs; whnf) ?_
      refine TL.nil (Post.thnN ?_)
      refine T.region ?_
      refine R.mvE rfl (by conv => lhs; whnf) ?_
      refine R.mvE rfl (by conv => lhs; whnf) ?_
      obtain ⟨r20, er20⟩ : ∃ r, r = (windroseref20_put_m x7l1 yl1) := ⟨_, rfl⟩
      refine TL.call [] rfl rfl rfl (windroseref20_put_c _ _ x7l1 w7l1 (yl1) (by first | omega | (simp; done) | (simp; omega) | (simp at *; omega))) ?_
      intro v20 H20 L20 s20 q20
      rw [← er20] at q20
      obtain ⟨u20_0_0, c20_0_0, rfl, rfl, w20_0_0⟩ := q20
      obtain ⟨A20_0_0, p20_0_0, rfl, m20_0_0, n20_0_0⟩ := OwnS.shape w20_0_0
      have tp20 : r20 = putI _ _ := er20.trans (put20_eq _ _)
      have hD20 : Rg (a2 ++ a1.map Prod.fst) r20 := by rw [tp20]; exact hBl1_0.put (List.mem_append_left _ (List.mem_of_getElem? hyl1))
      refine TL.shut .hd ?_
      intro HF20_0_0_1 sF20_0_0_1 qF20_0_0_1
      have fF20_0_0_1 := OwnS.read w20_0_0 sF20_0_0_1 qF20_0_0_1
      refine R.asE rfl (by conv => lhs; whnf) ?_
      refine TL.nil (Post.blkN ?_)
      refine id (Post.thnN ?_)
      refine T.region ?_
      refine R.addI rfl rfl rfl (by omega) ?_
      refine R.mvE rfl (by conv => lhs; whnf) ?_
      refine TL.nil (Post.thnN ?_)
      exact ⟨(kl1 + 1, .slice A20_0_0 r20.length p20_0_0, r20), (s_l1.trans (s20.trans sF20_0_0_1)), ⟨(by omega), Has.nil, fF20_0_0_1, (by exact hD20), (by subst er20; rw [← hQl1, drop_cons hyl1, windroseref20_Dies_l1]; rw [LR.seq_go])⟩, by show a2.length - (kl1 + 1) < a2.length - kl1; omega, rfl, rfl, rfl, rfl, rfl, rfl, trivial⟩
    · refine T.exit (Post.thnE (Post.thnE (Post.blkX ?_)))
      have hEl1 : windroseref20_Dies_l1 a2 [] = x7l1 := (hQl1.symm.trans (by rw [show kl1 = a2.length by omega, List.drop_length, windroseref20_Dies_l1]))
      refine id (Post.thnN ?_)
      refine T.seq ?_
      refine T.seq ?_
      refine T.region ?_
      refine R.mvE rfl (by conv => lhs; whnf) ?_
      refine R.len Tryz.underlying23 rfl rfl ?_
      refine R.mvE rfl (by conv => lhs; whnf) ?_
      refine TL.nil (Post.thnN ?_)
      refine T.block ?_
      refine T.loop (ι := Nat × Value × (List Int)) (fun ⟨kl2, v7l2, x7l2⟩ H' L' ds' => kl2 ≤ a1.length ∧ Has L' [] ∧ RdS (intE .i64) H' v7l2 x7l2 ∧ Rg (a2 ++ a1.map Prod.fst) x7l2 ∧ windroseref20_Dies_l2 a0 a1 (a1.length - kl2) kl2 x7l2 = windroseref20_Dies_l2 a0 a1 (a1.length - 0) 0 x7l1) (fun ⟨kl2, v7l2, x7l2⟩ => [(24, .int .i64 (kl2 : Int)), (0, .slice Aa0 a0.length ca0), (1, .slice Aa1 a1.length ca1), (7, v7l2), (23, .int .i64 (a1.length : Int))]) (fun ⟨kl2, v7l2, x7l2⟩ => a1.length - kl2) (0, .slice A7l1 x7l1.length p7l1, x7l1) ?_ ?_ ?_
      · exact ⟨(by omega), Has.nil, w7l1, (by exact hBl1_0), (by rfl)⟩
      · exact ⟨rfl, rfl, rfl, rfl, rfl, trivial⟩
      · intro ⟨kl2, v7l2, x7l2⟩ σ_l2 H_l2 L_l2 ds_l2 s_l2 hI_l2
        obtain ⟨hkl2, hI_l2⟩ := hI_l2
        obtain ⟨hLl2, w7l2, hBl2_0, hQl2⟩ := hI_l2
        obtain ⟨A7l2, p7l2, rfl, m7l2, n7l2_, w7l2⟩ := RdS.shape w7l2
        refine T.has hLl2 ?_
        refine T.seq ?_
        refine T.region ?_
        refine R.lss rfl rfl rfl ?_
        refine TL.nil (Post.thnN ?_)
        refine T.seq ?_
        refine T.condD rfl (fun c25 => ?_) (fun c25 => ?_)
        · have hltl2 : kl2 < a1.length := by omega
          refine T.skip (Post.thnN ?_)
          refine T.seq ?_
          refine T.block ?_
          refine T.seq ?_
          refine T.region ?_
          refine R.mvE rfl (by conv => lhs; whnf) ?_
          refine R.len Tryz.underlying23 rfl rfl ?_
          refine R.mvE rfl (by conv => lhs; whnf) ?_
          refine TL.nil (Post.thnN ?_)
          refine T.block ?_
          refine T.loop (ι := Nat × Value × (List Int)) (fun ⟨kl3, v7l3, x7l3⟩ H' L' ds' => kl3 ≤ a1.length ∧ Has L' [] ∧ RdS (intE .i64) H' v7l3 x7l3 ∧ Rg (a2 ++ a1.map Prod.fst) x7l3 ∧ windroseref20_Dies_l3 a0 (a1.drop kl3) x7l3 = windroseref20_Dies_l3 a0 a1 x7l2) (fun ⟨kl3, v7l3, x7l3⟩ => [(28, .int .i64 (kl3 : Int)), (0, .slice Aa0 a0.length ca0), (1, .slice Aa1 a1.length ca1), (7, v7l3), (23, .int .i64 (a1.length : Int)), (24, .int .i64 (kl2 : Int)), (26, .slice Aa1 a1.length ca1), (27, .int .i64 (a1.length : Int))]) (fun ⟨kl3, v7l3, x7l3⟩ => a1.length - kl3) (0, .slice A7l2 x7l2.length p7l2, x7l2) ?_ ?_ ?_
          · exact ⟨(by omega), Has.nil, w7l2, (by exact hBl2_0), (by rfl)⟩
          · exact ⟨rfl, rfl, rfl, rfl, rfl, rfl, rfl, rfl, trivial⟩
          · intro ⟨kl3, v7l3, x7l3⟩ σ_l3 H_l3 L_l3 ds_l3 s_l3 hI_l3
            obtain ⟨hkl3, hI_l3⟩ := hI_l3
            obtain ⟨hLl3, w7l3, hBl3_0, hQl3⟩ := hI_l3
            obtain ⟨A7l3, p7l3, rfl, m7l3, n7l3_, w7l3⟩ := RdS.shape w7l3
            refine T.has hLl3 ?_
            refine T.seq ?_
            refine T.region ?_
            refine R.lss rfl rfl rfl ?_
            refine TL.nil (Post.thnN ?_)
            refine T.seq ?_
            refine T.condD rfl (fun c29 => ?_) (fun c29 => ?_)
            · have hltl3 : kl3 < a1.length := by omega
              obtain ⟨yl3, hyl3⟩ := getk (xs := a1) (k := kl3) (by omega)
              have hg3 := hBl3_0.len
              simp only [List.length_append, List.length_map] at hg3
              refine T.skip (Post.thnN ?_)
              refine T.seq ?_
              refine T.block ?_
              refine T.seq ?_
              refine T.region ?_
              obtain ⟨b30, o30, i30, k30⟩ := RdS.elem (ha1.mono (s_l1.trans (s_l2.trans s_l3))) hyl3
              obtain ⟨l30, g30, k30⟩ := k30
              obtain rfl : l30 = [.int .i64 (yl3.1), .int .u64 (yl3.2)] := g30
              refine R.ixp Tryz.underlying23 Tryz.sizeOf50 rfl rfl rfl (by omega) i30 ?_
              refine R.ldK (l := [.int .i64 (yl3.1), .int .u64 (yl3.2)]) Tryz.isAgg50 Tryz.sizeOf50 rfl rfl k30 rfl ?_
              refine R.alloc Tryz.zeroValue50 rfl ?_
              intro b11
              refine R.stX (old := [.int .i64 0, .int .u64 0]) (l := [.int .i64 (yl3.1), .int .u64 (yl3.2)]) (new := [.int .i64 (yl3.1), .int .u64 (yl3.2)]) (et := 50) Tryz.sizeOf50 rfl rfl rfl rfl rfl (by show 0 + 2 ≤ 2; decide) rfl (all_one rfl) .hd ?_
              refine TL.shut .hd ?_
              intro Hb11_2 sb11_2 qb11_2
              have hb11_2 : Hb11_2 b11 = some (.cells #[.int .i64 (yl3.1), .int .u64 (yl3.2)] 50) := shut1 qb11_2
              refine TL.nil (Post.thnN ?_)
              refine T.seq ?_
              refine T.region ?_
              refine R.mvE rfl (by conv => lhs; whnf) ?_
              refine R.ldXH (cs := [.int .i64 (yl3.1), .int .u64 (yl3.2)]) (l := [.int .i64 (yl3.1), .int .u64 (yl3.2)]) Tryz.isAgg50 Tryz.sizeOf50 rfl rfl hb11_2 rfl rfl ?_
              refine R.mvE rfl (by conv => lhs; whnf) ?_
              refine R.callv rfl rfl rfl (windroseref20_deletes_c _ _ a0 (ha0.mono (s_l1.trans (s_l2.trans (s_l3.trans sb11_2)))) yl3 _ x7l3 (w7l3.mono sb11_2)) ?_
              refine TL.nil (Post.thnN ?_)
              refine T.cond rfl (fun c35 => ?_) (fun c35 => ?_)
              · refine T.set 35 (.bool true) (congrArg Value.bool c35) ?_
                refine T.region ?_
                refine R.mvE rfl (by conv => lhs; whnf) ?_
                refine R.fldA Tryz.underlying50 rfl Tryz.sizeOf3 (by decide) rfl rfl ?_
                refine R.ldH Tryz.isAgg3 rfl rfl hb11_2 rfl ?_
                obtain ⟨r39, er39⟩ : ∃ r, r = (windroseref20_put_m x7l3 yl3.1) := ⟨_, rfl⟩
                refine TL.call [] rfl rfl rfl (windroseref20_put_c _ _ x7l3 (w7l3.mono sb11_2) (yl3.1) (by first | omega | (simp; done) | (simp; omega) | (simp at *; omega))) ?_
                intro v39 H39 L39 s39 q39
                rw [← er39] at q39
                obtain ⟨u39_0_0, c39_0_0, rfl, rfl, w39_0_0⟩ := q39
                obtain ⟨A39_0_0, p39_0_0, rfl, m39_0_0, n39_0_0⟩ := OwnS.shape w39_0_0
                have tp39 : r39 = putI _ _ := er39.trans (put20_eq _ _)
                have hD39 : Rg (a2 ++ a1.map Prod.fst) r39 := by rw [tp39]; exact hBl3_0.put (List.mem_append_right _ (List.mem_map_of_mem (List.mem_of_getElem? hyl3)))
                refine TL.shut .hd ?_
                intro HF39_0_0_3 sF39_0_0_3 qF39_0_0_3
                have fF39_0_0_3 := OwnS.read w39_0_0 sF39_0_0_3 qF39_0_0_3
                refine R.asE rfl (by conv => lhs; whnf) ?_
                refine TL.nil (Post.blkN ?_)
                refine id (Post.thnN ?_)
                refine T.region ?_
                refine R.addI rfl rfl rfl (by omega) ?_
                refine R.mvE rfl (by conv => lhs; whnf) ?_
                refine TL.nil (Post.thnN ?_)
                exact ⟨(kl3 + 1, .slice A39_0_0 r39.length p39_0_0, r39), (s_l3.trans (sb11_2.trans (s39.trans sF39_0_0_3))), ⟨(by omega), Has.nil, fF39_0_0_3, (by first | exact hBc2_0 | exact hD39 | exact hBl3_0), (by subst er39; rw [← hQl3, drop_cons hyl3, windroseref20_Dies_l3]; rw [if_t c35, LR.seq_go])⟩, by show a1.length - (kl3 + 1) < a1.length - kl3; omega, rfl, rfl, rfl, rfl, rfl, rfl, rfl, rfl, trivial⟩
              · refine T.set 35 (.bool false) (congrArg Value.bool c35) ?_
                refine T.skip (Post.blkN ?_)
                refine id (Post.thnN ?_)
                refine T.region ?_
                refine R.addI rfl rfl rfl (by omega) ?_
                refine R.mvE rfl (by conv => lhs; whnf) ?_
                refine TL.nil (Post.thnN ?_)
                exact ⟨(kl3 + 1, .slice A7l3 x7l3.length p7l3, x7l3), (s_l3.trans sb11_2), ⟨(by omega), Has.nil, (w7l3.mono sb11_2), (by first | exact hBc2_0 | exact hD39 | exact hBl3_0), (by rw [← hQl3, drop_cons hyl3, windroseref20_Dies_l3]; rw [if_f c35])⟩, by show a1.length - (kl3 + 1) < a1.length - kl3; omega, rfl, rfl, rfl, rfl, rfl, rfl, rfl, rfl, trivial⟩
            · refine T.exit (Post.thnE (Post.thnE (Post.blkX ?_)))
              have hEl3 : windroseref20_Dies_l3 a0 a1 x7l2 = x7l3 := (hQl3.symm.trans (by rw [show kl3 = a1.length by omega, List.drop_length, windroseref20_Dies_l3]))
              refine id (Post.blkN ?_)
              refine id (Post.thnN ?_)
              refine T.region ?_
              refine R.addI rfl rfl rfl (by omega) ?_
              refine R.mvE rfl (by conv => lhs; whnf) ?_
              refine TL.nil (Post.thnN ?_)
              exact ⟨(kl2 + 1, .slice A7l3 x7l3.length p7l3, x7l3), (s_l2.trans s_l3), ⟨(by omega), Has.nil, w7l3, (by exact hBl3_0), (by rw [← hQl2, show a1.length - kl2 = (a1.length - (kl2 + 1)) + 1 by omega, windroseref20_Dies_l2]; rw [hEl3, LR.seq_go])⟩, by show a1.length - (kl2 + 1) < a1.length - kl2; omega, rfl, rfl, rfl, rfl, rfl, trivial⟩
        · refine T.exit (Post.thnE (Post.thnE (Post.blkX ?_)))
          have hEl2 : windroseref20_Dies_l2 a0 a1 (a1.length - 0) 0 x7l1 = x7l2 := (hQl2.symm.trans (by rw [show kl2 = a1.length by omega, Nat.sub_self, windroseref20_Dies_l2]))
          refine id (Post.thnN ?_)
          refine T.seq ?_
          refine T.region ?_
          refine R.mvE rfl (by conv => lhs; whnf) ?_
          refine R.asE rfl (by conv => lhs; whnf) ?_
          refine TL.nil (Post.thnN ?_)
          refine T.has Has.nil ?_
          refine T.ret ?_
          have hM : windroseref20_Dies_m a0 a1 a2 = x7l2 := by rw [windroseref20_Dies_m, hEl1, LR.seq_go, hEl2, LR.seq_go]
          exact fin1L (v := .slice A7l2 x7l2.length p7l2) [] rfl rfl (List.Sublist.refl _) ⟨rfl, .slice A7l2 x7l2.length p7l2, by first | rw [hM] | rfl, by rw [hM]; exact w7l2⟩

end Go.SX

set_option linter.unusedVariables false
set_option linter.unusedSimpArgs false
namespace Go.SX
open Go Go.Proofs

def windroseref20_Of_l1 (a0 : List (Int × (Bool × Bool × Int × Int × Int))) : List (Int × Int) → ((List Int) × (List (Int × Int)) × (List (Int × Int))) → (List Int) × (List (Int × Int)) × (List (Int × Int))
  | [], sl1 => (sl1.1, sl1.2.1, sl1.2.2)
  | yl1 :: ysl1, sl1 => LR.seq (if (windroseref20_has_m sl1.1 yl1.1) = true then true else ((!(windroseref20_touched_m a0 yl1 sl1.1))) : Bool) (fun sc2 => if sc2 = true then (windroseref20_Of_l1 a0 ysl1 ((sl1.1, sl1.2.1, sl1.2.2))) else (if (windroseref20_refuses_m a0 yl1 sl1.1) = true then (windroseref20_Of_l1 a0 ysl1 ((sl1.1, (sl1.2.1 ++ [yl1]), (sl1.2.2 ++ [yl1])))) else (windroseref20_Of_l1 a0 ysl1 ((sl1.1, (sl1.2.1 ++ [yl1]), sl1.2.2)))))
def windroseref20_Of_m (a0 : List (Int × (Bool × Bool × Int × Int × Int))) (a1 : List (Int × Int)) (a2 : List Int) : ((List Int) × (List (Int × Int)) × (List (Int × Int))) :=
  LR.seq (windroseref20_Dies_m a0 a1 a2) (fun r13 => LR.seq (windroseref20_Of_l1 a0 a1 ((r13, [], []))) (fun ol1 => (ol1.1, ol1.2.1, ol1.2.2)))
set_option maxHeartbeats 3200000 in
theorem windroseref20_Of_c (H : Heap) (va0 : Value) (a0 : List (Int × (Bool × Bool × Int × Int × Int))) (ha0 : RdS relationE H va0 a0) (va1 : Value) (a1 : List (Int × Int)) (ha1 : RdS heldE H va1 a1) (va2 : Value) (a2 : List Int) (ha2 : RdS (intE .i64) H va2 a2) (hl : a1.length ≤ 100) (hf : a2.length ≤ 100) : Fc Tryz.prog (fnv 16) [va0, va1, va2] H [] (fun v' H' L' => ∃ u0_0 u0_1 u0_2 c0_1 c0_2, v' = .agg #[u0_0, u0_1, u0_2] ∧ L' = [c0_1, c0_2] ∧ RdS (intE .i64) H' u0_0 (windroseref20_Of_m a0 a1 a2).1 ∧ OwnS heldE 50 H' u0_1 (windroseref20_Of_m a0 a1 a2).2.1 c0_1 ∧ OwnS heldE 50 H' u0_2 (windroseref20_Of_m a0 a1 a2).2.2 c0_2) := by
  refine Fc.of_body (N := 53) Tryz.func16 rfl (by kernel_rfl) rfl rfl ?_
  intro w0
  obtain ⟨Aa0, ca0, rfl, hca0, hda0, ha0⟩ := ha0.shape
  obtain ⟨Aa1, ca1, rfl, hca1, hda1, ha1⟩ := ha1.shape
  obtain ⟨Aa2, ca2, rfl, hca2, hda2, ha2⟩ := ha2.shape
  refine T.seq ?_
  refine T.region ?_
  refine R.alloc Tryz.zeroValue33 rfl ?_
  intro b6
  refine TL.nil (Post.thnN ?_)
  refine T.seq ?_
  refine T.region ?_
  refine R.mvE rfl (by conv => lhs; whnf) ?_
  refine R.mvE rfl (by conv => lhs; whnf) ?_
  refine R.mvE rfl (by conv => lhs; whnf) ?_
  obtain ⟨r13, er13⟩ : ∃ r, r = (windroseref20_Dies_m a0 a1 a2) := ⟨_, rfl⟩
  refine R.callp rfl rfl rfl (windroseref20_Dies_c _ _ a0 ha0 _ a1 ha1 _ a2 ha2 (by first | omega | (simp; done) | (simp; omega) | (simp at *; omega)) (by first | omega | (simp; done) | (simp; omega) | (simp at *; omega))) ?_
  intro v13 H13 s13 q13
  rw [← er13] at q13
  obtain ⟨u13_0_0, rfl, w13_0_0⟩ := q13
  obtain ⟨A13_0_0, p13_0_0, rfl, m13_0_0, n13_0_0, w13_0_0⟩ := RdS.shape w13_0_0
  refine R.bld (cs := [.slice A13_0_0 r13.length p13_0_0, .slice none 0 0, .slice none 0 0]) rfl (fun _ => by kernel_rfl) ?_
  refine R.alloc Tryz.zeroValue33 rfl ?_
  intro b7
  refine R.stX (old := [.slice none 0 0, .slice none 0 0, .slice none 0 0]) (l := [.slice A13_0_0 r13.length p13_0_0, .slice none 0 0, .slice none 0 0]) (new := [.slice A13_0_0 r13.length p13_0_0, .slice none 0 0, .slice none 0 0]) (et := 33) Tryz.sizeOf33 rfl rfl rfl rfl rfl (by show 0 + 3 ≤ 3; decide) rfl (all_one rfl) .hd ?_
  refine TL.nil (Post.thnN ?_)
  refine T.seq ?_
  refine T.seq ?_
  refine T.region ?_
  refine R.mvE rfl (by conv => lhs; whnf) ?_
  refine R.len Tryz.underlying23 rfl rfl ?_
  refine R.mvE rfl (by conv => lhs; whnf) ?_
  refine TL.nil (Post.thnN ?_)
  refine T.block ?_
  refine T.loop (ι := Nat × Value × (List Int) × Value × (List (Int × Int)) × Chunk × Value × (List (Int × Int)) × Chunk) (fun ⟨kl1, vb7l1_0, xb7l1_0, vb7l1_1, xb7l1_1, cb7l1_1, vb7l1_2, xb7l1_2, cb7l1_2⟩ H' L' ds' => kl1 ≤ a1.length ∧ Has L' [[(b7, .cells #[vb7l1_0, vb7l1_1, vb7l1_2] 33)], [(b6, .cells #[.slice none 0 0, .slice none 0 0, .slice none 0 0] 33)], cb7l1_1, cb7l1_2] ∧ RdS (intE .i64) H' vb7l1_0 xb7l1_0 ∧ OwnS heldE 50 H' vb7l1_1 xb7l1_1 cb7l1_1 ∧ OwnS heldE 50 H' vb7l1_2 xb7l1_2 cb7l1_2 ∧ xb7l1_1.length ≤ kl1 ∧ xb7l1_2.length ≤ kl1 ∧ windroseref20_Of_l1 a0 (a1.drop kl1) ((xb7l1_0, xb7l1_1, xb7l1_2)) = windroseref20_Of_l1 a0 a1 ((r13, [], []))) (fun ⟨kl1, vb7l1_0, xb7l1_0, vb7l1_1, xb7l1_1, cb7l1_1, vb7l1_2, xb7l1_2, cb7l1_2⟩ => [(17, .int .i64 (kl1 : Int)), (0, .slice Aa0 a0.length ca0), (6, .pointer (some ⟨b6, 0, none⟩)), (7, .pointer (some ⟨b7, 0, none⟩)), (15, .slice Aa1 a1.length ca1), (16, .int .i64 (a1.length : Int))]) (fun ⟨kl1, vb7l1_0, xb7l1_0, vb7l1_1, xb7l1_1, cb7l1_1, vb7l1_2, xb7l1_2, cb7l1_2⟩ => a1.length - kl1) (0, .slice A13_0_0 r13.length p13_0_0, r13, .slice none 0 0, [], [], .slice none 0 0, [], []) ?_ ?_ ?_
  · exact ⟨(by omega), (Has.cons .hd (Has.cons .hd (Has.none (Has.none Has.nil)))), w13_0_0, OwnS.nil, OwnS.nil, (by first | omega | (simp; done) | (simp; omega) | (simp at *; omega)), (by first | omega | (simp; done) | (simp; omega) | (simp at *; omega)), (by rfl)⟩
  · exact ⟨rfl, rfl, rfl, rfl, rfl, rfl, trivial⟩
  · intro ⟨kl1, vb7l1_0, xb7l1_0, vb7l1_1, xb7l1_1, cb7l1_1, vb7l1_2, xb7l1_2, cb7l1_2⟩ σ_l1 H_l1 L_l1 ds_l1 s_l1 hI_l1
    obtain ⟨hkl1, hI_l1⟩ := hI_l1
    obtain ⟨hLl1, wb7l1_0, wb7l1_1, wb7l1_2, hBl1_0, hBl1_1, hQl1⟩ := hI_l1
    obtain ⟨Ab7l1_0, pb7l1_0, rfl, mb7l1_0, nb7l1_0_, wb7l1_0⟩ := RdS.shape wb7l1_0
    obtain ⟨Ab7l1_1, pb7l1_1, rfl, mb7l1_1, nb7l1_1_⟩ := OwnS.shape wb7l1_1
    obtain ⟨Ab7l1_2, pb7l1_2, rfl, mb7l1_2, nb7l1_2_⟩ := OwnS.shape wb7l1_2
    refine T.has hLl1 ?_
    refine T.seq ?_
    refine T.region ?_
    refine R.lss rfl rfl rfl ?_
    refine TL.nil (Post.thnN ?_)
    refine T.seq ?_
    refine T.condD rfl (fun c18 => ?_) (fun c18 => ?_)
    · have hltl1 : kl1 < a1.length := by omega
      obtain ⟨yl1, hyl1⟩ := getk (xs := a1) (k := kl1) (by omega)
      refine T.skip (Post.thnN ?_)
      refine T.seq ?_
      refine T.block ?_
      refine T.seq ?_
      refine T.region ?_
      obtain ⟨b19, o19, i19, k19⟩ := RdS.elem (ha1.mono (s13.trans s_l1)) hyl1
      obtain ⟨l19, g19, k19⟩ := k19
      obtain rfl : l19 = [.int .i64 (yl1.1), .int .u64 (yl1.2)] := g19
      refine R.ixp Tryz.underlying23 Tryz.sizeOf50 rfl rfl rfl (by omega) i19 ?_
      refine R.ldK (l := [.int .i64 (yl1.1), .int .u64 (yl1.2)]) Tryz.isAgg50 Tryz.sizeOf50 rfl rfl k19 rfl ?_
      refine R.alloc Tryz.zeroValue50 rfl ?_
      intro b9
      refine R.stX (old := [.int .i64 0, .int .u64 0]) (l := [.int .i64 (yl1.1), .int .u64 (yl1.2)]) (new := [.int .i64 (yl1.1), .int .u64 (yl1.2)]) (et := 50) Tryz.sizeOf50 rfl rfl rfl rfl rfl (by show 0 + 2 ≤ 2; decide) rfl (all_one rfl) .hd ?_
      refine TL.shut .hd ?_
      intro Hb9_1 sb9_1 qb9_1
      have hb9_1 : Hb9_1 b9 = some (.cells #[.int .i64 (yl1.1), .int .u64 (yl1.2)] 50) := shut1 qb9_1
      refine TL.nil (Post.thnN ?_)
      refine T.seq ?_
      refine T.seq ?_
      refine T.cutK (ι := Bool) (fun b33c2 H' L' ds' => Has L' [[(b7, .cells #[.slice Ab7l1_0 xb7l1_0.length pb7l1_0, .slice Ab7l1_1 xb7l1_1.length pb7l1_1, .slice Ab7l1_2 xb7l1_2.length pb7l1_2] 33)], [(b6, .cells #[.slice none 0 0, .slice none 0 0, .slice none 0 0] 33)], cb7l1_1, cb7l1_2] ∧ (if (windroseref20_has_m xb7l1_0 yl1.1) = true then true else ((!(windroseref20_touched_m a0 yl1 xb7l1_0))) : Bool) = b33c2) (fun b33c2 => [(0, .slice Aa0 a0.length ca0), (6, .pointer (some ⟨b6, 0, none⟩)), (7, .pointer (some ⟨b7, 0, none⟩)), (9, .pointer (some ⟨b9, 0, none⟩)), (15, .slice Aa1 a1.length ca1), (16, .int .i64 (a1.length : Int)), (17, .int .i64 (kl1 : Int)), (33, .bool (b33c2))]) ?_ ?_
      · refine T.region ?_
        refine R.fldA Tryz.underlying33 rfl Tryz.sizeOf30 (by decide) rfl rfl ?_
        refine R.ld Tryz.isAgg30 rfl rfl .hd rfl ?_
        refine R.fldA Tryz.underlying50 rfl Tryz.sizeOf3 (by decide) rfl rfl ?_
        refine R.ldH Tryz.isAgg3 rfl rfl hb9_1 rfl ?_
        refine R.callv rfl rfl rfl (windroseref20_has_c _ _ xb7l1_0 (wb7l1_0.mono sb9_1) (yl1.1)) ?_
        refine R.mvE rfl (by conv => lhs; whnf) ?_
        refine TL.gsplit 26 rfl (fun g26 => ?_) (fun g26 => ?_)
        · refine TL.off rfl rfl rfl ?_
          refine TL.off rfl rfl rfl ?_
          refine TL.off rfl rfl rfl ?_
          refine TL.off rfl rfl rfl ?_
          refine TL.off rfl rfl rfl ?_
          refine TL.off rfl rfl rfl ?_
          refine R.pkTE rfl rfl (by conv => lhs; whnf) ?_
          refine TL.nil (Post.thnN ?_)
          exact ⟨true, HLe.refl _, ⟨(Has.cons .hd (Has.cons .hd (Has.cons .hd (Has.cons .hd Has.nil)))), (by rw [if_t g26])⟩, rfl, rfl, rfl, rfl, rfl, rfl, rfl, rfl, trivial⟩
        · refine R.mvE rfl (by conv => lhs; whnf) ?_
          refine R.ldXH (cs := [.int .i64 (yl1.1), .int .u64 (yl1.2)]) (l := [.int .i64 (yl1.1), .int .u64 (yl1.2)]) Tryz.isAgg50 Tryz.sizeOf50 rfl rfl hb9_1 rfl rfl ?_
          refine R.fldA Tryz.underlying33 rfl Tryz.sizeOf30 (by decide) rfl rfl ?_
          refine R.ld Tryz.isAgg30 rfl rfl .hd rfl ?_
          refine R.callv rfl rfl rfl (windroseref20_touched_c _ _ a0 (ha0.mono (s13.trans (s_l1.trans sb9_1))) yl1 _ xb7l1_0 (wb7l1_0.mono sb9_1)) ?_
          refine R.not rfl rfl ?_
          refine R.pkFE rfl rfl (by conv => lhs; whnf) ?_
          refine TL.nil (Post.thnN ?_)
          exact ⟨(!(windroseref20_touched_m a0 yl1 xb7l1_0)), HLe.refl _, ⟨(Has.cons .hd (Has.cons .hd (Has.cons .hd (Has.cons .hd Has.nil)))), (by rw [if_f g26])⟩, rfl, rfl, rfl, rfl, rfl, rfl, rfl, rfl, trivial⟩
      · intro b33c2 σ_c2 H_c2 L_c2 ds_c2 s_c2 hI_c2
        obtain ⟨hLc2, hTc2⟩ := hI_c2
        refine T.has hLc2 ?_
        refine T.cond rfl (fun c33 => ?_) (fun c33 => ?_)
        · refine T.set 33 (.bool true) (congrArg Value.bool c33) ?_
          have hZ33 := hTc2.trans c33
          try simp only [or_f, or_t, and_f, and_t, decide_eq_true_eq, decide_eq_false_iff_not, Bool.not_eq_true'] at hZ33
          refine T.exit (Post.thnE (Post.blkX ?_))
          refine id (Post.thnN ?_)
          refine T.region ?_
          refine R.addI rfl rfl rfl (by omega) ?_
          refine R.mvE rfl (by conv => lhs; whnf) ?_
          refine TL.nil (Post.thnN ?_)
          exact ⟨(kl1 + 1, .slice Ab7l1_0 xb7l1_0.length pb7l1_0, xb7l1_0, .slice Ab7l1_1 xb7l1_1.length pb7l1_1, xb7l1_1, cb7l1_1, .slice Ab7l1_2 xb7l1_2.length pb7l1_2, xb7l1_2, cb7l1_2), (s_l1.trans (sb9_1.trans s_c2)), ⟨(by omega), (Has.cons .hd (Has.cons .hd (Has.cons .hd (Has.cons .hd Has.nil)))), (wb7l1_0.mono (sb9_1.trans s_c2)), (OwnS.mono wb7l1_1 (sb9_1.trans s_c2)), (OwnS.mono wb7l1_2 (sb9_1.trans s_c2)), (by first | omega | (simp; done) | (simp; omega) | (simp at *; omega)), (by first | omega | (simp; done) | (simp; omega) | (simp at *; omega)), (by rw [← hQl1, drop_cons hyl1, windroseref20_Of_l1]; rw [hTc2, LR.seq_go, if_t c33])⟩, by show a1.length - (kl1 + 1) < a1.length - kl1; omega, rfl, rfl, rfl, rfl, rfl, rfl, trivial⟩
        · refine T.set 33 (.bool false) (congrArg Value.bool c33) ?_
          have hZ33 := hTc2.trans c33
          try simp only [or_f, or_t, and_f, and_t, decide_eq_true_eq, decide_eq_false_iff_not, Bool.not_eq_true'] at hZ33
          refine T.skip (Post.thnN ?_)
          refine T.seq ?_
          refine T.region ?_
          refine R.fldA Tryz.underlying33 rfl Tryz.sizeOf23 (by decide) rfl rfl ?_
          refine R.ld Tryz.isAgg23 rfl rfl .hd rfl ?_
          refine R.ldXH (cs := [.int .i64 (yl1.1), .int .u64 (yl1.2)]) (l := [.int .i64 (yl1.1), .int .u64 (yl1.2)]) Tryz.isAgg50 Tryz.sizeOf50 rfl rfl (s_c2 _ _ hb9_1) rfl rfl ?_
          refine R.bs (e := 50) (cs := [.int .i64 (yl1.1), .int .u64 (yl1.2)]) rfl (fun _ => by kernel_rfl) ?_
          intro b37
          have w37 : OwnS heldE 50 H_c2 (.slice (some ⟨b37, 0, none⟩) 1 1) [yl1] [(b37, .cells #[.int .i64 (yl1.1), .int .u64 (yl1.2)] 50)] := OwnS.lit (xs := [yl1]) (cellsOf_cons (a := [.int .i64 (yl1.1), .int .u64 (yl1.2)]) rfl cellsOf_nil) (by show 1 ≤ maxLen; decide)
          obtain ⟨k38, y38, r38⟩ := Src.ownA w37
          refine R.app (E := heldE) (e := 50) (xs := xb7l1_1) (ys := [yl1]) Tryz_ty23 rfl rfl rfl (OwnS.mono wb7l1_1 (sb9_1.trans s_c2)) (.tl (.tl (.tl .hd))) (r38 _ .hd) y38 (by (try simp only [List.length_append, List.length_cons, List.length_nil, List.length_replicate, List.length_take, List.length_drop]); omega) (by (try simp only [List.length_append, List.length_cons, List.length_nil, List.length_replicate, List.length_take, List.length_drop]); omega) ?_
          intro v38 c38 w38
          obtain ⟨A38, p38, rfl, m38, n38⟩ := OwnS.shape w38
          refine TL.del (.tl .hd) ?_
          refine R.fldA Tryz.underlying33 rfl Tryz.sizeOf23 (by decide) rfl rfl ?_
          refine R.stX (old := [.slice Ab7l1_0 xb7l1_0.length pb7l1_0, .slice Ab7l1_1 xb7l1_1.length pb7l1_1, .slice Ab7l1_2 xb7l1_2.length pb7l1_2]) (l := [.slice A38 (xb7l1_1 ++ [yl1]).length p38]) (new := [.slice Ab7l1_0 xb7l1_0.length pb7l1_0, .slice A38 (xb7l1_1 ++ [yl1]).length p38, .slice Ab7l1_2 xb7l1_2.length pb7l1_2]) (et := 33) Tryz.sizeOf23 rfl rfl rfl (cells1 rfl) rfl (by show 1 + 1 ≤ 3; decide) rfl (all_one rfl) (.tl .hd) ?_
          refine TL.nil (Post.thnN ?_)
          refine T.seq ?_
          refine T.region ?_
          refine R.mvE rfl (by conv => lhs; whnf) ?_
          refine R.ldXH (cs := [.int .i64 (yl1.1), .int .u64 (yl1.2)]) (l := [.int .i64 (yl1.1), .int .u64 (yl1.2)]) Tryz.isAgg50 Tryz.sizeOf50 rfl rfl (s_c2 _ _ hb9_1) rfl rfl ?_
          refine R.fldA Tryz.underlying33 rfl Tryz.sizeOf30 (by decide) rfl rfl ?_
          refine R.ld Tryz.isAgg30 rfl rfl (.tl .hd) rfl ?_
          refine R.callv rfl rfl rfl (windroseref20_refuses_c _ _ a0 (ha0.mono (s13.trans (s_l1.trans (sb9_1.trans s_c2)))) yl1 _ xb7l1_0 (wb7l1_0.mono (sb9_1.trans s_c2))) ?_
          refine TL.nil (Post.thnN ?_)
          refine T.cond rfl (fun c44 => ?_) (fun c44 => ?_)
          · refine T.set 44 (.bool true) (congrArg Value.bool c44) ?_
            refine T.region ?_
            refine R.fldA Tryz.underlying33 rfl Tryz.sizeOf23 (by decide) rfl rfl ?_
            refine R.ld Tryz.isAgg23 rfl rfl (.tl .hd) rfl ?_
            refine R.ldXH (cs := [.int .i64 (yl1.1), .int .u64 (yl1.2)]) (l := [.int .i64 (yl1.1), .int .u64 (yl1.2)]) Tryz.isAgg50 Tryz.sizeOf50 rfl rfl (s_c2 _ _ hb9_1) rfl rfl ?_
            refine R.bs (e := 50) (cs := [.int .i64 (yl1.1), .int .u64 (yl1.2)]) rfl (fun _ => by kernel_rfl) ?_
            intro b48
            have w48 : OwnS heldE 50 H_c2 (.slice (some ⟨b48, 0, none⟩) 1 1) [yl1] [(b48, .cells #[.int .i64 (yl1.1), .int .u64 (yl1.2)] 50)] := OwnS.lit (xs := [yl1]) (cellsOf_cons (a := [.int .i64 (yl1.1), .int .u64 (yl1.2)]) rfl cellsOf_nil) (by show 1 ≤ maxLen; decide)
            obtain ⟨k49, y49, r49⟩ := Src.ownA w48
            refine R.app (E := heldE) (e := 50) (xs := xb7l1_2) (ys := [yl1]) Tryz_ty23 rfl rfl rfl (OwnS.mono wb7l1_2 (sb9_1.trans s_c2)) (.tl (.tl (.tl (.tl .hd)))) (r49 _ .hd) y49 (by (try simp only [List.length_append, List.length_cons, List.length_nil, List.length_replicate, List.length_take, List.length_drop]); omega) (by (try simp only [List.length_append, List.length_cons, List.length_nil, List.length_replicate, List.length_take, List.length_drop]); omega) ?_
            intro v49 c49 w49
            obtain ⟨A49, p49, rfl, m49, n49⟩ := OwnS.shape w49
            refine TL.del (.tl .hd) ?_
            refine R.fldA Tryz.underlying33 rfl Tryz.sizeOf23 (by decide) rfl rfl ?_
            refine R.stX (old := [.slice Ab7l1_0 xb7l1_0.length pb7l1_0, .slice A38 (xb7l1_1 ++ [yl1]).length p38, .slice Ab7l1_2 xb7l1_2.length pb7l1_2]) (l := [.slice A49 (xb7l1_2 ++ [yl1]).length p49]) (new := [.slice Ab7l1_0 xb7l1_0.length pb7l1_0, .slice A38 (xb7l1_1 ++ [yl1]).length p38, .slice A49 (xb7l1_2 ++ [yl1]).length p49]) (et := 33) Tryz.sizeOf23 rfl rfl rfl (cells1 rfl) rfl (by show 2 + 1 ≤ 3; decide) rfl (all_one rfl) (.tl (.tl .hd)) ?_
            refine TL.nil (Post.blkN ?_)
            refine id (Post.thnN ?_)
            refine T.region ?_
            refine R.addI rfl rfl rfl (by omega) ?_
            refine R.mvE rfl (by conv => lhs; whnf) ?_
            refine TL.nil (Post.thnN ?_)
            exact ⟨(kl1 + 1, .slice Ab7l1_0 xb7l1_0.length pb7l1_0, xb7l1_0, .slice A38 (xb7l1_1 ++ [yl1]).length p38, (xb7l1_1 ++ [yl1]), c38, .slice A49 (xb7l1_2 ++ [yl1]).length p49, (xb7l1_2 ++ [yl1]), c49), (s_l1.trans (sb9_1.trans s_c2)), ⟨(by omega), (Has.cons (.tl (.tl .hd)) (Has.cons (.tl (.tl .hd)) (Has.cons (.tl .hd) (Has.cons .hd Has.nil)))), (wb7l1_0.mono (sb9_1.trans s_c2)), w38, w49, (by first | omega | (simp; done) | (simp; omega) | (simp at *; omega)), (by first | omega | (simp; done) | (simp; omega) | (simp at *; omega)), (by rw [← hQl1, drop_cons hyl1, windroseref20_Of_l1]; rw [hTc2, LR.seq_go, if_f c33, if_t c44])⟩, by show a1.length - (kl1 + 1) < a1.length - kl1; omega, rfl, rfl, rfl, rfl, rfl, rfl, trivial⟩
          · refine T.set 44 (.bool false) (congrArg Value.bool c44) ?_
            refine T.skip (Post.blkN ?_)
            refine id (Post.thnN ?_)
            refine T.region ?_
            refine R.addI rfl rfl rfl (by omega) ?_
            refine R.mvE rfl (by conv => lhs; whnf) ?_
            refine TL.nil (Post.thnN ?_)
            exact ⟨(kl1 + 1, .slice Ab7l1_0 xb7l1_0.length pb7l1_0, xb7l1_0, .slice A38 (xb7l1_1 ++ [yl1]).length p38, (xb7l1_1 ++ [yl1]), c38, .slice Ab7l1_2 xb7l1_2.length pb7l1_2, xb7l1_2, cb7l1_2), (s_l1.trans (sb9_1.trans s_c2)), ⟨(by omega), (Has.cons (.tl .hd) (Has.cons (.tl .hd) (Has.cons .hd (Has.cons .hd Has.nil)))), (wb7l1_0.mono (sb9_1.trans s_c2)), w38, (OwnS.mono wb7l1_2 (sb9_1.trans s_c2)), (by first | omega | (simp; done) | (simp; omega) | (simp at *; omega)), (by first | omega | (simp; done) | (simp; omega) | (simp at *; omega)), (by rw [← hQl1, drop_cons hyl1, windroseref20_Of_l1]; rw [hTc2, LR.seq_go, if_f c33, if_f c44])⟩, by show a1.length - (kl1 + 1) < a1.length - kl1; omega, rfl, rfl, rfl, rfl, rfl, rfl, trivial⟩
    · refine T.exit (Post.thnE (Post.thnE (Post.blkX ?_)))
      have hEl1 : windroseref20_Of_l1 a0 a1 ((r13, [], [])) = (xb7l1_0, xb7l1_1, xb7l1_2) := (hQl1.symm.trans (by rw [show kl1 = a1.length by omega, List.drop_length, windroseref20_Of_l1]))
      refine id (Post.thnN ?_)
      refine T.seq ?_
      refine T.region ?_
      refine R.ldX (cs := [.slice Ab7l1_0 xb7l1_0.length pb7l1_0, .slice Ab7l1_1 xb7l1_1.length pb7l1_1, .slice Ab7l1_2 xb7l1_2.length pb7l1_2]) (l := [.slice Ab7l1_0 xb7l1_0.length pb7l1_0, .slice Ab7l1_1 xb7l1_1.length pb7l1_1, .slice Ab7l1_2 xb7l1_2.length pb7l1_2]) Tryz.isAgg33 Tryz.sizeOf33 rfl rfl .hd rfl rfl ?_
      refine R.stX (old := [.slice none 0 0, .slice none 0 0, .slice none 0 0]) (l := [.slice Ab7l1_0 xb7l1_0.length pb7l1_0, .slice Ab7l1_1 xb7l1_1.length pb7l1_1, .slice Ab7l1_2 xb7l1_2.length pb7l1_2]) (new := [.slice Ab7l1_0 xb7l1_0.length pb7l1_0, .slice Ab7l1_1 xb7l1_1.length pb7l1_1, .slice Ab7l1_2 xb7l1_2.length pb7l1_2]) (et := 33) Tryz.sizeOf33 rfl rfl rfl rfl rfl (by show 0 + 3 ≤ 3; decide) rfl (all_one rfl) (.tl .hd) ?_
      refine TL.nil (Post.thnN ?_)
      refine T.has (Has.cons (.tl (.tl .hd)) (Has.cons (.tl (.tl .hd)) (Has.cons (.tl .hd) Has.nil))) ?_
      refine T.ret ?_
      have hM : windroseref20_Of_m a0 a1 a2 = (xb7l1_0, xb7l1_1, xb7l1_2) := by subst er13; rw [windroseref20_Of_m, LR.seq_go, hEl1, LR.seq_go]
      exact finR1 (v := .agg #[.slice Ab7l1_0 xb7l1_0.length pb7l1_0, .slice Ab7l1_1 xb7l1_1.length pb7l1_1, .slice Ab7l1_2 xb7l1_2.length pb7l1_2]) [cb7l1_1, cb7l1_2] rfl (.cellA (cs := [.slice Ab7l1_0 xb7l1_0.length pb7l1_0, .slice Ab7l1_1 xb7l1_1.length pb7l1_1, .slice Ab7l1_2 xb7l1_2.length pb7l1_2]) (l := [.slice Ab7l1_0 xb7l1_0.length pb7l1_0, .slice Ab7l1_1 xb7l1_1.length pb7l1_1, .slice Ab7l1_2 xb7l1_2.length pb7l1_2]) Tryz.isAgg33 Tryz.sizeOf33 rfl (.tl (.tl .hd)) rfl rfl) (List.sublist_append_left ([cb7l1_1, cb7l1_2] : Own) _) ⟨.slice Ab7l1_0 xb7l1_0.length pb7l1_0, .slice Ab7l1_1 xb7l1_1.length pb7l1_1, .slice Ab7l1_2 xb7l1_2.length pb7l1_2, cb7l1_1, cb7l1_2, by first | rw [hM] | rfl, rfl, by rw [hM]; exact wb7l1_0, by rw [hM]; exact wb7l1_1, by rw [hM]; exact wb7l1_2⟩

def gone20 (l : List Rl) (D : List Int) (h : Hd) : Bool := !windroseref20_has_m D h.1 && windroseref20_touched_m l h D
def ref20 (l : List Rl) (D : List Int) (h : Hd) : Bool := !windroseref20_has_m D h.1 && windroseref20_touched_m l h D && windroseref20_refuses_m l h D
theorem of20_l1 (l : List Rl) (D : List Int) : ∀ (xs g r : List Hd), windroseref20_Of_l1 l xs (D, g, r) = (D, g ++ xs.filter (gone20 l D), r ++ xs.filter (ref20 l D))
  | [], g, r => by simp [windroseref20_Of_l1]
  | y :: ys, g, r => by
    rw [windroseref20_Of_l1, LR.seq_go, List.filter_cons, List.filter_cons]
    have hg : gone20 l D y = (!windroseref20_has_m D y.1 && windroseref20_touched_m l y D) := rfl
    have hr : ref20 l D y = (!windroseref20_has_m D y.1 && windroseref20_touched_m l y D && windroseref20_refuses_m l y D) := rfl
    rw [hg, hr]
    cases windroseref20_has_m D y.1 <;> cases windroseref20_touched_m l y D <;> cases windroseref20_refuses_m l y D <;> simp [of20_l1 l D ys]
theorem of20_eq (l : List Rl) (xs : List Hd) (first : List Int) : windroseref20_Of_m l xs first = (windroseref20_Dies_m l xs first, xs.filter (gone20 l (windroseref20_Dies_m l xs first)), xs.filter (ref20 l (windroseref20_Dies_m l xs first))) := by
  unfold windroseref20_Of_m
  rw [LR.seq_go, of20_l1, LR.seq_go]
  simp
theorem of20_len (l : List Rl) (xs : List Hd) (first : List Int) : (windroseref20_Of_m l xs first).2.1.length ≤ xs.length := by
  rw [of20_eq]; exact List.length_filter_le _ _
end Go.SX

set_option linter.unusedVariables false
set_option linter.unusedSimpArgs false
namespace Go.SX
open Go
theorem has20_l1 (n : Int) : ∀ (D : List Int), (n ∈ D ∧ windroseref20_has_l1 n D () = .ret true) ∨ (n ∉ D ∧ windroseref20_has_l1 n D () = .go ())
  | [] => .inr ⟨fun h => (by cases h), rfl⟩
  | y :: ys => by
    rw [windroseref20_has_l1]
    by_cases e : y = n
    · rw [if_pos e]; exact .inl ⟨by rw [e]; exact List.mem_cons_self .., rfl⟩
    · rw [if_neg e]
      rcases has20_l1 n ys with ⟨h1, h2⟩ | ⟨h1, h2⟩
      · exact .inl ⟨List.mem_cons_of_mem _ h1, h2⟩
      · exact .inr ⟨fun h => (List.mem_cons.1 h).elim (fun k => e k.symm) h1, h2⟩
theorem has20_eq (D : List Int) (n : Int) : windroseref20_has_m D n = decide (n ∈ D) := by
  unfold windroseref20_has_m
  rcases has20_l1 n D with ⟨h1, h2⟩ | ⟨h1, h2⟩
  · rw [h2, LR.on_ret, decide_eq_true h1]
  · rw [h2, LR.on_go, decide_eq_false h1]
theorem pol20_l1 {l : List Rl} (hr : RelOk l) {h : Hd} (hu : U h.2) (w : Int) : ∀ (D : List Int), ((∃ n ∈ D, (n, w) ∈ mentL l h) ∧ windroseref20_policy_l1 l h w D () = .ret true) ∨ ((¬ ∃ n ∈ D, (n, w) ∈ mentL l h) ∧ windroseref20_policy_l1 l h w D () = .go ())
  | [] => .inr ⟨fun ⟨n, k, _⟩ => (by cases k), rfl⟩
  | y :: ys => by
    rw [windroseref20_policy_l1, LR.seq_go, policy13_eq hr hu, LR.seq_go]
    have key : (if (trait_Policy_m l h.2 y).2 = true then decide ((trait_Policy_m l h.2 y).1 = w) else false) = decide ((y, w) ∈ mentL l h) := by
      have hm := mentL_mem l h y w
      by_cases hn : y = (ident_Parts_m h.2).1 ∨ y = (ident_Parts_m h.2).2
      · cases h2 : (trait_Policy_m l h.2 y).2 with
        | false => rw [if_neg Bool.false_ne_true, decide_eq_false (fun k => by have := (hm.1 k).2; rw [this] at h2; cases h2)]
        | true =>
          rw [if_pos rfl, decide_eq_decide]
          exact ⟨fun e => hm.2 ⟨hn, Prod.ext e h2⟩, fun k => by rw [(hm.1 k).2]⟩
      · rw [policy_no hn, if_neg Bool.false_ne_true, decide_eq_false (fun k => hn (hm.1 k).1)]
    rw [key]
    by_cases e : (y, w) ∈ mentL l h
    · rw [if_pos (decide_eq_true e)]; exact .inl ⟨⟨y, List.mem_cons_self .., e⟩, rfl⟩
    · rw [if_neg (fun k => e (of_decide_eq_true k))]
      rcases pol20_l1 hr hu w ys with ⟨⟨n, h1, h3⟩, h2⟩ | ⟨h1, h2⟩
      · exact .inl ⟨⟨n, List.mem_cons_of_mem _ h1, h3⟩, h2⟩
      · refine .inr ⟨fun ⟨n, h3, h4⟩ => ?_, h2⟩
        rcases List.mem_cons.1 h3 with rfl | h3
        · exact e h4
        · exact h1 ⟨n, h3, h4⟩
theorem pol20_iff {l : List Rl} (hr : RelOk l) {h : Hd} (hu : U h.2) (D : List Int) (w : Int) : windroseref20_policy_m l h D w = true ↔ ∃ n ∈ D, (n, w) ∈ mentL l h := by
  unfold windroseref20_policy_m
  rcases pol20_l1 hr hu w D with ⟨h1, h2⟩ | ⟨h1, h2⟩
  · rw [h2, LR.on_ret]; exact ⟨fun _ => h1, fun _ => rfl⟩
  · rw [h2, LR.on_go]; exact ⟨fun k => (by cases k), fun k => absurd k h1⟩
theorem del20_iff {l : List Rl} (hr : RelOk l) {h : Hd} (hu : U h.2) (D : List Int) : windroseref20_deletes_m l h D = true ↔ ∃ n ∈ D, (n, 1) ∈ mentL l h := pol20_iff hr hu D 1
/-- rounds of the reference -/
def Upg (s : List Int) : Prop := s.Pairwise (· < ·)
theorem Upg.put {s : List Int} (h : Upg s) (n : Int) : Upg (putI s n) := ((show Rg (n :: s) s from ⟨h, fun x hx => List.mem_cons_of_mem _ hx⟩).put (List.mem_cons_self ..)).1
theorem d20_first : ∀ (xs s : List Int), Upg s → Upg (windroseref20_Dies_l1 xs s) ∧ ∀ x, x ∈ windroseref20_Dies_l1 xs s ↔ x ∈ xs ∨ x ∈ s
  | [], s, h => ⟨h, fun x => ⟨.inr, fun k => k.resolve_left (fun q => by cases q)⟩⟩
  | y :: ys, s, h => by
    rw [windroseref20_Dies_l1, LR.seq_go, put20_eq]
    obtain ⟨h1, h2⟩ := d20_first ys (putI s y) (h.put y)
    refine ⟨h1, fun x => ?_⟩
    rw [h2, putI_mem, List.mem_cons]
    exact ⟨fun k => k.elim (fun q => .inl (.inr q)) (fun q => q.elim (fun e => .inl (.inl e)) .inr), fun k => k.elim (fun q => q.elim (fun e => .inr (.inl e)) .inl) (fun q => .inr (.inr q))⟩
def Kd (l : List Rl) (s : List Int) (h : Hd) : Prop := ∃ n ∈ s, (n, 1) ∈ mentL l h
theorem Kd.mono {l : List Rl} {s t : List Int} {h : Hd} (k : Kd l s h) (hs : ∀ x ∈ s, x ∈ t) : Kd l t h := by obtain ⟨n, h1, h2⟩ := k; exact ⟨n, hs n h1, h2⟩
theorem d20_l3 {l : List Rl} (hr : RelOk l) : ∀ (xs : List Hd) (s : List Int), (∀ h ∈ xs, U h.2) → Upg s →
    Upg (windroseref20_Dies_l3 l xs s) ∧ (∀ x ∈ s, x ∈ windroseref20_Dies_l3 l xs s) ∧ (∀ h ∈ xs, Kd l s h → h.1 ∈ windroseref20_Dies_l3 l xs s)
      ∧ ∀ P : Int → Prop, (∀ x ∈ s, P x) → (∀ n h, P n → h ∈ xs → (n, 1) ∈ mentL l h → P h.1) → ∀ x ∈ windroseref20_Dies_l3 l xs s, P x
  | [], s, hu, hs => ⟨hs, fun x hx => hx, fun h hh => (by cases hh), fun P h0 _ => h0⟩
  | y :: ys, s, hu, hs => by
    rw [windroseref20_Dies_l3]
    have hu' : ∀ h ∈ ys, U h.2 := fun h hh => hu h (List.mem_cons_of_mem _ hh)
    by_cases hd : windroseref20_deletes_m l y s = true
    · rw [if_pos hd, LR.seq_go, put20_eq]
      obtain ⟨h1, h2, h3, h4⟩ := d20_l3 hr ys (putI s y.1) hu' (hs.put _)
      have hin : ∀ x ∈ s, x ∈ putI s y.1 := fun x hx => (putI_mem ..).2 (.inr hx)
      refine ⟨h1, fun x hx => h2 x (hin x hx), fun h hh hk => ?_, fun P h0 hc => ?_⟩
      · rcases List.mem_cons.1 hh with rfl | hh
        · exact h2 _ ((putI_mem ..).2 (.inl rfl))
        · exact h3 h hh (hk.mono hin)
      · refine h4 P (fun x hx => ?_) (fun n h hn hh hk => hc n h hn (List.mem_cons_of_mem _ hh) hk)
        rcases (putI_mem ..).1 hx with rfl | hx
        · obtain ⟨n, k1, k2⟩ := (del20_iff hr (hu y (List.mem_cons_self ..)) s).1 hd
          exact hc n y (h0 n k1) (List.mem_cons_self ..) k2
        · exact h0 x hx
    · rw [if_neg hd]
      obtain ⟨h1, h2, h3, h4⟩ := d20_l3 hr ys s hu' hs
      refine ⟨h1, h2, fun h hh hk => ?_, fun P h0 hc => h4 P h0 (fun n h hn hh hk => hc n h hn (List.mem_cons_of_mem _ hh) hk)⟩
      rcases List.mem_cons.1 hh with rfl | hh
      · exact absurd ((del20_iff hr (hu h (List.mem_cons_self ..)) s).2 hk) hd
      · exact h3 h hh hk
def Cl (l : List Rl) (held : List Hd) (s : List Int) : Prop := ∀ h ∈ held, Kd l s h → h.1 ∈ s
def outN (held : List Hd) (s : List Int) : Nat := held.countP (fun h => decide (h.1 ∉ s))
theorem countP_lt {p q : Hd → Bool} : ∀ {xs : List Hd}, (∀ x ∈ xs, q x = true → p x = true) → (∃ x ∈ xs, p x = true ∧ q x = false) → xs.countP q < xs.countP p
  | [], _, ⟨x, h, _⟩ => by cases h
  | y :: ys, h, ⟨x, hx, k1, k2⟩ => by
    have hle : ys.countP q ≤ ys.countP p := List.countP_mono_left (fun z hz => h z (List.mem_cons_of_mem _ hz))
    rw [List.countP_cons, List.countP_cons]
    rcases List.mem_cons.1 hx with rfl | hx
    · rw [if_neg (by rw [k2]; exact Bool.false_ne_true), if_pos k1]; omega
    · have := countP_lt (xs := ys) (fun z hz => h z (List.mem_cons_of_mem _ hz)) ⟨x, hx, k1, k2⟩
      have hy := h y (List.mem_cons_self ..)
      cases e : q y with
      | false => rw [if_neg Bool.false_ne_true]; split <;> omega
      | true => rw [if_pos rfl, if_pos (hy e)]; omega
theorem d20_l2 {l : List Rl} {held : List Hd} (hr : RelOk l) (hu : ∀ h ∈ held, U h.2) : ∀ (m k : Nat) (s : List Int), Upg s →
    Upg (windroseref20_Dies_l2 l held m k s) ∧ (∀ x ∈ s, x ∈ windroseref20_Dies_l2 l held m k s)
      ∧ (∀ P : Int → Prop, (∀ x ∈ s, P x) → (∀ n h, P n → h ∈ held → (n, 1) ∈ mentL l h → P h.1) → ∀ x ∈ windroseref20_Dies_l2 l held m k s, P x)
      ∧ (Cl l held s → Cl l held (windroseref20_Dies_l2 l held m k s)) ∧ (outN held s ≤ m → Cl l held (windroseref20_Dies_l2 l held m k s))
  | 0, k, s, hs => by
    refine ⟨hs, fun x hx => hx, fun P h0 _ => h0, fun h => h, fun h0 h hh _ => ?_⟩
    refine Classical.byContradiction (fun hn => ?_)
    have : 0 < outN held s := List.countP_pos_iff.2 ⟨h, hh, decide_eq_true hn⟩
    omega
  | m + 1, k, s, hs => by
    rw [windroseref20_Dies_l2, LR.seq_go]
    obtain ⟨h1, h2, h3, h4⟩ := d20_l3 hr held s hu hs
    obtain ⟨g1, g2, g3, g4, g5⟩ := d20_l2 hr hu m (k + 1) (windroseref20_Dies_l3 l held s) h1
    have hcl : Cl l held s → Cl l held (windroseref20_Dies_l3 l held s) := fun hc => by
      have hin : ∀ x ∈ windroseref20_Dies_l3 l held s, x ∈ s := h4 (fun x => x ∈ s) (fun x hx => hx) (fun n h hn hh hk => hc h hh ⟨n, hn, hk⟩)
      exact fun h hh hk => h2 _ (hc h hh (hk.mono hin))
    refine ⟨g1, fun x hx => g2 x (h2 x hx), fun P h0 hc => g3 P (h4 P h0 hc) hc, fun hc => g4 (hcl hc), fun hle => ?_⟩
    by_cases hc : Cl l held s
    · exact g4 (hcl hc)
    · refine g5 ?_
      obtain ⟨h, hh, hk, hn⟩ : ∃ h ∈ held, Kd l s h ∧ h.1 ∉ s := by
        refine Classical.byContradiction (fun hno => hc (fun h hh hk => Classical.byContradiction (fun hn => hno ⟨h, hh, hk, hn⟩)))
      have : outN held (windroseref20_Dies_l3 l held s) < outN held s := by
        refine countP_lt (fun x _ hx => ?_) ⟨h, hh, decide_eq_true hn, decide_eq_false (fun q => q (h3 h hh hk))⟩
        exact decide_eq_true (fun q => of_decide_eq_true hx (h2 _ q))
      omega
theorem lt_le {a : List Int} (h : Upg a) : a.Pairwise (· ≤ ·) := h.imp (fun k => by omega)
theorem lt_nd {a : List Int} (h : Upg a) : a.Nodup := h.imp (fun k e => by omega)
theorem dies20_eq {l : List Rl} {held : List Hd} {first : List Int} (hr : RelOk l) (hu : ∀ h ∈ held, U h.2) (hh : held.length ≤ 100) (hf : first.length ≤ 100) :
    windroseref20_Dies_m l held first = sortI ((diesD l held first).map Prod.fst) ∧ Cl l held (windroseref20_Dies_m l held first) := by
  unfold windroseref20_Dies_m
  rw [LR.seq_go, LR.seq_go]
  obtain ⟨f1, f2⟩ := d20_first first [] List.Pairwise.nil
  obtain ⟨g1, g2, g3, _, g5⟩ := d20_l2 hr hu (held.length - 0) 0 _ f1
  have hcl := g5 (by rw [Nat.sub_zero]; exact List.countP_le_length)
  refine ⟨?_, hcl⟩
  rw [← sortI_self (lt_le g1)]
  refine sortI_eq (lt_nd g1) (dies_nodup hh hf) (fun x => ⟨fun hx => ?_, fun hx => ?_⟩)
  · refine g3 (fun x => x ∈ (diesD l held first).map Prod.fst) (fun x hx => ?_) (fun n h hn hm hk => dies_closed hh hf hn hm hk) x hx
    rcases (f2 x).1 hx with hx | hx
    · exact dies_first hh hf hx
    · cases hx
  · exact dies_least (P := fun x => x ∈ windroseref20_Dies_l2 l held (held.length - 0) 0 (windroseref20_Dies_l1 first [])) hh hf (fun n hn => g2 n ((f2 n).2 (.inl hn))) (fun n h hn hm hk => hcl h hm ⟨n, hn, hk⟩) x hx
theorem iff_b {a b : Bool} (h : a = true ↔ b = true) : a = b := by
  cases a <;> cases b <;> simp at h <;> rfl
theorem of20_plan {l : List Rl} {held : List Hd} {first : List Int} (hc : plan_Check_m l held = 0) (hu : ∀ h ∈ held, U h.2) (hh : held.length ≤ 100) (hf : first.length ≤ 100) (hi : ∀ n ∈ first, idxOk n) :
    windroseref20_Of_m l held first = (plan_Of_m l held first).1 := by
  have hr : RelOk l := ((pcheck_iff l held).1.1 hc).1
  obtain ⟨hd, hcl⟩ := dies20_eq (first := first) hr hu hh hf
  rw [of20_eq, of_eq hc hi]
  have hmem : ∀ x, x ∈ windroseref20_Dies_m l held first ↔ x ∈ (diesD l held first).map Prod.fst := fun x => by rw [hd, mem_sortI]
  generalize windroseref20_Dies_m l held first = D at *
  have hsays : ∀ h ∈ held, ∀ p, windroseref20_policy_m l h D p = saysB l (diesD l held first) h p := fun h hm p => by
    refine iff_b ?_
    rw [pol20_iff hr (hu h hm), says_iff]
    exact ⟨fun ⟨n, k1, k2⟩ => ⟨n, k2, (hmem n).1 k1⟩, fun ⟨n, k1, k2⟩ => ⟨n, (hmem n).2 k2, k1⟩⟩
  have hhas : ∀ n, windroseref20_has_m D n = deadB (diesD l held first) n := fun n => by
    refine iff_b ?_
    rw [has20_eq, decide_eq_true_eq, deadB_iff]; exact hmem n
  have hdel : ∀ h ∈ held, deadB (diesD l held first) h.1 = false → windroseref20_deletes_m l h D = false := fun h hm hn => by
    refine Bool.eq_false_iff.2 (fun k => ?_)
    rw [← hhas, has20_eq, decide_eq_false_iff_not] at hn
    exact hn (hcl h hm ((del20_iff hr (hu h hm) D).1 k))
  have hg : ∀ h ∈ held, gone20 l D h = goneB l (diesD l held first) h ∧ ref20 l D h = refB l (diesD l held first) h := fun h hm => by
    unfold gone20 ref20 goneB refB windroseref20_touched_m windroseref20_refuses_m
    rw [hhas, hsays h hm, hsays h hm]
    cases hn : deadB (diesD l held first) h.1 with
    | true => exact ⟨rfl, rfl⟩
    | false =>
      rw [hdel h hm hn]
      cases saysB l (diesD l held first) h 2 <;> cases saysB l (diesD l held first) h 0 <;> exact ⟨rfl, rfl⟩
  refine Prod.ext hd (Prod.ext ?_ ?_)
  · exact List.filter_congr (fun h hm => (hg h hm).1)
  · exact List.filter_congr (fun h hm => (hg h hm).2)
theorem closed20_l1 {l : List Rl} (hr : RelOk l) (D : List Int) : ∀ (xs : List Hd), (∀ h ∈ xs, U h.2) → ((∀ h ∈ xs, Kd l D h → h.1 ∈ D) ∧ windroseref20_Closed_l1 l D xs () = .go ()) ∨ ((¬ ∀ h ∈ xs, Kd l D h → h.1 ∈ D) ∧ windroseref20_Closed_l1 l D xs () = .ret false)
  | [], _ => .inl ⟨fun h k => (by cases k), rfl⟩
  | y :: ys, hu => by
    rw [windroseref20_Closed_l1, LR.seq_go, has20_eq]
    have hy := del20_iff hr (hu y (List.mem_cons_self ..)) D
    by_cases e : y.1 ∈ D ∨ ¬ Kd l D y
    · have hf : (if (!decide (y.1 ∈ D)) = true then windroseref20_deletes_m l y D else false) = false := by
        rcases e with e | e
        · rw [decide_eq_true e]; rfl
        · rw [Bool.eq_false_iff.2 (fun k => e (hy.1 k))]; split <;> rfl
      rw [hf, if_neg Bool.false_ne_true]
      rcases closed20_l1 hr D ys (fun h hh => hu h (List.mem_cons_of_mem _ hh)) with ⟨h1, h2⟩ | ⟨h1, h2⟩
      · refine .inl ⟨fun h hh => ?_, h2⟩
        rcases List.mem_cons.1 hh with rfl | hh
        · exact fun k => e.resolve_right (fun q => q k)
        · exact h1 h hh
      · exact .inr ⟨fun q => h1 (fun h hh => q h (List.mem_cons_of_mem _ hh)), h2⟩
    · rw [not_or, Classical.not_not] at e
      rw [decide_eq_false e.1, Bool.not_false, if_pos rfl, hy.2 e.2, if_pos rfl]
      exact .inr ⟨fun q => e.1 (q y (List.mem_cons_self ..) e.2), rfl⟩
theorem closed20_plan {l : List Rl} {held : List Hd} (D : List Int) (hc : plan_Check_m l held = 0) (hu : ∀ h ∈ held, U h.2) : plan_Closed_m l held D = (windroseref20_Closed_m l held D, 0) := by
  have hr : RelOk l := ((pcheck_iff l held).1.1 hc).1
  unfold plan_Closed_m windroseref20_Closed_m
  rw [hc, if_neg (fun k => k rfl), LR.seq_go]
  have hk : ∀ n h, h ∈ plan_killers_m l held n ↔ h ∈ held ∧ (n, 1) ∈ mentL l h := fun n h => by
    rw [kill_eq, List.mem_filter]; unfold killB; rw [decide_eq_true_eq]
  rcases closed_l1 D (plan_killers_m l held) D with ⟨h1, h2⟩ | ⟨⟨n, h1, x, h3, h4⟩, h2⟩
  · rcases closed20_l1 hr D held hu with ⟨k1, k2⟩ | ⟨k1, k2⟩
    · rw [h2, k2, LR.on_go, LR.on_go]
    · exact absurd (fun h hh ⟨n, q1, q2⟩ => h1 n q1 h ((hk n h).2 ⟨hh, q2⟩)) k1
  · rcases closed20_l1 hr D held hu with ⟨k1, k2⟩ | ⟨k1, k2⟩
    · exact absurd (k1 x ((hk n x).1 h3).1 ⟨n, h1, ((hk n x).1 h3).2⟩) h4
    · rw [h2, k2, LR.on_ret, LR.on_ret]
theorem sameH_l1 (a : List Hd) : ∀ (xs : List Hd) (k : Nat), a.drop k = xs → windroseref20_sameHeld_l1 a xs k () = .go ()
  | [], _, _ => rfl
  | y :: ys, k, h => by
    rw [windroseref20_sameHeld_l1]
    have e : a[k]? = some y := by rw [← List.head?_drop, h]; rfl
    rw [List.getD_eq_getElem?_getD, e, if_neg (fun q => q rfl)]
    exact sameH_l1 a ys (k + 1) (by rw [← List.drop_drop, h]; rfl)
theorem sameH_refl (a : List Hd) : windroseref20_sameHeld_m a a = true := by
  unfold windroseref20_sameHeld_m
  rw [if_neg (fun q => q rfl), sameH_l1 a a 0 rfl, LR.on_go]
theorem sameP_l1 (a : (List Int) × (List Hd) × (List Hd)) : ∀ (xs : List Int) (k : Nat), a.1.drop k = xs → windroseref20_Same_l1 a xs k () = .go ()
  | [], _, _ => rfl
  | y :: ys, k, h => by
    rw [windroseref20_Same_l1]
    have e : a.1[k]? = some y := by rw [← List.head?_drop, h]; rfl
    rw [List.getD_eq_getElem?_getD, e, if_neg (fun q => q rfl)]
    exact sameP_l1 a ys (k + 1) (by rw [← List.drop_drop, h]; rfl)
theorem sameP_refl (a : (List Int) × (List Hd) × (List Hd)) : windroseref20_Same_m a a = true := by
  unfold windroseref20_Same_m
  rw [if_neg (fun q => q rfl), sameP_l1 a a.1 0 rfl, LR.on_go, sameH_refl, if_pos rfl, sameH_refl]
end Go.SX

set_option linter.unusedVariables false
set_option linter.unusedSimpArgs false
namespace Go.SX
open Go Go.Proofs

def plan_Dies_m (a0 : List (Int × (Bool × Bool × Int × Int × Int))) (a1 : List (Int × Int)) (a2 : List Int) : (List Int) × Int :=
  LR.seq (plan_Of_m a0 a1 a2) (fun r14 => if r14.2 ≠ 0 then (([], r14.2)) else (if (0 : Int) < (r14.1.2.2.length : Int) then (([], 301)) else ((r14.1.1, 0))))
set_option maxHeartbeats 3200000 in
theorem plan_Dies_c (H : Heap) {tG0 : TypeId} (hG0 : H 0 = some (.cells #[.int .i64 1, .bool true, .bool true, .int .i64 0, .int .i64 1, .int .i64 2, .int .i64 2, .bool true, .bool false, .int .i64 0, .int .i64 0, .int .i64 2] tG0)) (va0 : Value) (a0 : List (Int × (Bool × Bool × Int × Int × Int))) (ha0 : RdS relationE H va0 a0) (va1 : Value) (a1 : List (Int × Int)) (ha1 : RdS heldE H va1 a1) (va2 : Value) (a2 : List Int) (ha2 : RdS (intE .i64) H va2 a2) (hl : a0.length ≤ 2000000) (hh : a1.length ≤ 100) (hf : a2.length ≤ 100) : Fp Tryz.prog (fnv 11) [va0, va1, va2] H (fun v' H' => ∃ u0_0, v' = .tuple #[u0_0, .int .i64 (plan_Dies_m a0 a1 a2).2] ∧ RdS (intE .i64) H' u0_0 (plan_Dies_m a0 a1 a2).1) := by
  refine Fc.of_body (N := 28) Tryz.func11 rfl (by kernel_rfl) rfl rfl ?_
  intro w0
  obtain ⟨Aa0, ca0, rfl, hca0, hda0, ha0⟩ := ha0.shape
  obtain ⟨Aa1, ca1, rfl, hca1, hda1, ha1⟩ := ha1.shape
  obtain ⟨Aa2, ca2, rfl, hca2, hda2, ha2⟩ := ha2.shape
  refine T.seq ?_
  refine T.region ?_
  refine R.asE rfl (by conv => lhs; whnf) ?_
  refine R.asE rfl (by conv => lhs; whnf) ?_
  refine TL.nil (Post.thnN ?_)
  refine T.seq ?_
  refine T.region ?_
  refine R.mvE rfl (by conv => lhs; whnf) ?_
  refine R.mvE rfl (by conv => lhs; whnf) ?_
  refine R.mvE rfl (by conv => lhs; whnf) ?_
  obtain ⟨r14, er14⟩ : ∃ r, r = (plan_Of_m a0 a1 a2) := ⟨_, rfl⟩
  refine TL.call [] rfl rfl rfl (plan_Of_c _ hG0 _ a0 ha0 _ a1 ha1 _ a2 ha2 (by first | omega | (simp; done) | (simp; omega) | (simp at *; omega)) (by first | omega | (simp; done) | (simp; omega) | (simp at *; omega)) (by first | omega | (simp; done) | (simp; omega) | (simp at *; omega))) ?_
  intro v14 H14 L14 s14 q14
  rw [← er14] at q14
  obtain ⟨u14_0_0, u14_0_1, u14_0_2, c14_0_0, c14_0_1, c14_0_2, rfl, rfl, w14_0_0, w14_0_1, w14_0_2⟩ := q14
  obtain ⟨A14_0_0, p14_0_0, rfl, m14_0_0, n14_0_0⟩ := OwnS.shape w14_0_0
  obtain ⟨A14_0_1, p14_0_1, rfl, m14_0_1, n14_0_1⟩ := OwnS.shape w14_0_1
  obtain ⟨A14_0_2, p14_0_2, rfl, m14_0_2, n14_0_2⟩ := OwnS.shape w14_0_2
  have to14 := of_len _ _ _ _ er14 (by first | omega | (simp; done) | (simp; omega) | (simp at *; omega)) (by first | omega | (simp; done) | (simp; omega) | (simp at *; omega))
  refine R.mvE rfl (by conv => lhs; whnf) ?_
  refine R.ext rfl rfl rfl ?_
  refine R.ext rfl rfl rfl ?_
  refine R.alloc Tryz.zeroValue33 rfl ?_
  intro b8
  refine R.stX (old := [.slice none 0 0, .slice none 0 0, .slice none 0 0]) (l := [.slice A14_0_0 r14.1.1.length p14_0_0, .slice A14_0_1 r14.1.2.1.length p14_0_1, .slice A14_0_2 r14.1.2.2.length p14_0_2]) (new := [.slice A14_0_0 r14.1.1.length p14_0_0, .slice A14_0_1 r14.1.2.1.length p14_0_1, .slice A14_0_2 r14.1.2.2.length p14_0_2]) (et := 33) Tryz.sizeOf33 rfl rfl rfl rfl rfl (by show 0 + 3 ≤ 3; decide) rfl (all_one rfl) .hd ?_
  refine R.asE rfl (by conv => lhs; whnf) ?_
  refine TL.shut (.tl .hd) ?_
  intro HF14_0_0_1 sF14_0_0_1 qF14_0_0_1
  have fF14_0_0_1 := OwnS.read w14_0_0 sF14_0_0_1 qF14_0_0_1
  refine TL.shut (.tl .hd) ?_
  intro HF14_0_1_2 sF14_0_1_2 qF14_0_1_2
  have fF14_0_1_2 := OwnS.read (OwnS.mono w14_0_1 sF14_0_0_1) sF14_0_1_2 qF14_0_1_2
  refine TL.shut (.tl .hd) ?_
  intro HF14_0_2_3 sF14_0_2_3 qF14_0_2_3
  have fF14_0_2_3 := OwnS.read (OwnS.mono w14_0_2 (sF14_0_0_1.trans sF14_0_1_2)) sF14_0_2_3 qF14_0_2_3
  refine TL.shut .hd ?_
  intro Hb8_4 sb8_4 qb8_4
  have hb8_4 : Hb8_4 b8 = some (.cells #[.slice A14_0_0 r14.1.1.length p14_0_0, .slice A14_0_1 r14.1.2.1.length p14_0_1, .slice A14_0_2 r14.1.2.2.length p14_0_2] 33) := shut1 qb8_4
  refine TL.nil (Post.thnN ?_)
  refine T.seq ?_
  refine T.block ?_
  refine T.seq ?_
  refine T.region ?_
  refine R.mvE rfl (by conv => lhs; whnf) ?_
  refine R.neq rfl rfl rfl ?_
  refine R.asE rfl (by conv => lhs; whnf) ?_
  refine TL.nil (Post.thnN ?_)
  refine T.condD rfl (fun c17 => ?_) (fun c17 => ?_)
  · refine T.set 17 (.bool true) (congrArg Value.bool (decide_eq_true c17)) ?_
    refine T.seq ?_
    refine T.region ?_
    refine R.mvE rfl (by conv => lhs; whnf) ?_
    refine R.asE rfl (by conv => lhs; whnf) ?_
    refine R.asE rfl (by conv => lhs; whnf) ?_
    refine TL.nil (Post.thnN ?_)
    refine T.has Has.nil ?_
    refine T.ret (Post.blkR (Post.thnR ?_))
    have hM : plan_Dies_m a0 a1 a2 = ([], r14.2) := by subst er14; rw [plan_Dies_m, LR.seq_go, if_pos c17]
    exact fin2L (v := .slice none 0 0) (v' := .int .i64 (r14.2)) [] rfl rfl rfl (List.Sublist.refl _) ⟨rfl, .slice none 0 0, by first | rw [hM] | rfl, by rw [hM]; exact RdS.nil⟩
  · refine T.set 17 (.bool false) (congrArg Value.bool (decide_eq_false c17)) ?_
    refine T.seq ?_
    refine T.region ?_
    refine R.fldA Tryz.underlying33 rfl Tryz.sizeOf23 (by decide) rfl rfl ?_
    refine R.ldH Tryz.isAgg23 rfl rfl hb8_4 rfl ?_
    refine R.len Tryz.underlying23 rfl rfl ?_
    refine R.gtr rfl rfl rfl ?_
    refine R.asE rfl (by conv => lhs; whnf) ?_
    refine TL.nil (Post.thnN ?_)
    refine T.condD rfl (fun c21 => ?_) (fun c21 => ?_)
    · refine T.set 21 (.bool true) (congrArg Value.bool (decide_eq_true c21)) ?_
      refine T.seq ?_
      refine T.region ?_
      refine R.asE rfl (by conv => lhs; whnf) ?_
      refine R.asE rfl (by conv => lhs; whnf) ?_
      refine TL.nil (Post.thnN ?_)
      refine T.has Has.nil ?_
      refine T.ret (Post.blkR (Post.thnR ?_))
      have hM : plan_Dies_m a0 a1 a2 = ([], 301) := by subst er14; rw [plan_Dies_m, LR.seq_go, if_neg c17, if_pos c21]
      exact fin2L (v := .slice none 0 0) (v' := .int .i64 301) [] rfl rfl rfl (List.Sublist.refl _) ⟨rfl, .slice none 0 0, by first | rw [hM] | rfl, by rw [hM]; exact RdS.nil⟩
    · refine T.set 21 (.bool false) (congrArg Value.bool (decide_eq_false c21)) ?_
      refine T.skip (Post.blkN ?_)
      refine id (Post.thnN ?_)
      refine T.seq ?_
      refine T.region ?_
      refine R.fldA Tryz.underlying33 rfl Tryz.sizeOf30 (by decide) rfl rfl ?_
      refine R.ldH Tryz.isAgg30 rfl rfl hb8_4 rfl ?_
      refine R.asE rfl (by conv => lhs; whnf) ?_
      refine R.asE rfl (by conv => lhs; whnf) ?_
      refine TL.nil (Post.thnN ?_)
      refine T.has Has.nil ?_
      refine T.ret ?_
      have hM : plan_Dies_m a0 a1 a2 = (r14.1.1, 0) := by subst er14; rw [plan_Dies_m, LR.seq_go, if_neg c17, if_neg c21]
      exact fin2L (v := .slice A14_0_0 r14.1.1.length p14_0_0) (v' := .int .i64 0) [] rfl rfl rfl (List.Sublist.refl _) ⟨rfl, .slice A14_0_0 r14.1.1.length p14_0_0, by first | rw [hM] | rfl, by rw [hM]; exact (fF14_0_0_1.mono (sF14_0_1_2.trans (sF14_0_2_3.trans sb8_4)))⟩

def windroseref20_Index_m (a0 : Int) : Bool :=
  if (1 : Int) ≤ a0 then ((decide (a0 ≤ 1048578))) else false
set_option maxHeartbeats 3200000 in
theorem windroseref20_Index_c (H : Heap) (a0 : Int) : Fv Tryz.prog (fnv 49) [.int .i64 a0] H (.bool (windroseref20_Index_m a0)) := by
  refine Fc.of_body (N := 9) Tryz.func49 rfl (by kernel_rfl) rfl rfl ?_
  intro w0
  refine T.seq ?_
  refine T.region ?_
  refine R.asE rfl (by conv => lhs; whnf) ?_
  refine TL.nil (Post.thnN ?_)
  refine T.seq ?_
  refine T.region ?_
  refine R.mvE rfl (by conv => lhs; whnf) ?_
  refine R.geq rfl rfl rfl ?_
  refine R.mvE rfl (by conv => lhs; whnf) ?_
  refine TL.gsplitD 5 rfl (fun g5 => ?_) (fun g5 => ?_)
  · refine R.mvE rfl (by conv => lhs; whnf) ?_
    refine R.leq rfl rfl rfl ?_
    refine R.pkTE rfl rfl (by conv => lhs; whnf) ?_
    refine R.asE rfl (by conv => lhs; whnf) ?_
    refine TL.nil (Post.thnN ?_)
    refine T.has Has.nil ?_
    refine T.ret ?_
    have hM : windroseref20_Index_m a0 = (decide (a0 ≤ 1048578)) := by rw [windroseref20_Index_m, if_pos g5]
    exact fin1L (v := .bool (decide (a0 ≤ 1048578))) [] rfl rfl (List.Sublist.refl _) ⟨rfl, by first | rw [hM] | rfl⟩
  · refine TL.off rfl rfl rfl ?_
    refine TL.off rfl rfl rfl ?_
    refine R.pkFE rfl rfl (by conv => lhs; whnf) ?_
    refine R.asE rfl (by conv => lhs; whnf) ?_
    refine TL.nil (Post.thnN ?_)
    refine T.has Has.nil ?_
    refine T.ret ?_
    have hM : windroseref20_Index_m a0 = false := by rw [windroseref20_Index_m, if_neg g5]
    exact fin1L (v := .bool false) [] rfl rfl (List.Sublist.refl _) ⟨rfl, by first | rw [hM] | rfl⟩

def windroselaw20_index_m (a0 : Int) : Bool :=
  (windroseref20_Index_m a0)
set_option maxHeartbeats 3200000 in
theorem windroselaw20_index_c (H : Heap) (a0 : Int) : Fv Tryz.prog (fnv 15) [.int .i64 a0] H (.bool (windroselaw20_index_m a0)) := by
  refine Fc.of_body (N := 5) Tryz.func15 rfl (by kernel_rfl) rfl rfl ?_
  intro w0
  refine T.seq ?_
  refine T.region ?_
  refine R.asE rfl (by conv => lhs; whnf) ?_
  refine TL.nil (Post.thnN ?_)
  refine T.seq ?_
  refine T.region ?_
  refine R.mvE rfl (by conv => lhs; whnf) ?_
  refine R.callv rfl rfl rfl (windroseref20_Index_c _ (a0)) ?_
  refine R.asE rfl (by conv => lhs; whnf) ?_
  refine TL.nil (Post.thnN ?_)
  refine T.has Has.nil ?_
  refine T.ret ?_
  have hM : windroselaw20_index_m a0 = (windroseref20_Index_m a0) := by rw [windroselaw20_index_m]
  exact fin1L (v := .bool ((windroseref20_Index_m a0))) [] rfl rfl (List.Sublist.refl _) ⟨rfl, by first | rw [hM] | rfl⟩

def windroselaw20_PlanOf_1_m (a0 : Int) : Bool :=
  (!(windroselaw20_index_m a0))
set_option maxHeartbeats 3200000 in
theorem windroselaw20_PlanOf_1_c (H : Heap) (a0 : Int) : Fv Tryz.prog (fnv 14) [.int .i64 a0] H (.bool (windroselaw20_PlanOf_1_m a0)) := by
  refine Fc.of_body (N := 6) Tryz.func14 rfl (by kernel_rfl) rfl rfl ?_
  intro w0
  refine T.seq ?_
  refine T.region ?_
  refine R.asE rfl (by conv => lhs; whnf) ?_
  refine TL.nil (Post.thnN ?_)
  refine T.seq ?_
  refine T.region ?_
  refine R.mvE rfl (by conv => lhs; whnf) ?_
  refine R.callv rfl rfl rfl (windroselaw20_index_c _ (a0)) ?_
  refine R.not rfl rfl ?_
  refine R.asE rfl (by conv => lhs; whnf) ?_
  refine TL.nil (Post.thnN ?_)
  refine T.has Has.nil ?_
  refine T.ret ?_
  have hM : windroselaw20_PlanOf_1_m a0 = (!(windroselaw20_index_m a0)) := by rw [windroselaw20_PlanOf_1_m]
  exact fin1L (v := .bool ((!(windroselaw20_index_m a0)))) [] rfl rfl (List.Sublist.refl _) ⟨rfl, by first | rw [hM] | rfl⟩

def windroselaw20_PlanOf_l5  : Nat → Nat → ((List Int) × (List (Int × Int)) × (List (Int × Int))) → (List Int) × (List (Int × Int)) × (List (Int × Int))
  | 0, kl5, sl5 => (sl5.1, sl5.2.1, sl5.2.2)
  | ml5 + 1, kl5, sl5 => windroselaw20_PlanOf_l5 ml5 (kl5 + 1) ((sl5.1, (sl5.2.1.set kl5 (((0, (sl5.2.1.getD kl5 (((0, 0) : Int × Int) : Int × Int)).2) : Int × Int))), sl5.2.2))
def windroselaw20_PlanOf_l2 (r32 : (List (Int × (Bool × Bool × Int × Int × Int))) × (List (Int × Int))) : List (List Int) → Nat → Unit → LR (LR (Bool) (Unit)) (Unit)
  | [], kl2, sl2 => .go ()
  | yl2 :: ysl2, kl2, sl2 => if (kl2 : Int) = 4 then (.go ()) else (LR.seq (windroselaw20_few_m yl2) (fun r53 => LR.seq (plan_Of_m r32.1 r32.2 r53) (fun r58 => LR.seq (plan_Closed_m r32.1 r32.2 r53) (fun r65 => LR.seq (plan_Dies_m r32.1 r32.2 r53) (fun r72 => LR.seq (if ((windroseref20_Check_m r32.1 r32.2) : Int) = 0 then (LR.seq (slices_ContainsFunc_int_m r53 ((fun z0 => windroselaw20_PlanOf_1_m z0))) (fun r84 => if r84 = true then (([], (windroseref20_Closed_m r32.1 r32.2 r53), 2, 2, [], [], [])) else (LR.seq (windroseref20_Of_m r32.1 r32.2 r53) (fun r88 => if (0 : Int) < (r88.2.2.length : Int) then (([], (windroseref20_Closed_m r32.1 r32.2 r53), (windroseref20_Check_m r32.1 r32.2), 301, r88.1, r88.2.1, r88.2.2)) else ((r88.1, (windroseref20_Closed_m r32.1 r32.2 r53), (windroseref20_Check_m r32.1 r32.2), (windroseref20_Check_m r32.1 r32.2), r88.1, r88.2.1, r88.2.2)))))) else (([], false, (windroseref20_Check_m r32.1 r32.2), (windroseref20_Check_m r32.1 r32.2), [], [], [])) : (List Int) × Bool × Int × Int × (List Int) × (List (Int × Int)) × (List (Int × Int))) (fun sc3 => LR.seq (if r58.2 ≠ sc3.2.2.1 then true else (if r65.2 ≠ (windroseref20_Check_m r32.1 r32.2) then true else (if r72.2 ≠ sc3.2.2.2.1 then true else (if (r65.1 != sc3.2.1) = true then true else (if ¬ (r72.1 = sc3.1) then true else (if (!(windroseref20_Same_m r58.1 ((sc3.2.2.2.2.1, sc3.2.2.2.2.2.1, sc3.2.2.2.2.2.2)))) = true then true else ((!(plan_Same_m r58.1 r58.1)))))))) : Bool) (fun sc4 => if sc4 = true then (.ret (.ret false)) else (LR.seq (plan_Same_m r58.1 ((sc3.2.2.2.2.1, (sc3.2.2.2.2.2.1 ++ [((0, 0) : Int × Int)]), sc3.2.2.2.2.2.2))) (fun r141 => if r141 = true then (.ret (.ret false)) else (LR.seq (windroselaw20_PlanOf_l5 (r58.1.2.1.length - 0) 0 ((r58.1.1, r58.1.2.1, r58.1.2.2))) (fun ol5 => windroselaw20_PlanOf_l2 r32 ysl2 (kl2 + 1) ())))))))))))
def windroselaw20_PlanOf_m (a0 : List (Int × (Bool × Bool × Int × Int × Int))) (a1 : List (Int × Int)) (a2 : List (List Int)) : Bool :=
  if (!windroselaw20_wakes_m) = true then false else (LR.seq (windroselaw20_own_m a0 a1) (fun r32 => if ((plan_Check_m r32.1 r32.2) : Int) ≠ (windroseref20_Check_m r32.1 r32.2) then false else (LR.on (LR.on (windroselaw20_PlanOf_l2 r32 a2 0 ()) (fun r => r) (fun ol2 => .go ol2) : LR (Bool) (Unit)) (fun r => r) (fun sc1 => LR.seq (windroselaw20_own_m a0 a1) (fun r158 => if r32.1 = r158.1 then ((decide (r32.2 = r158.2))) else false)))))
set_option maxHeartbeats 3200000 in
theorem windroselaw20_PlanOf_c (H : Heap) {tG0 : TypeId} (hG0 : H 0 = some (.cells #[.int .i64 1, .bool true, .bool true, .int .i64 0, .int .i64 1, .int .i64 2, .int .i64 2, .bool true, .bool false, .int .i64 0, .int .i64 0, .int .i64 2] tG0)) (va0 : Value) (a0 : List (Int × (Bool × Bool × Int × Int × Int))) (ha0 : RdS relationE H va0 a0) (va1 : Value) (a1 : List (Int × Int)) (ha1 : RdS heldE H va1 a1) (va2 : Value) (a2 : List (List Int)) (ha2 : RdS (slE (intE .i64)) H va2 a2) : Fv Tryz.prog (fnv 3) [va0, va1, va2] H (.bool (windroselaw20_PlanOf_m a0 a1 a2)) := by
  refine Fc.of_body (N := 169) Tryz.func3 rfl (by kernel_rfl) rfl rfl ?_
  intro w0
  obtain ⟨Aa0, ca0, rfl, hca0, hda0, ha0⟩ := ha0.shape
  obtain ⟨Aa1, ca1, rfl, hca1, hda1, ha1⟩ := ha1.shape
  obtain ⟨Aa2, ca2, rfl, hca2, hda2, ha2⟩ := ha2.shape
  refine T.seq ?_
  refine T.region ?_
  refine R.asE rfl (by conv => lhs; whnf) ?_
  refine TL.nil (Post.thnN ?_)
  refine T.seq ?_
  refine T.seq ?_
  refine T.region ?_
  refine R.callv rfl rfl rfl (windroselaw20_wakes_c _ hG0) ?_
  refine R.not rfl rfl ?_
  refine TL.nil (Post.thnN ?_)
  refine T.cond rfl (fun c28 => ?_) (fun c28 => ?_)
  · refine T.set 28 (.bool true) (congrArg Value.bool c28) ?_
    refine T.seq ?_
    refine T.region ?_
    refine R.asE rfl (by conv => lhs; whnf) ?_
    refine TL.nil (Post.thnN ?_)
    refine T.has Has.nil ?_
    refine T.ret (Post.thnR ?_)
    have hM : windroselaw20_PlanOf_m a0 a1 a2 = false := by rw [windroselaw20_PlanOf_m, if_t c28]
    exact fin1L (v := .bool false) [] rfl rfl (List.Sublist.refl _) ⟨rfl, by first | rw [hM] | rfl⟩
  · refine T.set 28 (.bool false) (congrArg Value.bool c28) ?_
    refine T.skip (Post.thnN ?_)
    refine T.seq ?_
    refine T.region ?_
    refine R.mvE rfl (by conv => lhs; whnf) ?_
    refine R.mvE rfl (by conv => lhs; whnf) ?_
    obtain ⟨r32, er32⟩ : ∃ r, r = (windroselaw20_own_m a0 a1) := ⟨_, rfl⟩
    refine TL.call [] rfl rfl rfl (windroselaw20_own_c _ _ a0 ha0 _ a1 ha1) ?_
    intro v32 H32 L32 s32 q32
    rw [← er32] at q32
    obtain ⟨u32_0_0, u32_1_0, c32_0_0, c32_1_0, rfl, rfl, w32_0_0, w32_1_0⟩ := q32
    obtain ⟨A32_0_0, p32_0_0, rfl, m32_0_0, n32_0_0⟩ := OwnS.shape w32_0_0
    obtain ⟨A32_1_0, p32_1_0, rfl, m32_1_0, n32_1_0⟩ := OwnS.shape w32_1_0
    have tq32 : r32.1.length ≤ 12 ∧ r32.2.length ≤ 16 := by rw [er32]; simp only [windroselaw20_own_m, List.length_take]; omega
    refine R.mvE rfl (by conv => lhs; whnf) ?_
    refine R.ext rfl rfl rfl ?_
    refine R.ext rfl rfl rfl ?_
    refine R.asE rfl (by conv => lhs; whnf) ?_
    refine R.asE rfl (by conv => lhs; whnf) ?_
    refine TL.nil (Post.thnN ?_)
    refine T.seq ?_
    refine T.region ?_
    refine R.mvE rfl (by conv => lhs; whnf) ?_
    refine R.mvE rfl (by conv => lhs; whnf) ?_
    refine TL.shut .hd ?_
    intro HF32_0_0_1 sF32_0_0_1 qF32_0_0_1
    have fF32_0_0_1 := OwnS.read w32_0_0 sF32_0_0_1 qF32_0_0_1
    refine TL.shut .hd ?_
    intro HF32_1_0_2 sF32_1_0_2 qF32_1_0_2
    have fF32_1_0_2 := OwnS.read (OwnS.mono w32_1_0 sF32_0_0_1) sF32_1_0_2 qF32_1_0_2
    refine R.callv rfl rfl rfl (windroseref20_Check_c _ _ r32.1 (fF32_0_0_1.mono sF32_1_0_2) _ r32.2 fF32_1_0_2) ?_
    refine R.asE rfl (by conv => lhs; whnf) ?_
    refine TL.nil (Post.thnN ?_)
    refine T.seq ?_
    refine T.seq ?_
    refine T.region ?_
    refine R.mvE rfl (by conv => lhs; whnf) ?_
    refine R.mvE rfl (by conv => lhs; whnf) ?_
    refine R.callv rfl rfl rfl (plan_Check_c _ ((s32.trans (sF32_0_0_1.trans sF32_1_0_2)) _ _ hG0) _ r32.1 (fF32_0_0_1.mono sF32_1_0_2) _ r32.2 fF32_1_0_2 (by first | omega | (simp; done) | (simp; omega) | (simp at *; omega))) ?_
    refine R.mvE rfl (by conv => lhs; whnf) ?_
    refine R.neq rfl rfl rfl ?_
    refine TL.nil (Post.thnN ?_)
    refine T.condD rfl (fun c42 => ?_) (fun c42 => ?_)
    · refine T.set 42 (.bool true) (congrArg Value.bool (decide_eq_true c42)) ?_
      refine T.seq ?_
      refine T.region ?_
      refine R.asE rfl (by conv => lhs; whnf) ?_
      refine TL.nil (Post.thnN ?_)
      refine T.has Has.nil ?_
      refine T.ret (Post.thnR ?_)
      have hM : windroselaw20_PlanOf_m a0 a1 a2 = false := by subst er32; rw [windroselaw20_PlanOf_m, if_f c28, LR.seq_go, if_pos c42]
      exact fin1L (v := .bool false) [] rfl rfl (List.Sublist.refl _) ⟨rfl, by first | rw [hM] | rfl⟩
    · refine T.set 42 (.bool false) (congrArg Value.bool (decide_eq_false c42)) ?_
      refine T.skip (Post.thnN ?_)
      refine T.seq ?_
      refine T.seq ?_
      refine T.region ?_
      refine R.mvE rfl (by conv => lhs; whnf) ?_
      refine R.len Tryz.underlying24 rfl rfl ?_
      refine R.mvE rfl (by conv => lhs; whnf) ?_
      refine TL.nil (Post.thnN ?_)
      refine T.cutK (ι := Unit) (fun _ H' L' ds' => Has L' [] ∧ (LR.on (windroselaw20_PlanOf_l2 r32 a2 0 ()) (fun r => r) (fun ol2 => .go ol2) : LR (Bool) (Unit)) = .go ()) (fun _ => [(0, .slice Aa0 a0.length ca0), (1, .slice Aa1 a1.length ca1), (7, .slice A32_0_0 r32.1.length p32_0_0), (8, .slice A32_1_0 r32.2.length p32_1_0)]) ?_ ?_
      · refine T.block ?_
        refine T.loop (ι := Nat) (fun kl2 H' L' ds' => kl2 ≤ a2.length ∧ Has L' [] ∧ windroselaw20_PlanOf_l2 r32 (a2.drop kl2) kl2 () = windroselaw20_PlanOf_l2 r32 a2 0 ()) (fun kl2 => [(45, .int .i64 (kl2 : Int)), (0, .slice Aa0 a0.length ca0), (1, .slice Aa1 a1.length ca1), (7, .slice A32_0_0 r32.1.length p32_0_0), (8, .slice A32_1_0 r32.2.length p32_1_0), (9, .int .i64 (windroseref20_Check_m r32.1 r32.2)), (43, .slice Aa2 a2.length ca2), (44, .int .i64 (a2.length : Int))]) (fun kl2 => a2.length - kl2) 0 ?_ ?_ ?_
        · exact ⟨(by omega), Has.nil, (by rfl)⟩
        · exact ⟨rfl, rfl, rfl, rfl, rfl, rfl, rfl, rfl, trivial⟩
        · intro kl2 σ_l2 H_l2 L_l2 ds_l2 s_l2 hI_l2
          obtain ⟨hkl2, hI_l2⟩ := hI_l2
          obtain ⟨hLl2, hQl2⟩ := hI_l2
          refine T.has hLl2 ?_
          refine T.seq ?_
          refine T.region ?_
          refine R.lss rfl rfl rfl ?_
          refine TL.nil (Post.thnN ?_)
          refine T.seq ?_
          refine T.condD rfl (fun c46 => ?_) (fun c46 => ?_)
          · have hltl2 : kl2 < a2.length := by omega
            obtain ⟨yl2, hyl2⟩ := getk (xs := a2) (k := kl2) (by omega)
            refine T.skip (Post.thnN ?_)
            refine T.seq ?_
            refine T.block ?_
            refine T.seq ?_
            refine T.region ?_
            refine R.mvE rfl (by conv => lhs; whnf) ?_
            obtain ⟨b48, o48, i48, k48⟩ := RdS.elem (ha2.mono (s32.trans (sF32_0_0_1.trans (sF32_1_0_2.trans s_l2)))) hyl2
            obtain ⟨l48, g48, k48⟩ := k48
            obtain ⟨z48_0, rfl, r48_0⟩ := g48
            obtain ⟨A48_0, p48_0, rfl, m48_0, n48_0, r48_0⟩ := r48_0.shape
            refine R.ixp Tryz.underlying24 Tryz.sizeOf30 rfl rfl rfl (by omega) i48 ?_
            refine R.ldC Tryz.isAgg30 rfl rfl (k48 0 _ rfl) ?_
            refine R.asE rfl (by conv => lhs; whnf) ?_
            refine R.asE rfl (by conv => lhs; whnf) ?_
            refine TL.nil (Post.thnN ?_)
            refine T.seq ?_
            refine T.seq ?_
            refine T.region ?_
            refine R.mvE rfl (by conv => lhs; whnf) ?_
            refine R.eql rfl rfl rfl ?_
            refine TL.nil (Post.thnN ?_)
            refine T.condD rfl (fun c51 => ?_) (fun c51 => ?_)
            · refine T.set 51 (.bool true) (congrArg Value.bool (decide_eq_true c51)) ?_
              refine T.exit (Post.thnE (Post.blkE rfl (Post.thnE (Post.thnE (Post.blkX ?_)))))
              have hEl2 : windroselaw20_PlanOf_l2 r32 a2 0 () = .go () := (by rw [← hQl2, drop_cons hyl2, windroselaw20_PlanOf_l2]; rw [if_pos c51])
              refine id (Post.thnN ?_)
              exact ⟨(), s_l2, ⟨Has.nil, (by rw [hEl2, LR.on_go])⟩, rfl, rfl, rfl, rfl, trivial⟩
            · refine T.set 51 (.bool false) (congrArg Value.bool (decide_eq_false c51)) ?_
              refine T.skip (Post.thnN ?_)
              refine T.seq ?_
              refine T.region ?_
              refine R.mvE rfl (by conv => lhs; whnf) ?_
              obtain ⟨r53, er53⟩ : ∃ r, r = (windroselaw20_few_m yl2) := ⟨_, rfl⟩
              refine TL.call [] rfl rfl rfl (windroselaw20_few_c _ _ yl2 r48_0) ?_
              intro v53 H53 L53 s53 q53
              rw [← er53] at q53
              obtain ⟨u53_0_0, c53_0_0, rfl, rfl, w53_0_0⟩ := q53
              obtain ⟨A53_0_0, p53_0_0, rfl, m53_0_0, n53_0_0⟩ := OwnS.shape w53_0_0
              have tq53 : r53.length ≤ 6 := by rw [er53]; simp only [windroselaw20_few_m, List.length_take]; omega
              refine R.asE rfl (by conv => lhs; whnf) ?_
              refine TL.nil (Post.thnN ?_)
              refine T.seq ?_
              refine T.region ?_
              refine R.mvE rfl (by conv => lhs; whnf) ?_
              refine R.mvE rfl (by conv => lhs; whnf) ?_
              refine R.mvE rfl (by conv => lhs; whnf) ?_
              refine TL.shut .hd ?_
              intro HF53_0_0_3 sF53_0_0_3 qF53_0_0_3
              have fF53_0_0_3 := OwnS.read w53_0_0 sF53_0_0_3 qF53_0_0_3
              obtain ⟨r58, er58⟩ : ∃ r, r = (plan_Of_m r32.1 r32.2 r53) := ⟨_, rfl⟩
              refine TL.call [] rfl rfl rfl (plan_Of_c _ ((s32.trans (sF32_0_0_1.trans (sF32_1_0_2.trans (s_l2.trans (s53.trans sF53_0_0_3))))) _ _ hG0) _ r32.1 (fF32_0_0_1.mono (sF32_1_0_2.trans (s_l2.trans (s53.trans sF53_0_0_3)))) _ r32.2 (fF32_1_0_2.mono (s_l2.trans (s53.trans sF53_0_0_3))) _ r53 fF53_0_0_3 (by first | omega | (simp; done) | (simp; omega) | (simp at *; omega)) (by first | omega | (simp; done) | (simp; omega) | (simp at *; omega)) (by first | omega | (simp; done) | (simp; omega) | (simp at *; omega))) ?_
              intro v58 H58 L58 s58 q58
              rw [← er58] at q58
              obtain ⟨u58_0_0, u58_0_1, u58_0_2, c58_0_0, c58_0_1, c58_0_2, rfl, rfl, w58_0_0, w58_0_1, w58_0_2⟩ := q58
              obtain ⟨A58_0_0, p58_0_0, rfl, m58_0_0, n58_0_0⟩ := OwnS.shape w58_0_0
              obtain ⟨A58_0_1, p58_0_1, rfl, m58_0_1, n58_0_1⟩ := OwnS.shape w58_0_1
              obtain ⟨A58_0_2, p58_0_2, rfl, m58_0_2, n58_0_2⟩ := OwnS.shape w58_0_2
              have to58 := of_len _ _ _ _ er58 (by first | omega | (simp; done) | (simp; omega) | (simp at *; omega)) (by first | omega | (simp; done) | (simp; omega) | (simp at *; omega))
              refine R.mvE rfl (by conv => lhs; whnf) ?_
              refine R.ext rfl rfl rfl ?_
              refine R.ext rfl rfl rfl ?_
              refine R.alloc Tryz.zeroValue33 rfl ?_
              intro b12
              refine R.stX (old := [.slice none 0 0, .slice none 0 0, .slice none 0 0]) (l := [.slice A58_0_0 r58.1.1.length p58_0_0, .slice A58_0_1 r58.1.2.1.length p58_0_1, .slice A58_0_2 r58.1.2.2.length p58_0_2]) (new := [.slice A58_0_0 r58.1.1.length p58_0_0, .slice A58_0_1 r58.1.2.1.length p58_0_1, .slice A58_0_2 r58.1.2.2.length p58_0_2]) (et := 33) Tryz.sizeOf33 rfl rfl rfl rfl rfl (by show 0 + 3 ≤ 3; decide) rfl (all_one rfl) .hd ?_
              refine R.asE rfl (by conv => lhs; whnf) ?_
              refine TL.nil (Post.thnN ?_)
              refine T.seq ?_
              refine T.region ?_
              refine R.mvE rfl (by conv => lhs; whnf) ?_
              refine R.mvE rfl (by conv => lhs; whnf) ?_
              refine R.mvE rfl (by conv => lhs; whnf) ?_
              obtain ⟨r65, er65⟩ : ∃ r, r = (plan_Closed_m r32.1 r32.2 r53) := ⟨_, rfl⟩
              refine R.callv (v := .tuple #[.bool r65.1, .int .i64 r65.2]) rfl rfl rfl (by rw [er65]; exact plan_Closed_c _ ((s32.trans (sF32_0_0_1.trans (sF32_1_0_2.trans (s_l2.trans (s53.trans (sF53_0_0_3.trans s58)))))) _ _ hG0) _ r32.1 (fF32_0_0_1.mono (sF32_1_0_2.trans (s_l2.trans (s53.trans (sF53_0_0_3.trans s58))))) _ r32.2 (fF32_1_0_2.mono (s_l2.trans (s53.trans (sF53_0_0_3.trans s58)))) _ r53 (fF53_0_0_3.mono s58) (by first | omega | (simp; done) | (simp; omega) | (simp at *; omega)) (by first | omega | (simp; done) | (simp; omega) | (simp at *; omega))) ?_
              refine R.mvE rfl (by conv => lhs; whnf) ?_
              refine R.ext rfl rfl rfl ?_
              refine R.ext rfl rfl rfl ?_
              refine R.asE rfl (by conv => lhs; whnf) ?_
              refine R.asE rfl (by conv => lhs; whnf) ?_
              refine TL.nil (Post.thnN ?_)
              refine T.seq ?_
              refine T.region ?_
              refine R.mvE rfl (by conv => lhs; whnf) ?_
              refine R.mvE rfl (by conv => lhs; whnf) ?_
              refine R.mvE rfl (by conv => lhs; whnf) ?_
              obtain ⟨r72, er72⟩ : ∃ r, r = (plan_Dies_m r32.1 r32.2 r53) := ⟨_, rfl⟩
              refine R.callp rfl rfl rfl (plan_Dies_c _ ((s32.trans (sF32_0_0_1.trans (sF32_1_0_2.trans (s_l2.trans (s53.trans (sF53_0_0_3.trans s58)))))) _ _ hG0) _ r32.1 (fF32_0_0_1.mono (sF32_1_0_2.trans (s_l2.trans (s53.trans (sF53_0_0_3.trans s58))))) _ r32.2 (fF32_1_0_2.mono (s_l2.trans (s53.trans (sF53_0_0_3.trans s58)))) _ r53 (fF53_0_0_3.mono s58) (by first | omega | (simp; done) | (simp; omega) | (simp at *; omega)) (by first | omega | (simp; done) | (simp; omega) | (simp at *; omega)) (by first | omega | (simp; done) | (simp; omega) | (simp at *; omega))) ?_
              intro v72 H72 s72 q72
              rw [← er72] at q72
              obtain ⟨u72_0_0, rfl, w72_0_0⟩ := q72
              obtain ⟨A72_0_0, p72_0_0, rfl, m72_0_0, n72_0_0, w72_0_0⟩ := RdS.shape w72_0_0
              refine R.mvE rfl (by conv => lhs; whnf) ?_
              refine R.ext rfl rfl rfl ?_
              refine R.ext rfl rfl rfl ?_
              refine R.asE rfl (by conv => lhs; whnf) ?_
              refine R.asE rfl (by conv => lhs; whnf) ?_
              refine TL.nil (Post.thnN ?_)
              refine T.seq ?_
              refine T.region ?_
              refine R.alloc Tryz.zeroValue33 rfl ?_
              intro b18
              refine TL.nil (Post.thnN ?_)
              refine T.seq ?_
              refine T.region ?_
              refine R.asE rfl (by conv => lhs; whnf) ?_
              refine TL.nil (Post.thnN ?_)
              refine T.seq ?_
              refine T.region ?_
              refine R.mvE rfl (by conv => lhs; whnf) ?_
              refine R.mvE rfl (by conv => lhs; whnf) ?_
              refine R.asE rfl (by conv => lhs; whnf) ?_
              refine R.asE rfl (by conv => lhs; whnf) ?_
              refine R.asE rfl (by conv => lhs; whnf) ?_
              refine TL.nil (Post.thnN ?_)
              refine T.seq ?_
              refine T.seq ?_
              refine T.region ?_
              refine R.mvE rfl (by conv => lhs; whnf) ?_
              refine R.eql rfl rfl rfl ?_
              refine TL.nil (Post.thnN ?_)
              refine T.cutK (ι := Value × (List Int) × Bool × Int × Int × Value × (List Int) × Value × (List (Int × Int)) × Chunk × Value × (List (Int × Int)) × Chunk) (fun ⟨v19c3, x19c3, b20c3, n21c3, n22c3, vb18c3_0, xb18c3_0, vb18c3_1, xb18c3_1, cb18c3_1, vb18c3_2, xb18c3_2, cb18c3_2⟩ H' L' ds' => Has L' [[(b18, .cells #[vb18c3_0, vb18c3_1, vb18c3_2] 33)], [(b12, .cells #[.slice A58_0_0 r58.1.1.length p58_0_0, .slice A58_0_1 r58.1.2.1.length p58_0_1, .slice A58_0_2 r58.1.2.2.length p58_0_2] 33)], c58_0_0, c58_0_1, c58_0_2, cb18c3_1, cb18c3_2] ∧ RdS (intE .i64) H' v19c3 x19c3 ∧ RdS (intE .i64) H' vb18c3_0 xb18c3_0 ∧ OwnS heldE 50 H' vb18c3_1 xb18c3_1 cb18c3_1 ∧ OwnS heldE 50 H' vb18c3_2 xb18c3_2 cb18c3_2 ∧ xb18c3_1.length ≤ 100 ∧ (if ((windroseref20_Check_m r32.1 r32.2) : Int) = 0 then (LR.seq (slices_ContainsFunc_int_m r53 ((fun z0 => windroselaw20_PlanOf_1_m z0))) (fun r84 => if r84 = true then (([], (windroseref20_Closed_m r32.1 r32.2 r53), 2, 2, [], [], [])) else (LR.seq (windroseref20_Of_m r32.1 r32.2 r53) (fun r88 => if (0 : Int) < (r88.2.2.length : Int) then (([], (windroseref20_Closed_m r32.1 r32.2 r53), (windroseref20_Check_m r32.1 r32.2), 301, r88.1, r88.2.1, r88.2.2)) else ((r88.1, (windroseref20_Closed_m r32.1 r32.2 r53), (windroseref20_Check_m r32.1 r32.2), (windroseref20_Check_m r32.1 r32.2), r88.1, r88.2.1, r88.2.2)))))) else (([], false, (windroseref20_Check_m r32.1 r32.2), (windroseref20_Check_m r32.1 r32.2), [], [], [])) : (List Int) × Bool × Int × Int × (List Int) × (List (Int × Int)) × (List (Int × Int))) = (x19c3, b20c3, n21c3, n22c3, xb18c3_0, xb18c3_1, xb18c3_2)) (fun ⟨v19c3, x19c3, b20c3, n21c3, n22c3, vb18c3_0, xb18c3_0, vb18c3_1, xb18c3_1, cb18c3_1, vb18c3_2, xb18c3_2, cb18c3_2⟩ => [(0, .slice Aa0 a0.length ca0), (1, .slice Aa1 a1.length ca1), (7, .slice A32_0_0 r32.1.length p32_0_0), (8, .slice A32_1_0 r32.2.length p32_1_0), (9, .int .i64 (windroseref20_Check_m r32.1 r32.2)), (12, .pointer (some ⟨b12, 0, none⟩)), (13, .int .i64 (r58.2)), (14, .bool (r65.1)), (15, .int .i64 (r65.2)), (16, .slice A72_0_0 r72.1.length p72_0_0), (17, .int .i64 (r72.2)), (18, .pointer (some ⟨b18, 0, none⟩)), (19, v19c3), (20, .bool (b20c3)), (21, .int .i64 n21c3), (22, .int .i64 n22c3), (43, .slice Aa2 a2.length ca2), (44, .int .i64 (a2.length : Int)), (45, .int .i64 (kl2 : Int))]) ?_ ?_
              · refine T.condD rfl (fun c78 => ?_) (fun c78 => ?_)
                · refine T.set 78 (.bool true) (congrArg Value.bool (decide_eq_true c78)) ?_
                  refine T.seq ?_
                  refine T.region ?_
                  refine R.mvE rfl (by conv => lhs; whnf) ?_
                  refine R.mvE rfl (by conv => lhs; whnf) ?_
                  refine R.mvE rfl (by conv => lhs; whnf) ?_
                  refine R.callv rfl rfl rfl (windroseref20_Closed_c _ _ r32.1 (fF32_0_0_1.mono (sF32_1_0_2.trans (s_l2.trans (s53.trans (sF53_0_0_3.trans (s58.trans s72)))))) _ r32.2 (fF32_1_0_2.mono (s_l2.trans (s53.trans (sF53_0_0_3.trans (s58.trans s72))))) _ r53 (fF53_0_0_3.mono (s58.trans s72))) ?_
                  refine R.asE rfl (by conv => lhs; whnf) ?_
                  refine TL.nil (Post.thnN ?_)
                  refine T.seq ?_
                  refine T.region ?_
                  refine R.mvE rfl (by conv => lhs; whnf) ?_
                  obtain ⟨r84, er84⟩ : ∃ r, r = (slices_ContainsFunc_int_m r53 ((fun z0 => windroselaw20_PlanOf_1_m z0))) := ⟨_, rfl⟩
                  refine R.callv (v := .bool r84) rfl rfl rfl (by rw [er84]; exact slices_ContainsFunc_int_c _ _ r53 (fF53_0_0_3.mono (s58.trans s72)) _ (fun z0 => windroselaw20_PlanOf_1_m z0) (fun H2 h2 z0 => windroselaw20_PlanOf_1_c H2 z0)) ?_
                  refine TL.nil (Post.thnN ?_)
                  refine T.cond rfl (fun c84 => ?_) (fun c84 => ?_)
                  · refine T.set 84 (.bool true) (congrArg Value.bool c84) ?_
                    refine T.region ?_
                    refine R.asE rfl (by conv => lhs; whnf) ?_
                    refine R.asE rfl (by conv => lhs; whnf) ?_
                    refine TL.nil (Post.thnN ?_)
                    exact ⟨(.slice none 0 0, [], (windroseref20_Closed_m r32.1 r32.2 r53), 2, 2, .slice none 0 0, [], .slice none 0 0, [], [], .slice none 0 0, [], []), HLe.refl _, ⟨(Has.cons .hd (Has.cons .hd (Has.cons .hd (Has.cons .hd (Has.cons .hd (Has.none (Has.none Has.nil))))))), RdS.nil, RdS.nil, OwnS.nil, OwnS.nil, (by first | omega | (simp; done) | (simp; omega) | (simp at *; omega)), (by subst er84; rw [if_pos c78, LR.seq_go, if_t c84])⟩, rfl, rfl, rfl, rfl, rfl, rfl, rfl, rfl, rfl, rfl, rfl, rfl, rfl, rfl, rfl, rfl, rfl, rfl, rfl, trivial⟩
                  · refine T.set 84 (.bool false) (congrArg Value.bool c84) ?_
                    refine T.seq ?_
                    refine T.region ?_
                    refine R.mvE rfl (by conv => lhs; whnf) ?_
                    refine R.mvE rfl (by conv => lhs; whnf) ?_
                    refine R.mvE rfl (by conv => lhs; whnf) ?_
                    obtain ⟨r88, er88⟩ : ∃ r, r = (windroseref20_Of_m r32.1 r32.2 r53) := ⟨_, rfl⟩
                    refine TL.call [] rfl rfl rfl (windroseref20_Of_c _ _ r32.1 (fF32_0_0_1.mono (sF32_1_0_2.trans (s_l2.trans (s53.trans (sF53_0_0_3.trans (s58.trans s72)))))) _ r32.2 (fF32_1_0_2.mono (s_l2.trans (s53.trans (sF53_0_0_3.trans (s58.trans s72))))) _ r53 (fF53_0_0_3.mono (s58.trans s72)) (by first | omega | (simp; done) | (simp; omega) | (simp at *; omega)) (by first | omega | (simp; done) | (simp; omega) | (simp at *; omega))) ?_
                    intro v88 H88 L88 s88 q88
                    rw [← er88] at q88
                    obtain ⟨u88_0_0, u88_0_1, u88_0_2, c88_0_1, c88_0_2, rfl, rfl, w88_0_0, w88_0_1, w88_0_2⟩ := q88
                    obtain ⟨A88_0_0, p88_0_0, rfl, m88_0_0, n88_0_0, w88_0_0⟩ := RdS.shape w88_0_0
                    obtain ⟨A88_0_1, p88_0_1, rfl, m88_0_1, n88_0_1⟩ := OwnS.shape w88_0_1
                    obtain ⟨A88_0_2, p88_0_2, rfl, m88_0_2, n88_0_2⟩ := OwnS.shape w88_0_2
                    have tw88 : r88.2.1.length ≤ r32.2.length := by rw [er88]; exact of20_len _ _ _
                    refine R.stX (old := [.slice none 0 0, .slice none 0 0, .slice none 0 0]) (l := [.slice A88_0_0 r88.1.length p88_0_0, .slice A88_0_1 r88.2.1.length p88_0_1, .slice A88_0_2 r88.2.2.length p88_0_2]) (new := [.slice A88_0_0 r88.1.length p88_0_0, .slice A88_0_1 r88.2.1.length p88_0_1, .slice A88_0_2 r88.2.2.length p88_0_2]) (et := 33) Tryz.sizeOf33 rfl rfl rfl rfl rfl (by show 0 + 3 ≤ 3; decide) rfl (all_one rfl) (.tl (.tl .hd)) ?_
                    refine TL.nil (Post.thnN ?_)
                    refine T.seq ?_
                    refine T.region ?_
                    refine R.fldA Tryz.underlying33 rfl Tryz.sizeOf23 (by decide) rfl rfl ?_
                    refine R.ld Tryz.isAgg23 rfl rfl (.tl (.tl .hd)) rfl ?_
                    refine R.len Tryz.underlying23 rfl rfl ?_
                    refine R.gtr rfl rfl rfl ?_
                    refine TL.nil (Post.thnN ?_)
                    refine T.condD rfl (fun c92 => ?_) (fun c92 => ?_)
                    · refine T.set 92 (.bool true) (congrArg Value.bool (decide_eq_true c92)) ?_
                      refine T.region ?_
                      refine R.asE rfl (by conv => lhs; whnf) ?_
                      refine TL.nil (Post.thnN ?_)
                      exact ⟨(.slice none 0 0, [], (windroseref20_Closed_m r32.1 r32.2 r53), (windroseref20_Check_m r32.1 r32.2), 301, .slice A88_0_0 r88.1.length p88_0_0, r88.1, .slice A88_0_1 r88.2.1.length p88_0_1, r88.2.1, c88_0_1, .slice A88_0_2 r88.2.2.length p88_0_2, r88.2.2, c88_0_2), s88, ⟨(Has.cons (.tl (.tl .hd)) (Has.cons (.tl (.tl .hd)) (Has.cons (.tl (.tl .hd)) (Has.cons (.tl (.tl .hd)) (Has.cons (.tl (.tl .hd)) (Has.cons .hd (Has.cons .hd Has.nil))))))), RdS.nil, w88_0_0, w88_0_1, w88_0_2, (by first | omega | (simp; done) | (simp; omega) | (simp at *; omega)), (by subst er88; subst er84; rw [if_pos c78, LR.seq_go, if_f c84, LR.seq_go, if_pos c92])⟩, rfl, rfl, rfl, rfl, rfl, rfl, rfl, rfl, rfl, rfl, rfl, rfl, rfl, rfl, rfl, rfl, rfl, rfl, rfl, trivial⟩
                    · refine T.set 92 (.bool false) (congrArg Value.bool (decide_eq_false c92)) ?_
                      refine T.region ?_
                      refine R.fldA Tryz.underlying33 rfl Tryz.sizeOf30 (by decide) rfl rfl ?_
                      refine R.ld Tryz.isAgg30 rfl rfl (.tl (.tl .hd)) rfl ?_
                      refine R.asE rfl (by conv => lhs; whnf) ?_
                      refine TL.nil (Post.thnN ?_)
                      exact ⟨(.slice A88_0_0 r88.1.length p88_0_0, r88.1, (windroseref20_Closed_m r32.1 r32.2 r53), (windroseref20_Check_m r32.1 r32.2), (windroseref20_Check_m r32.1 r32.2), .slice A88_0_0 r88.1.length p88_0_0, r88.1, .slice A88_0_1 r88.2.1.length p88_0_1, r88.2.1, c88_0_1, .slice A88_0_2 r88.2.2.length p88_0_2, r88.2.2, c88_0_2), s88, ⟨(Has.cons (.tl (.tl .hd)) (Has.cons (.tl (.tl .hd)) (Has.cons (.tl (.tl .hd)) (Has.cons (.tl (.tl .hd)) (Has.cons (.tl (.tl .hd)) (Has.cons .hd (Has.cons .hd Has.nil))))))), w88_0_0, w88_0_0, w88_0_1, w88_0_2, (by first | omega | (simp; done) | (simp; omega) | (simp at *; omega)), (by subst er88; subst er84; rw [if_pos c78, LR.seq_go, if_f c84, LR.seq_go, if_neg c92])⟩, rfl, rfl, rfl, rfl, rfl, rfl, rfl, rfl, rfl, rfl, rfl, rfl, rfl, rfl, rfl, rfl, rfl, rfl, rfl, trivial⟩
                · refine T.set 78 (.bool false) (congrArg Value.bool (decide_eq_false c78)) ?_
                  refine T.skip (Post.thnN ?_)
                  exact ⟨(.slice none 0 0, [], false, (windroseref20_Check_m r32.1 r32.2), (windroseref20_Check_m r32.1 r32.2), .slice none 0 0, [], .slice none 0 0, [], [], .slice none 0 0, [], []), HLe.refl _, ⟨(Has.cons .hd (Has.cons .hd (Has.cons .hd (Has.cons .hd (Has.cons .hd (Has.none (Has.none Has.nil))))))), RdS.nil, RdS.nil, OwnS.nil, OwnS.nil, (by first | omega | (simp; done) | (simp; omega) | (simp at *; omega)), (by rw [if_neg c78])⟩, rfl, rfl, rfl, rfl, rfl, rfl, rfl, rfl, rfl, rfl, rfl, rfl, rfl, rfl, rfl, rfl, rfl, rfl, rfl, trivial⟩
              · intro ⟨v19c3, x19c3, b20c3, n21c3, n22c3, vb18c3_0, xb18c3_0, vb18c3_1, xb18c3_1, cb18c3_1, vb18c3_2, xb18c3_2, cb18c3_2⟩ σ_c3 H_c3 L_c3 ds_c3 s_c3 hI_c3
                obtain ⟨hLc3, w19c3, wb18c3_0, wb18c3_1, wb18c3_2, hBc3_0, hTc3⟩ := hI_c3
                obtain ⟨A19c3, p19c3, rfl, m19c3, n19c3_, w19c3⟩ := RdS.shape w19c3
                obtain ⟨Ab18c3_0, pb18c3_0, rfl, mb18c3_0, nb18c3_0_, wb18c3_0⟩ := RdS.shape wb18c3_0
                obtain ⟨Ab18c3_1, pb18c3_1, rfl, mb18c3_1, nb18c3_1_⟩ := OwnS.shape wb18c3_1
                obtain ⟨Ab18c3_2, pb18c3_2, rfl, mb18c3_2, nb18c3_2_⟩ := OwnS.shape wb18c3_2
                refine T.has hLc3 ?_
                refine T.seq ?_
                refine T.seq ?_
                refine T.shut (.tl (.tl (.tl (.tl (.tl .hd))))) ?_
                intro HFb18c3_1_4 sFb18c3_1_4 qFb18c3_1_4
                have fFb18c3_1_4 := OwnS.read wb18c3_1 sFb18c3_1_4 qFb18c3_1_4
                refine T.shut (.tl (.tl (.tl (.tl (.tl .hd))))) ?_
                intro HFb18c3_2_5 sFb18c3_2_5 qFb18c3_2_5
                have fFb18c3_2_5 := OwnS.read (OwnS.mono wb18c3_2 sFb18c3_1_4) sFb18c3_2_5 qFb18c3_2_5
                refine T.shut (.tl (.tl .hd)) ?_
                intro HF58_0_0_6 sF58_0_0_6 qF58_0_0_6
                have fF58_0_0_6 := OwnS.read (OwnS.mono w58_0_0 (s72.trans (s_c3.trans (sFb18c3_1_4.trans sFb18c3_2_5)))) sF58_0_0_6 qF58_0_0_6
                refine T.shut (.tl (.tl (.tl .hd))) ?_
                intro HF58_0_2_7 sF58_0_2_7 qF58_0_2_7
                have fF58_0_2_7 := OwnS.read (OwnS.mono w58_0_2 (s72.trans (s_c3.trans (sFb18c3_1_4.trans (sFb18c3_2_5.trans sF58_0_0_6))))) sF58_0_2_7 qF58_0_2_7
                refine T.cutK (ι := Bool) (fun b130c4 H' L' ds' => Has L' [[(b18, .cells #[.slice Ab18c3_0 xb18c3_0.length pb18c3_0, .slice Ab18c3_1 xb18c3_1.length pb18c3_1, .slice Ab18c3_2 xb18c3_2.length pb18c3_2] 33)], [(b12, .cells #[.slice A58_0_0 r58.1.1.length p58_0_0, .slice A58_0_1 r58.1.2.1.length p58_0_1, .slice A58_0_2 r58.1.2.2.length p58_0_2] 33)], c58_0_1] ∧ (if r58.2 ≠ n21c3 then true else (if r65.2 ≠ (windroseref20_Check_m r32.1 r32.2) then true else (if r72.2 ≠ n22c3 then true else (if (r65.1 != b20c3) = true then true else (if ¬ (r72.1 = x19c3) then true else (if (!(windroseref20_Same_m r58.1 ((xb18c3_0, xb18c3_1, xb18c3_2)))) = true then true else ((!(plan_Same_m r58.1 r58.1)))))))) : Bool) = b130c4) (fun b130c4 => [(0, .slice Aa0 a0.length ca0), (1, .slice Aa1 a1.length ca1), (7, .slice A32_0_0 r32.1.length p32_0_0), (8, .slice A32_1_0 r32.2.length p32_1_0), (9, .int .i64 (windroseref20_Check_m r32.1 r32.2)), (12, .pointer (some ⟨b12, 0, none⟩)), (18, .pointer (some ⟨b18, 0, none⟩)), (43, .slice Aa2 a2.length ca2), (44, .int .i64 (a2.length : Int)), (45, .int .i64 (kl2 : Int)), (130, .bool (b130c4))]) ?_ ?_
                · refine T.region ?_
                  refine R.mvE rfl (by conv => lhs; whnf) ?_
                  refine R.mvE rfl (by conv => lhs; whnf) ?_
                  refine R.neq rfl rfl rfl ?_
                  refine R.mvE rfl (by conv => lhs; whnf) ?_
                  refine TL.gsplitD 98 rfl (fun g98 => ?_) (fun g98 => ?_)
                  · refine TL.off rfl rfl rfl ?_
                    refine TL.off rfl rfl rfl ?_
                    refine TL.off rfl rfl rfl ?_
                    refine R.pkTE rfl rfl (by conv => lhs; whnf) ?_
                    refine R.mvE rfl (by conv => lhs; whnf) ?_
                    refine TL.off rfl rfl rfl ?_
                    refine TL.off rfl rfl rfl ?_
                    refine TL.off rfl rfl rfl ?_
                    refine R.pkTE rfl rfl (by conv => lhs; whnf) ?_
                    refine R.mvE rfl (by conv => lhs; whnf) ?_
                    refine TL.off rfl rfl rfl ?_
                    refine TL.off rfl rfl rfl ?_
                    refine TL.off rfl rfl rfl ?_
                    refine R.pkTE rfl rfl (by conv => lhs; whnf) ?_
                    refine R.mvE rfl (by conv => lhs; whnf) ?_
                    refine TL.off rfl rfl rfl ?_
                    refine TL.off rfl rfl rfl ?_
                    refine TL.off rfl rfl rfl ?_
                    refine TL.off rfl rfl rfl ?_
                    refine R.pkTE rfl rfl (by conv => lhs; whnf) ?_
                    refine R.mvE rfl (by conv => lhs; whnf) ?_
                    refine TL.off rfl rfl rfl ?_
                    refine TL.off rfl rfl rfl ?_
                    refine TL.off rfl rfl rfl ?_
                    refine TL.off rfl rfl rfl ?_
                    refine R.pkTE rfl rfl (by conv => lhs; whnf) ?_
                    refine R.mvE rfl (by conv => lhs; whnf) ?_
                    refine TL.off rfl rfl rfl ?_
                    refine TL.off rfl rfl rfl ?_
                    refine TL.off rfl rfl rfl ?_
                    refine TL.off rfl rfl rfl ?_
                    refine R.pkTE rfl rfl (by conv => lhs; whnf) ?_
                    refine TL.nil (Post.thnN ?_)
                    exact ⟨true, HLe.refl _, ⟨(Has.cons .hd (Has.cons .hd (Has.cons .hd Has.nil))), (by rw [if_pos g98])⟩, rfl, rfl, rfl, rfl, rfl, rfl, rfl, rfl, rfl, rfl, rfl, trivial⟩
                  · refine R.mvE rfl (by conv => lhs; whnf) ?_
                    refine R.mvE rfl (by conv => lhs; whnf) ?_
                    refine R.neq rfl rfl rfl ?_
                    refine R.pkFE rfl rfl (by conv => lhs; whnf) ?_
                    refine R.mvE rfl (by conv => lhs; whnf) ?_
                    refine TL.gsplitD 103 rfl (fun g103 => ?_) (fun g103 => ?_)
                    · refine TL.off rfl rfl rfl ?_
                      refine TL.off rfl rfl rfl ?_
                      refine TL.off rfl rfl rfl ?_
                      refine R.pkTE rfl rfl (by conv => lhs; whnf) ?_
                      refine R.mvE rfl (by conv => lhs; whnf) ?_
                      refine TL.off rfl rfl rfl ?_
                      refine TL.off rfl rfl rfl ?_
                      refine TL.off rfl rfl rfl ?_
                      refine R.pkTE rfl rfl (by conv => lhs; whnf) ?_
                      refine R.mvE rfl (by conv => lhs; whnf) ?_
                      refine TL.off rfl rfl rfl ?_
                      refine TL.off rfl rfl rfl ?_
                      refine TL.off rfl rfl rfl ?_
                      refine TL.off rfl rfl rfl ?_
                      refine R.pkTE rfl rfl (by conv => lhs; whnf) ?_
                      refine R.mvE rfl (by conv => lhs; whnf) ?_
                      refine TL.off rfl rfl rfl ?_
                      refine TL.off rfl rfl rfl ?_
                      refine TL.off rfl rfl rfl ?_
                      refine TL.off rfl rfl rfl ?_
                      refine R.pkTE rfl rfl (by conv => lhs; whnf) ?_
                      refine R.mvE rfl (by conv => lhs; whnf) ?_
                      refine TL.off rfl rfl rfl ?_
                      refine TL.off rfl rfl rfl ?_
                      refine TL.off rfl rfl rfl ?_
                      refine TL.off rfl rfl rfl ?_
                      refine R.pkTE rfl rfl (by conv => lhs; whnf) ?_
                      refine TL.nil (Post.thnN ?_)
                      exact ⟨true, HLe.refl _, ⟨(Has.cons .hd (Has.cons .hd (Has.cons .hd Has.nil))), (by rw [if_neg g98, if_pos g103])⟩, rfl, rfl, rfl, rfl, rfl, rfl, rfl, rfl, rfl, rfl, rfl, trivial⟩
                    · refine R.mvE rfl (by conv => lhs; whnf) ?_
                      refine R.mvE rfl (by conv => lhs; whnf) ?_
                      refine R.neq rfl rfl rfl ?_
                      refine R.pkFE rfl rfl (by conv => lhs; whnf) ?_
                      refine R.mvE rfl (by conv => lhs; whnf) ?_
                      refine TL.gsplitD 108 rfl (fun g108 => ?_) (fun g108 => ?_)
                      · refine TL.off rfl rfl rfl ?_
                        refine TL.off rfl rfl rfl ?_
                        refine TL.off rfl rfl rfl ?_
                        refine R.pkTE rfl rfl (by conv => lhs; whnf) ?_
                        refine R.mvE rfl (by conv => lhs; whnf) ?_
                        refine TL.off rfl rfl rfl ?_
                        refine TL.off rfl rfl rfl ?_
                        refine TL.off rfl rfl rfl ?_
                        refine TL.off rfl rfl rfl ?_
                        refine R.pkTE rfl rfl (by conv => lhs; whnf) ?_
                        refine R.mvE rfl (by conv => lhs; whnf) ?_
                        refine TL.off rfl rfl rfl ?_
                        refine TL.off rfl rfl rfl ?_
                        refine TL.off rfl rfl rfl ?_
                        refine TL.off rfl rfl rfl ?_
                        refine R.pkTE rfl rfl (by conv => lhs; whnf) ?_
                        refine R.mvE rfl (by conv => lhs; whnf) ?_
                        refine TL.off rfl rfl rfl ?_
                        refine TL.off rfl rfl rfl ?_
                        refine TL.off rfl rfl rfl ?_
                        refine TL.off rfl rfl rfl ?_
                        refine R.pkTE rfl rfl (by conv => lhs; whnf) ?_
                        refine TL.nil (Post.thnN ?_)
                        exact ⟨true, HLe.refl _, ⟨(Has.cons .hd (Has.cons .hd (Has.cons .hd Has.nil))), (by rw [if_neg g98, if_neg g103, if_pos g108])⟩, rfl, rfl, rfl, rfl, rfl, rfl, rfl, rfl, rfl, rfl, rfl, trivial⟩
                      · refine R.mvE rfl (by conv => lhs; whnf) ?_
                        refine R.mvE rfl (by conv => lhs; whnf) ?_
                        refine R.neqB Tryz.underlying4 rfl rfl rfl ?_
                        refine R.pkFE rfl rfl (by conv => lhs; whnf) ?_
                        refine R.mvE rfl (by conv => lhs; whnf) ?_
                        refine TL.gsplit 113 rfl (fun g113 => ?_) (fun g113 => ?_)
                        · refine TL.off rfl rfl rfl ?_
                          refine TL.off rfl rfl rfl ?_
                          refine TL.off rfl rfl rfl ?_
                          refine TL.off rfl rfl rfl ?_
                          refine R.pkTE rfl rfl (by conv => lhs; whnf) ?_
                          refine R.mvE rfl (by conv => lhs; whnf) ?_
                          refine TL.off rfl rfl rfl ?_
                          refine TL.off rfl rfl rfl ?_
                          refine TL.off rfl rfl rfl ?_
                          refine TL.off rfl rfl rfl ?_
                          refine R.pkTE rfl rfl (by conv => lhs; whnf) ?_
                          refine R.mvE rfl (by conv => lhs; whnf) ?_
                          refine TL.off rfl rfl rfl ?_
                          refine TL.off rfl rfl rfl ?_
                          refine TL.off rfl rfl rfl ?_
                          refine TL.off rfl rfl rfl ?_
                          refine R.pkTE rfl rfl (by conv => lhs; whnf) ?_
                          refine TL.nil (Post.thnN ?_)
                          exact ⟨true, HLe.refl _, ⟨(Has.cons .hd (Has.cons .hd (Has.cons .hd Has.nil))), (by rw [if_neg g98, if_neg g103, if_neg g108, if_t g113])⟩, rfl, rfl, rfl, rfl, rfl, rfl, rfl, rfl, rfl, rfl, rfl, trivial⟩
                        · refine R.mvE rfl (by conv => lhs; whnf) ?_
                          refine R.mvE rfl (by conv => lhs; whnf) ?_
                          refine R.callv rfl rfl rfl (slices_Equal_int_d _ _ r72.1 (w72_0_0.mono (s_c3.trans (sFb18c3_1_4.trans (sFb18c3_2_5.trans (sF58_0_0_6.trans sF58_0_2_7))))) _ x19c3 (w19c3.mono (sFb18c3_1_4.trans (sFb18c3_2_5.trans (sF58_0_0_6.trans sF58_0_2_7))))) ?_
                          refine R.notD rfl rfl ?_
                          refine R.pkFE rfl rfl (by conv => lhs; whnf) ?_
                          refine R.mvE rfl (by conv => lhs; whnf) ?_
                          refine TL.gsplitD 119 rfl (fun g119 => ?_) (fun g119 => ?_)
                          · refine TL.off rfl rfl rfl ?_
                            refine TL.off rfl rfl rfl ?_
                            refine TL.off rfl rfl rfl ?_
                            refine TL.off rfl rfl rfl ?_
                            refine R.pkTE rfl rfl (by conv => lhs; whnf) ?_
                            refine R.mvE rfl (by conv => lhs; whnf) ?_
                            refine TL.off rfl rfl rfl ?_
                            refine TL.off rfl rfl rfl ?_
                            refine TL.off rfl rfl rfl ?_
                            refine TL.off rfl rfl rfl ?_
                            refine R.pkTE rfl rfl (by conv => lhs; whnf) ?_
                            refine TL.nil (Post.thnN ?_)
                            exact ⟨true, HLe.refl _, ⟨(Has.cons .hd (Has.cons .hd (Has.cons .hd Has.nil))), (by rw [if_neg g98, if_neg g103, if_neg g108, if_f g113, if_pos g119])⟩, rfl, rfl, rfl, rfl, rfl, rfl, rfl, rfl, rfl, rfl, rfl, trivial⟩
                          · refine R.ldX (cs := [.slice A58_0_0 r58.1.1.length p58_0_0, .slice A58_0_1 r58.1.2.1.length p58_0_1, .slice A58_0_2 r58.1.2.2.length p58_0_2]) (l := [.slice A58_0_0 r58.1.1.length p58_0_0, .slice A58_0_1 r58.1.2.1.length p58_0_1, .slice A58_0_2 r58.1.2.2.length p58_0_2]) Tryz.isAgg33 Tryz.sizeOf33 rfl rfl (.tl .hd) rfl rfl ?_
                            refine R.ldX (cs := [.slice Ab18c3_0 xb18c3_0.length pb18c3_0, .slice Ab18c3_1 xb18c3_1.length pb18c3_1, .slice Ab18c3_2 xb18c3_2.length pb18c3_2]) (l := [.slice Ab18c3_0 xb18c3_0.length pb18c3_0, .slice Ab18c3_1 xb18c3_1.length pb18c3_1, .slice Ab18c3_2 xb18c3_2.length pb18c3_2]) Tryz.isAgg33 Tryz.sizeOf33 rfl rfl .hd rfl rfl ?_
                            refine R.callvB rfl rfl rfl (fun HB122 sB122 qB122 => by have fB122_0 := OwnS.read (OwnS.mono w58_0_1 (s72.trans (s_c3.trans (sFb18c3_1_4.trans (sFb18c3_2_5.trans (sF58_0_0_6.trans sF58_0_2_7)))))) sB122 (In.all (.tl (.tl .hd)) qB122); exact (windroseref20_Same_c _ r58.1 _ (fF58_0_0_6.mono (sF58_0_2_7.trans sB122)) _ fB122_0 _ (fF58_0_2_7.mono sB122) ((xb18c3_0, xb18c3_1, xb18c3_2)) _ (wb18c3_0.mono (sFb18c3_1_4.trans (sFb18c3_2_5.trans (sF58_0_0_6.trans (sF58_0_2_7.trans sB122))))) _ (fFb18c3_1_4.mono (sFb18c3_2_5.trans (sF58_0_0_6.trans (sF58_0_2_7.trans sB122)))) _ (fFb18c3_2_5.mono (sF58_0_0_6.trans (sF58_0_2_7.trans sB122))))) ?_
                            refine R.not rfl rfl ?_
                            refine R.pkFE rfl rfl (by conv => lhs; whnf) ?_
                            refine R.mvE rfl (by conv => lhs; whnf) ?_
                            refine TL.gsplit 125 rfl (fun g125 => ?_) (fun g125 => ?_)
                            · refine TL.off rfl rfl rfl ?_
                              refine TL.off rfl rfl rfl ?_
                              refine TL.off rfl rfl rfl ?_
                              refine TL.off rfl rfl rfl ?_
                              refine R.pkTE rfl rfl (by conv => lhs; whnf) ?_
                              refine TL.nil (Post.thnN ?_)
                              exact ⟨true, HLe.refl _, ⟨(Has.cons .hd (Has.cons .hd (Has.cons .hd Has.nil))), (by rw [if_neg g98, if_neg g103, if_neg g108, if_f g113, if_neg g119, if_t g125])⟩, rfl, rfl, rfl, rfl, rfl, rfl, rfl, rfl, rfl, rfl, rfl, trivial⟩
                            · refine R.ldX (cs := [.slice A58_0_0 r58.1.1.length p58_0_0, .slice A58_0_1 r58.1.2.1.length p58_0_1, .slice A58_0_2 r58.1.2.2.length p58_0_2]) (l := [.slice A58_0_0 r58.1.1.length p58_0_0, .slice A58_0_1 r58.1.2.1.length p58_0_1, .slice A58_0_2 r58.1.2.2.length p58_0_2]) Tryz.isAgg33 Tryz.sizeOf33 rfl rfl (.tl .hd) rfl rfl ?_
                              refine R.ldX (cs := [.slice A58_0_0 r58.1.1.length p58_0_0, .slice A58_0_1 r58.1.2.1.length p58_0_1, .slice A58_0_2 r58.1.2.2.length p58_0_2]) (l := [.slice A58_0_0 r58.1.1.length p58_0_0, .slice A58_0_1 r58.1.2.1.length p58_0_1, .slice A58_0_2 r58.1.2.2.length p58_0_2]) Tryz.isAgg33 Tryz.sizeOf33 rfl rfl (.tl .hd) rfl rfl ?_
                              refine R.callvB rfl rfl rfl (fun HB128 sB128 qB128 => by have fB128_0 := OwnS.read (OwnS.mono w58_0_1 (s72.trans (s_c3.trans (sFb18c3_1_4.trans (sFb18c3_2_5.trans (sF58_0_0_6.trans sF58_0_2_7)))))) sB128 (In.all (.tl (.tl .hd)) qB128); exact (plan_Same_c _ r58.1 _ (fF58_0_0_6.mono (sF58_0_2_7.trans sB128)) _ fB128_0 _ (fF58_0_2_7.mono sB128) r58.1 _ (fF58_0_0_6.mono (sF58_0_2_7.trans sB128)) _ fB128_0 _ (fF58_0_2_7.mono sB128))) ?_
                              refine R.not rfl rfl ?_
                              refine R.pkFE rfl rfl (by conv => lhs; whnf) ?_
                              refine TL.nil (Post.thnN ?_)
                              exact ⟨(!(plan_Same_m r58.1 r58.1)), HLe.refl _, ⟨(Has.cons .hd (Has.cons .hd (Has.cons .hd Has.nil))), (by rw [if_neg g98, if_neg g103, if_neg g108, if_f g113, if_neg g119, if_f g125])⟩, rfl, rfl, rfl, rfl, rfl, rfl, rfl, rfl, rfl, rfl, rfl, trivial⟩
                · intro b130c4 σ_c4 H_c4 L_c4 ds_c4 s_c4 hI_c4
                  obtain ⟨hLc4, hTc4⟩ := hI_c4
                  refine T.has hLc4 ?_
                  refine T.cond rfl (fun c130 => ?_) (fun c130 => ?_)
                  · refine T.set 130 (.bool true) (congrArg Value.bool c130) ?_
                    have hZ130 := hTc4.trans c130
                    try simp only [or_f, or_t, and_f, and_t, decide_eq_true_eq, decide_eq_false_iff_not, Bool.not_eq_true'] at hZ130
                    refine T.seq ?_
                    refine T.region ?_
                    refine R.asE rfl (by conv => lhs; whnf) ?_
                    refine TL.nil (Post.thnN ?_)
                    refine T.has Has.nil ?_
                    refine T.ret (Post.thnR (Post.blkR (Post.thnR (Post.thnR (Post.blkR (Post.thnR ?_))))))
                    have hXl2 : windroselaw20_PlanOf_l2 r32 a2 0 () = .ret (.ret false) := by subst er72; subst er65; subst er58; subst er53; rw [← hQl2, drop_cons hyl2, windroselaw20_PlanOf_l2]; rw [if_neg c51, LR.seq_go, LR.seq_go, LR.seq_go, LR.seq_go, hTc3, LR.seq_go, hTc4, LR.seq_go, if_t c130]
                    have hM : windroselaw20_PlanOf_m a0 a1 a2 = false := by subst er32; rw [windroselaw20_PlanOf_m, if_f c28, LR.seq_go, if_neg c42, hXl2, LR.on_ret, LR.on_ret]
                    exact fin1L (v := .bool false) [] rfl rfl (List.Sublist.refl _) ⟨rfl, by first | rw [hM] | rfl⟩
                  · refine T.set 130 (.bool false) (congrArg Value.bool c130) ?_
                    have hZ130 := hTc4.trans c130
                    try simp only [or_f, or_t, and_f, and_t, decide_eq_true_eq, decide_eq_false_iff_not, Bool.not_eq_true'] at hZ130
                    refine T.skip (Post.thnN ?_)
                    refine T.seq ?_
                    refine T.region ?_
                    refine R.ldX (cs := [.slice Ab18c3_0 xb18c3_0.length pb18c3_0, .slice Ab18c3_1 xb18c3_1.length pb18c3_1, .slice Ab18c3_2 xb18c3_2.length pb18c3_2]) (l := [.slice Ab18c3_0 xb18c3_0.length pb18c3_0, .slice Ab18c3_1 xb18c3_1.length pb18c3_1, .slice Ab18c3_2 xb18c3_2.length pb18c3_2]) Tryz.isAgg33 Tryz.sizeOf33 rfl rfl .hd rfl rfl ?_
                    refine R.alloc Tryz.zeroValue33 rfl ?_
                    intro b23
                    refine R.stX (old := [.slice none 0 0, .slice none 0 0, .slice none 0 0]) (l := [.slice Ab18c3_0 xb18c3_0.length pb18c3_0, .slice Ab18c3_1 xb18c3_1.length pb18c3_1, .slice Ab18c3_2 xb18c3_2.length pb18c3_2]) (new := [.slice Ab18c3_0 xb18c3_0.length pb18c3_0, .slice Ab18c3_1 xb18c3_1.length pb18c3_1, .slice Ab18c3_2 xb18c3_2.length pb18c3_2]) (et := 33) Tryz.sizeOf33 rfl rfl rfl rfl rfl (by show 0 + 3 ≤ 3; decide) rfl (all_one rfl) .hd ?_
                    refine TL.nil (Post.thnN ?_)
                    refine T.seq ?_
                    refine T.region ?_
                    refine R.fldA Tryz.underlying33 rfl Tryz.sizeOf23 (by decide) rfl rfl ?_
                    refine R.ld Tryz.isAgg23 rfl rfl (.tl .hd) rfl ?_
                    refine TL.call [] rfl rfl rfl (clone23_c _ _ xb18c3_1 (fFb18c3_1_4.mono (sFb18c3_2_5.trans (sF58_0_0_6.trans (sF58_0_2_7.trans s_c4)))) (by first | omega | (simp; done) | (simp; omega) | (simp at *; omega))) ?_
                    intro v134 H134 L134 s134 q134
                    obtain ⟨c134, rfl, w134⟩ := q134
                    obtain ⟨x134, e134⟩ : ∃ x, x = xb18c3_1 := ⟨_, rfl⟩
                    rw [← e134] at w134
                    obtain ⟨A134, p134, rfl, m134, n134⟩ := OwnS.shape w134
                    have t134 : x134.length = xb18c3_1.length := by rw [e134]
                    refine R.bld (cs := [.int .i64 0, .int .u64 0]) rfl (fun _ => by kernel_rfl) ?_
                    refine R.bs (e := 50) (cs := [.int .i64 0, .int .u64 0]) rfl (fun _ => by kernel_rfl) ?_
                    intro b136
                    have w136 : OwnS heldE 50 H134 (.slice (some ⟨b136, 0, none⟩) 1 1) [((0, 0) : Int × Int)] [(b136, .cells #[.int .i64 0, .int .u64 0] 50)] := OwnS.lit (xs := [((0, 0) : Int × Int)]) (cellsOf_cons (a := [.int .i64 0, .int .u64 0]) rfl cellsOf_nil) (by show 1 ≤ maxLen; decide)
                    obtain ⟨k137, y137, r137⟩ := Src.ownA w136
                    refine R.app (E := heldE) (e := 50) (xs := x134) (ys := [((0, 0) : Int × Int)]) Tryz_ty23 rfl rfl rfl w134 (.tl .hd) (r137 _ .hd) y137 (by (try simp only [List.length_append, List.length_cons, List.length_nil, List.length_replicate, List.length_take, List.length_drop]); omega) (by (try simp only [List.length_append, List.length_cons, List.length_nil, List.length_replicate, List.length_take, List.length_drop]); omega) ?_
                    intro v137 c137 w137
                    obtain ⟨A137, p137, rfl, m137, n137⟩ := OwnS.shape w137
                    refine TL.del (.tl .hd) ?_
                    refine R.fldA Tryz.underlying33 rfl Tryz.sizeOf23 (by decide) rfl rfl ?_
                    refine R.stX (old := [.slice Ab18c3_0 xb18c3_0.length pb18c3_0, .slice Ab18c3_1 xb18c3_1.length pb18c3_1, .slice Ab18c3_2 xb18c3_2.length pb18c3_2]) (l := [.slice A137 (x134 ++ [((0, 0) : Int × Int)]).length p137]) (new := [.slice Ab18c3_0 xb18c3_0.length pb18c3_0, .slice A137 (x134 ++ [((0, 0) : Int × Int)]).length p137, .slice Ab18c3_2 xb18c3_2.length pb18c3_2]) (et := 33) Tryz.sizeOf23 rfl rfl rfl (cells1 rfl) rfl (by show 1 + 1 ≤ 3; decide) rfl (all_one rfl) (.tl .hd) ?_
                    refine TL.nil (Post.thnN ?_)
                    refine T.seq ?_
                    refine T.seq ?_
                    refine T.region ?_
                    refine R.ldX (cs := [.slice A58_0_0 r58.1.1.length p58_0_0, .slice A58_0_1 r58.1.2.1.length p58_0_1, .slice A58_0_2 r58.1.2.2.length p58_0_2]) (l := [.slice A58_0_0 r58.1.1.length p58_0_0, .slice A58_0_1 r58.1.2.1.length p58_0_1, .slice A58_0_2 r58.1.2.2.length p58_0_2]) Tryz.isAgg33 Tryz.sizeOf33 rfl rfl (.tl (.tl (.tl .hd))) rfl rfl ?_
                    refine R.ldX (cs := [.slice Ab18c3_0 xb18c3_0.length pb18c3_0, .slice A137 (x134 ++ [((0, 0) : Int × Int)]).length p137, .slice Ab18c3_2 xb18c3_2.length pb18c3_2]) (l := [.slice Ab18c3_0 xb18c3_0.length pb18c3_0, .slice A137 (x134 ++ [((0, 0) : Int × Int)]).length p137, .slice Ab18c3_2 xb18c3_2.length pb18c3_2]) Tryz.isAgg33 Tryz.sizeOf33 rfl rfl (.tl .hd) rfl rfl ?_
                    refine TL.shut .hd ?_
                    intro HF137_8 sF137_8 qF137_8
                    have fF137_8 := OwnS.read w137 sF137_8 qF137_8
                    obtain ⟨r141, er141⟩ : ∃ r, r = (plan_Same_m r58.1 ((xb18c3_0, (x134 ++ [((0, 0) : Int × Int)]), xb18c3_2))) := ⟨_, rfl⟩
                    refine R.callvB (v := .bool r141) rfl rfl rfl (fun HB141 sB141 qB141 => by have fB141_0 := OwnS.read (OwnS.mono w58_0_1 (s72.trans (s_c3.trans (sFb18c3_1_4.trans (sFb18c3_2_5.trans (sF58_0_0_6.trans (sF58_0_2_7.trans (s_c4.trans (s134.trans sF137_8))))))))) sB141 (In.all (.tl (.tl (.tl .hd))) qB141); exact (by rw [er141]; exact plan_Same_c _ r58.1 _ (fF58_0_0_6.mono (sF58_0_2_7.trans (s_c4.trans (s134.trans (sF137_8.trans sB141))))) _ fB141_0 _ (fF58_0_2_7.mono (s_c4.trans (s134.trans (sF137_8.trans sB141)))) ((xb18c3_0, (x134 ++ [((0, 0) : Int × Int)]), xb18c3_2)) _ (wb18c3_0.mono (sFb18c3_1_4.trans (sFb18c3_2_5.trans (sF58_0_0_6.trans (sF58_0_2_7.trans (s_c4.trans (s134.trans (sF137_8.trans sB141)))))))) _ (fF137_8.mono sB141) _ (fFb18c3_2_5.mono (sF58_0_0_6.trans (sF58_0_2_7.trans (s_c4.trans (s134.trans (sF137_8.trans sB141)))))))) ?_
                    refine TL.nil (Post.thnN ?_)
                    refine T.cond rfl (fun c141 => ?_) (fun c141 => ?_)
                    · refine T.set 141 (.bool true) (congrArg Value.bool c141) ?_
                      refine T.seq ?_
                      refine T.region ?_
                      refine R.asE rfl (by conv => lhs; whnf) ?_
                      refine TL.nil (Post.thnN ?_)
                      refine T.has Has.nil ?_
                      refine T.ret (Post.thnR (Post.blkR (Post.thnR (Post.thnR (Post.blkR (Post.thnR ?_))))))
                      have hXl2 : windroselaw20_PlanOf_l2 r32 a2 0 () = .ret (.ret false) := by subst er141; subst e134; subst er72; subst er65; subst er58; subst er53; rw [← hQl2, drop_cons hyl2, windroselaw20_PlanOf_l2]; rw [if_neg c51, LR.seq_go, LR.seq_go, LR.seq_go, LR.seq_go, hTc3, LR.seq_go, hTc4, LR.seq_go, if_f c130, LR.seq_go, if_t c141]
                      have hM : windroselaw20_PlanOf_m a0 a1 a2 = false := by subst er32; rw [windroselaw20_PlanOf_m, if_f c28, LR.seq_go, if_neg c42, hXl2, LR.on_ret, LR.on_ret]
                      exact fin1L (v := .bool false) [] rfl rfl (List.Sublist.refl _) ⟨rfl, by first | rw [hM] | rfl⟩
                    · refine T.set 141 (.bool false) (congrArg Value.bool c141) ?_
                      refine T.skip (Post.thnN ?_)
                      refine T.seq ?_
                      refine T.region ?_
                      refine R.fldA Tryz.underlying33 rfl Tryz.sizeOf23 (by decide) rfl rfl ?_
                      refine R.ld Tryz.isAgg23 rfl rfl (.tl (.tl .hd)) rfl ?_
                      refine R.len Tryz.underlying23 rfl rfl ?_
                      refine R.mvE rfl (by conv => lhs; whnf) ?_
                      refine TL.nil (Post.thnN ?_)
                      refine T.block ?_
                      refine T.loop (ι := Nat × Value × (List Int) × Value × (List (Int × Int)) × Chunk × Value × (List (Int × Int))) (fun ⟨kl5, vb12l5_0, xb12l5_0, vb12l5_1, xb12l5_1, cb12l5_1, vb12l5_2, xb12l5_2⟩ H' L' ds' => kl5 ≤ r58.1.2.1.length ∧ Has L' [[(b12, .cells #[vb12l5_0, vb12l5_1, vb12l5_2] 33)], cb12l5_1] ∧ RdS (intE .i64) H' vb12l5_0 xb12l5_0 ∧ OwnS heldE 50 H' vb12l5_1 xb12l5_1 cb12l5_1 ∧ RdS heldE H' vb12l5_2 xb12l5_2 ∧ xb12l5_1.length = r58.1.2.1.length ∧ windroselaw20_PlanOf_l5 (r58.1.2.1.length - kl5) kl5 ((xb12l5_0, xb12l5_1, xb12l5_2)) = windroselaw20_PlanOf_l5 (r58.1.2.1.length - 0) 0 ((r58.1.1, r58.1.2.1, r58.1.2.2))) (fun ⟨kl5, vb12l5_0, xb12l5_0, vb12l5_1, xb12l5_1, cb12l5_1, vb12l5_2, xb12l5_2⟩ => [(145, .int .i64 (kl5 : Int)), (0, .slice Aa0 a0.length ca0), (1, .slice Aa1 a1.length ca1), (7, .slice A32_0_0 r32.1.length p32_0_0), (8, .slice A32_1_0 r32.2.length p32_1_0), (9, .int .i64 (windroseref20_Check_m r32.1 r32.2)), (12, .pointer (some ⟨b12, 0, none⟩)), (43, .slice Aa2 a2.length ca2), (44, .int .i64 (a2.length : Int)), (45, .int .i64 (kl2 : Int)), (144, .int .i64 (r58.1.2.1.length : Int))]) (fun ⟨kl5, vb12l5_0, xb12l5_0, vb12l5_1, xb12l5_1, cb12l5_1, vb12l5_2, xb12l5_2⟩ => r58.1.2.1.length - kl5) (0, .slice A58_0_0 r58.1.1.length p58_0_0, r58.1.1, .slice A58_0_1 r58.1.2.1.length p58_0_1, r58.1.2.1, c58_0_1, .slice A58_0_2 r58.1.2.2.length p58_0_2, r58.1.2.2) ?_ ?_ ?_
                      · exact ⟨(by omega), (Has.cons (.tl (.tl .hd)) (Has.cons (.tl (.tl .hd)) Has.nil)), (fF58_0_0_6.mono (sF58_0_2_7.trans (s_c4.trans (s134.trans sF137_8)))), (OwnS.mono w58_0_1 (s72.trans (s_c3.trans (sFb18c3_1_4.trans (sFb18c3_2_5.trans (sF58_0_0_6.trans (sF58_0_2_7.trans (s_c4.trans (s134.trans sF137_8))))))))), (fF58_0_2_7.mono (s_c4.trans (s134.trans sF137_8))), (by first | omega | (simp; done) | (simp; omega) | (simp at *; omega)), (by rfl)⟩
                      · exact ⟨rfl, rfl, rfl, rfl, rfl, rfl, rfl, rfl, rfl, rfl, rfl, trivial⟩
                      · intro ⟨kl5, vb12l5_0, xb12l5_0, vb12l5_1, xb12l5_1, cb12l5_1, vb12l5_2, xb12l5_2⟩ σ_l5 H_l5 L_l5 ds_l5 s_l5 hI_l5
                        obtain ⟨hkl5, hI_l5⟩ := hI_l5
                        obtain ⟨hLl5, wb12l5_0, wb12l5_1, wb12l5_2, hBl5_0, hQl5⟩ := hI_l5
                        obtain ⟨Ab12l5_0, pb12l5_0, rfl, mb12l5_0, nb12l5_0_, wb12l5_0⟩ := RdS.shape wb12l5_0
                        obtain ⟨Ab12l5_1, pb12l5_1, rfl, mb12l5_1, nb12l5_1_⟩ := OwnS.shape wb12l5_1
                        obtain ⟨Ab12l5_2, pb12l5_2, rfl, mb12l5_2, nb12l5_2_, wb12l5_2⟩ := RdS.shape wb12l5_2
                        refine T.has hLl5 ?_
                        refine T.seq ?_
                        refine T.region ?_
                        refine R.lss rfl rfl rfl ?_
                        refine TL.nil (Post.thnN ?_)
                        refine T.seq ?_
                        refine T.condD rfl (fun c146 => ?_) (fun c146 => ?_)
                        · have hltl5 : kl5 < r58.1.2.1.length := by omega
                          refine T.skip (Post.thnN ?_)
                          refine T.seq ?_
                          refine T.block ?_
                          refine T.seq ?_
                          refine T.region ?_
                          refine R.mvE rfl (by conv => lhs; whnf) ?_
                          refine R.asE rfl (by conv => lhs; whnf) ?_
                          refine TL.nil (Post.thnN ?_)
                          refine T.region ?_
                          refine R.fldA Tryz.underlying33 rfl Tryz.sizeOf23 (by decide) rfl rfl ?_
                          refine R.ld Tryz.isAgg23 rfl rfl .hd rfl ?_
                          refine R.mvE rfl (by conv => lhs; whnf) ?_
                          have hl151 : kl5 < xb12l5_1.length := by first | omega | (simp; done) | (simp; omega) | (simp at *; omega)
                          obtain ⟨y151, e151, h151⟩ : ∃ y, y = (xb12l5_1.getD kl5 (((0, 0) : Int × Int) : Int × Int)) ∧ xb12l5_1[kl5]? = some y := ⟨_, rfl, getD_get (by first | exact hl151 | simpa using hl151 | (rw [(sortI_perm _).length_eq]; exact hl151))⟩
                          obtain ⟨b151, u151, cs151, l151, f151, j151, i151, g151, k151⟩ := OwnS.elem wb12l5_1 h151
                          obtain rfl : l151 = [.int .i64 (y151.1), .int .u64 (y151.2)] := g151
                          refine R.ixp (sz := (heldE).size) Tryz.underlying23 Tryz.sizeOf50 rfl rfl rfl (by first | omega | (simp; done) | (simp; omega) | (simp at *; omega)) i151 ?_
                          refine R.fldA Tryz.underlying50 rfl Tryz.sizeOf3 (by decide) rfl rfl ?_
                          refine R.stEF (E := heldE) (e := 50) (v := (.slice Ab12l5_1 xb12l5_1.length pb12l5_1)) (m := [.int .i64 0]) (o := 0) (y := y151) (y' := ((0, y151.2) : Int × Int)) (j := kl5) Tryz.sizeOf3 rfl wb12l5_1 (.tl .hd) i151 rfl rfl (cells1 rfl) (all_one rfl) h151 (by show 0 + 1 ≤ 2; decide) (fun l hl => by have e0 : l = [.int .i64 (y151.1), .int .u64 (y151.2)] := hl; subst e0; exact rfl) ?_
                          intro cst8 wst8
                          refine TL.nil (Post.blkN ?_)
                          refine id (Post.thnN ?_)
                          refine T.region ?_
                          refine R.addI rfl rfl rfl (by omega) ?_
                          refine R.mvE rfl (by conv => lhs; whnf) ?_
                          refine TL.nil (Post.thnN ?_)
                          exact ⟨(kl5 + 1, .slice Ab12l5_0 xb12l5_0.length pb12l5_0, xb12l5_0, .slice Ab12l5_1 xb12l5_1.length pb12l5_1, (xb12l5_1.set kl5 (((0, y151.2) : Int × Int))), cst8, .slice Ab12l5_2 xb12l5_2.length pb12l5_2, xb12l5_2), s_l5, ⟨(by omega), (Has.cons (.tl .hd) (Has.cons .hd Has.nil)), wb12l5_0, wst8, wb12l5_2, (by first | omega | (simp; done) | (simp; omega) | (simp at *; omega)), (by subst e151; rw [← hQl5, show r58.1.2.1.length - kl5 = (r58.1.2.1.length - (kl5 + 1)) + 1 by omega, windroselaw20_PlanOf_l5])⟩, by show r58.1.2.1.length - (kl5 + 1) < r58.1.2.1.length - kl5; omega, rfl, rfl, rfl, rfl, rfl, rfl, rfl, rfl, rfl, rfl, rfl, trivial⟩
                        · refine T.exit (Post.thnE (Post.thnE (Post.blkX ?_)))
                          have hEl5 : windroselaw20_PlanOf_l5 (r58.1.2.1.length - 0) 0 ((r58.1.1, r58.1.2.1, r58.1.2.2)) = (xb12l5_0, xb12l5_1, xb12l5_2) := (hQl5.symm.trans (by rw [show kl5 = r58.1.2.1.length by omega, Nat.sub_self, windroselaw20_PlanOf_l5]))
                          refine id (Post.blkN ?_)
                          refine id (Post.thnN ?_)
                          refine T.region ?_
                          refine R.addI rfl rfl rfl (by omega) ?_
                          refine R.mvE rfl (by conv => lhs; whnf) ?_
                          refine TL.nil (Post.thnN ?_)
                          exact ⟨kl2 + 1, (s_l2.trans (s53.trans (sF53_0_0_3.trans (s58.trans (s72.trans (s_c3.trans (sFb18c3_1_4.trans (sFb18c3_2_5.trans (sF58_0_0_6.trans (sF58_0_2_7.trans (s_c4.trans (s134.trans (sF137_8.trans s_l5))))))))))))), ⟨(by omega), Has.nil, (by subst er141; subst e134; subst er72; subst er65; subst er58; subst er53; rw [← hQl2, drop_cons hyl2, windroselaw20_PlanOf_l2]; rw [if_neg c51, LR.seq_go, LR.seq_go, LR.seq_go, LR.seq_go, hTc3, LR.seq_go, hTc4, LR.seq_go, if_f c130, LR.seq_go, if_f c141, hEl5, LR.seq_go])⟩, by show a2.length - (kl2 + 1) < a2.length - kl2; omega, rfl, rfl, rfl, rfl, rfl, rfl, rfl, rfl, trivial⟩
          · refine T.exit (Post.thnE (Post.thnE (Post.blkX ?_)))
            have hEl2 : windroselaw20_PlanOf_l2 r32 a2 0 () = .go () := (hQl2.symm.trans (by rw [show kl2 = a2.length by omega, List.drop_length, windroselaw20_PlanOf_l2]))
            refine id (Post.thnN ?_)
            exact ⟨(), s_l2, ⟨Has.nil, (by rw [hEl2, LR.on_go])⟩, rfl, rfl, rfl, rfl, trivial⟩
      · intro _ σ_c1 H_c1 L_c1 ds_c1 s_c1 hI_c1
        obtain ⟨hLc1, hTc1⟩ := hI_c1
        refine T.has hLc1 ?_
        refine T.seq ?_
        refine T.region ?_
        refine R.mvE rfl (by conv => lhs; whnf) ?_
        refine R.mvE rfl (by conv => lhs; whnf) ?_
        obtain ⟨r158, er158⟩ : ∃ r, r = (windroselaw20_own_m a0 a1) := ⟨_, rfl⟩
        refine TL.call [] rfl rfl rfl (windroselaw20_own_c _ _ a0 (ha0.mono (s32.trans (sF32_0_0_1.trans (sF32_1_0_2.trans s_c1)))) _ a1 (ha1.mono (s32.trans (sF32_0_0_1.trans (sF32_1_0_2.trans s_c1))))) ?_
        intro v158 H158 L158 s158 q158
        rw [← er158] at q158
        obtain ⟨u158_0_0, u158_1_0, c158_0_0, c158_1_0, rfl, rfl, w158_0_0, w158_1_0⟩ := q158
        obtain ⟨A158_0_0, p158_0_0, rfl, m158_0_0, n158_0_0⟩ := OwnS.shape w158_0_0
        obtain ⟨A158_1_0, p158_1_0, rfl, m158_1_0, n158_1_0⟩ := OwnS.shape w158_1_0
        have tq158 : r158.1.length ≤ 12 ∧ r158.2.length ≤ 16 := by rw [er158]; simp only [windroselaw20_own_m, List.length_take]; omega
        refine R.mvE rfl (by conv => lhs; whnf) ?_
        refine R.ext rfl rfl rfl ?_
        refine R.ext rfl rfl rfl ?_
        refine R.asE rfl (by conv => lhs; whnf) ?_
        refine R.asE rfl (by conv => lhs; whnf) ?_
        refine TL.nil (Post.thnN ?_)
        refine T.seq ?_
        refine T.region ?_
        refine R.mvE rfl (by conv => lhs; whnf) ?_
        refine R.mvE rfl (by conv => lhs; whnf) ?_
        refine TL.shut .hd ?_
        intro HF158_0_0_9 sF158_0_0_9 qF158_0_0_9
        have fF158_0_0_9 := OwnS.read w158_0_0 sF158_0_0_9 qF158_0_0_9
        refine R.callv rfl rfl rfl (slices_Equal_Relation_d _ _ r32.1 (fF32_0_0_1.mono (sF32_1_0_2.trans (s_c1.trans (s158.trans sF158_0_0_9)))) _ r158.1 fF158_0_0_9) ?_
        refine R.mvE rfl (by conv => lhs; whnf) ?_
        refine TL.gsplitD 164 rfl (fun g164 => ?_) (fun g164 => ?_)
        · refine R.mvE rfl (by conv => lhs; whnf) ?_
          refine R.mvE rfl (by conv => lhs; whnf) ?_
          refine TL.shut .hd ?_
          intro HF158_1_0_10 sF158_1_0_10 qF158_1_0_10
          have fF158_1_0_10 := OwnS.read (OwnS.mono w158_1_0 sF158_0_0_9) sF158_1_0_10 qF158_1_0_10
          refine R.callv rfl rfl rfl (slices_Equal_Held_d _ _ r32.2 (fF32_1_0_2.mono (s_c1.trans (s158.trans (sF158_0_0_9.trans sF158_1_0_10)))) _ r158.2 fF158_1_0_10) ?_
          refine R.pkTE rfl rfl (by conv => lhs; whnf) ?_
          refine R.asE rfl (by conv => lhs; whnf) ?_
          refine TL.nil (Post.thnN ?_)
          refine T.has Has.nil ?_
          refine T.ret ?_
          have hM : windroselaw20_PlanOf_m a0 a1 a2 = (decide (r32.2 = r158.2)) := by subst er158; subst er32; rw [windroselaw20_PlanOf_m, if_f c28, LR.seq_go, if_neg c42, hTc1, LR.on_go, LR.seq_go, if_pos g164]
          exact fin1L (v := .bool (decide (r32.2 = r158.2))) [] rfl rfl (List.Sublist.refl _) ⟨rfl, by first | rw [hM] | rfl⟩
        · refine TL.off rfl rfl rfl ?_
          refine TL.off rfl rfl rfl ?_
          refine TL.off rfl rfl rfl ?_
          refine R.pkFE rfl rfl (by conv => lhs; whnf) ?_
          refine R.asE rfl (by conv => lhs; whnf) ?_
          refine TL.nil (Post.thnN ?_)
          refine T.has Has.nil ?_
          refine T.ret ?_
          have hM : windroselaw20_PlanOf_m a0 a1 a2 = false := by subst er158; subst er32; rw [windroselaw20_PlanOf_m, if_f c28, LR.seq_go, if_neg c42, hTc1, LR.on_go, LR.seq_go, if_neg g164]
          exact fin1L (v := .bool false) [] rfl rfl (List.Sublist.refl _) ⟨rfl, by first | rw [hM] | rfl⟩

end Go.SX

set_option linter.unusedVariables false
set_option linter.unusedSimpArgs false
namespace Go.SX
open Go
theorem lindex_iff (n : Int) : windroselaw20_PlanOf_1_m n = false ↔ idxOk n := by
  unfold windroselaw20_PlanOf_1_m windroselaw20_index_m windroseref20_Index_m
  by_cases h : 1 ≤ n
  · rw [if_pos h, Bool.not_eq_false', decide_eq_true_eq]; exact ⟨fun k => ⟨h, k⟩, fun k => k.2⟩
  · rw [if_neg h]; exact ⟨fun k => (by cases k), fun k => absurd k.1 h⟩
theorem lfirst (first : List Int) : slices_ContainsFunc_int_m first (fun z0 => windroselaw20_PlanOf_1_m z0) = false ↔ ∀ n ∈ first, idxOk n := by
  rw [cf_int, List.any_eq_false]
  exact ⟨fun h n hn => (lindex_iff n).1 (Bool.eq_false_iff.2 (h n hn)), fun h n hn => Bool.eq_false_iff.1 ((lindex_iff n).2 (h n hn))⟩
theorem other_ne (p : (List Int) × (List Hd) × (List Hd)) (x : Hd) : plan_Same_m p (p.1, p.2.1 ++ [x], p.2.2) = false := by
  rw [same20]
  refine decide_eq_false (fun e => ?_)
  have := congrArg (fun q => q.2.1.length) e
  simp at this
theorem pdies_eq (l : List Rl) (held : List Hd) (first : List Int) : plan_Dies_m l held first = (if (plan_Of_m l held first).2 ≠ 0 then ([], (plan_Of_m l held first).2) else if (0 : Int) < ((plan_Of_m l held first).1.2.2.length : Int) then ([], 301) else ((plan_Of_m l held first).1.1, 0)) := by
  unfold plan_Dies_m
  simp only [LR.seq]
theorem pclosed_bad {l : List Rl} {held : List Hd} (D : List Int) (hc : plan_Check_m l held ≠ 0) : plan_Closed_m l held D = (false, plan_Check_m l held) := by
  unfold plan_Closed_m
  rw [if_pos hc]
theorem of_l2 {o : List Rl × List Hd} (hu : ∀ h ∈ o.2, U h.2) (ho : o.2.length ≤ 16) : ∀ (xs : List (List Int)) (k : Nat), windroselaw20_PlanOf_l2 o xs k () = .go ()
  | [], _ => rfl
  | y :: ys, k => by
    rw [windroselaw20_PlanOf_l2]
    by_cases h4 : (k : Int) = 4
    · rw [if_pos h4]
    rw [if_neg h4, LR.seq_go]
    have hw : (windroselaw20_few_m y).length ≤ 6 := by simp only [windroselaw20_few_m, List.length_take]; omega
    generalize windroselaw20_few_m y = first at *
    rw [LR.seq_go, LR.seq_go, LR.seq_go, check20_eq hu, pdies_eq]
    have ih := of_l2 hu ho ys (k + 1)
    by_cases hc : plan_Check_m o.1 o.2 = 0
    rotate_left
    · rw [of_bad hc, pclosed_bad _ hc, if_neg hc]
      simp only [LR.seq]
      rw [if_pos hc]
      simp only [ne_eq, not_true_eq_false, if_false, bne_self_eq_false, Bool.false_eq_true, sameP_refl, same20]
      have h1 := other_ne ([], [], []) (0, 0)
      rw [same20] at h1
      simp only at h1
      simp [ih]
    by_cases hi : ∀ n ∈ first, idxOk n
    rotate_left
    · have hf : slices_ContainsFunc_int_m first (fun z0 => windroselaw20_PlanOf_1_m z0) = true := by
        cases e : slices_ContainsFunc_int_m first (fun z0 => windroselaw20_PlanOf_1_m z0) with
        | true => rfl
        | false => exact absurd ((lfirst first).1 e) hi
      rw [of_arg hc hi, closed20_plan _ hc hu, if_pos hc, hf]
      simp only [LR.seq]
      simp [ih, sameP_refl, same20, hc]
    · have hf := (lfirst first).2 hi
      have hp := of20_plan (first := first) hc hu (by omega) (by omega) hi
      have h2 : (plan_Of_m o.1 o.2 first).2 = 0 := by rw [of_eq hc hi]
      rw [closed20_plan _ hc hu, if_pos hc, hf, hp]
      generalize plan_Of_m o.1 o.2 first = q at *
      obtain ⟨p, e⟩ := q
      simp only at h2
      subst h2
      simp only [LR.seq]
      by_cases h0 : (0 : Int) < (p.2.2.length : Int)
      · simp only [if_pos h0, ne_eq, not_true_eq_false, if_false, hc, bne_self_eq_false, Bool.false_eq_true, sameP_refl, Bool.not_true, other_ne]
        have hs : plan_Same_m p p = true := by rw [same20]; exact decide_eq_true rfl
        simp [ih, hs, hc]
      · simp only [if_neg h0, ne_eq, not_true_eq_false, if_false, hc, bne_self_eq_false, Bool.false_eq_true, sameP_refl, Bool.not_true, other_ne]
        have hs : plan_Same_m p p = true := by rw [same20]; exact decide_eq_true rfl
        simp [ih, hs, hc]
theorem planOf_true (a0 : List Rl) (a1 : List Hd) (a2 : List (List Int)) (hu : ∀ h ∈ a1, U h.2) : windroselaw20_PlanOf_m a0 a1 a2 = true := by
  unfold windroselaw20_PlanOf_m
  rw [wakes20_true, Bool.not_true, if_neg Bool.false_ne_true, LR.seq_go]
  have ho : (windroselaw20_own_m a0 a1).2.length ≤ 16 := by simp only [windroselaw20_own_m, List.length_take]; omega
  have hu' : ∀ h ∈ (windroselaw20_own_m a0 a1).2, U h.2 := fun h hh => hu h (by simp only [windroselaw20_own_m] at hh; exact List.mem_of_mem_take hh)
  rw [check20_eq hu', if_neg (fun k => k rfl), of_l2 hu' ho]
  simp only [LR.on, LR.seq]
  simp
end Go.SX

set_option linter.unusedVariables false
set_option linter.unusedSimpArgs false
namespace Go.SX
open Go Go.ChangeShapes Go.WideShapes Go.ChangeAt Go.RowKit

/-- All that stands in a world's memory can be read. -/
def heapOf (W : World) : Heap := fun b => W.heap[b]?
theorem sat_heapOf (W : World) : Sat (heapOf W) [] W := ⟨fun _ _ h => h, fun p h => (by cases h), List.nodup_nil, fun p h => (by cases h)⟩

/-- A contract of a function that hands back v, at a world. -/
theorem calls_of_Fv {P : Program} {f : FuncId} {fn : Func} {c : Code} {vs : List Value} {v : Value} {W : World} (hf : P.funcs[f]? = some fn) (hb : fn.body = some c) (hname : (fn.name == "runtime.NumGoroutine") = false)
    (h : Fv P (fnv f) vs (heapOf W) v) : Calls P f vs.toArray W fun e W' => e = .returned v ∧ Below W.heap.size W W' := by
  obtain ⟨nx, w1, h1, h2⟩ := h W (sat_heapOf W)
  have he := Go.Proofs.enters_of (P := P) hf hname hb vs.toArray W
  have hrun : Sem.run P (do let d ← Deferred.ofValue (fnv f) vs.toArray; invoke d.target d.args) W = .ok (.enter f vs.toArray) W := by
    simp [Deferred.ofValue, invoke, he]
  rw [hrun] at h1
  injection h1 with h1 h3
  subst h1; subst h3
  refine callsIn_wide.1 (CallsIn.mono h2 ?_)
  rintro e w' ⟨u, H', L', rfl, hst, rfl, rfl⟩
  exact ⟨rfl, hst.chg.os, hst.chg.tape, hst.chg.output, hst.chg.size, fun b hb => hst.chg.same b hb (by simp [keys])⟩

section
variable {H : Type} {enc : TypeId × Value → H} {P : Program}

theorem trodAll_below (hl : laidOutB P = true) {W W' : World} (hb : Below W.heap.size W W') {sp : Nat → Bool} : ∀ {ts : List TypeId} {vs : List Value} {ds : List (DataW H)} {p : List MemPlace},
    (∀ t ∈ ts, P.readableRec t = true ∧ t < P.types.size) → DataW.TrodAll enc P W 0 (fun _ => true) true ts vs ds p → (∀ q ∈ p, q.block < W.heap.size ∧ sp q.block = true) → DataW.TrodAll enc P W' 0 sp true ts vs ds p
  | [], _, _, _, _, h, _ => by
    obtain ⟨rfl, rfl, rfl⟩ := trodAll_nil h
    exact trodAll_mk0
  | t :: ts, _, _, _, ht, h, hp => by
    obtain ⟨v, vs, d, ds, a, b, rfl, rfl, rfl, h1, h2⟩ := trodAll_cons h
    have h3 := WideElems.Trod_stays (sp' := sp) hl (ht t (List.mem_cons_self ..)).1 (ht t (List.mem_cons_self ..)).2 h1 (fun x hx => hb.same (hp x (List.mem_append_left _ hx)).1) (fun x hx => (hp x (List.mem_append_left _ hx)).2)
    exact ⟨a, b, h3, trodAll_below hl hb (fun t' h' => ht t' (List.mem_cons_of_mem _ h')) h2 (fun x hx => hp x (List.mem_append_right _ hx)), rfl⟩

/-- What is asked behind a call that turned nothing of what there was, and says true. -/
theorem post_true {f : Func} {s : ChangeSpec} {fresh handsOn again : Bool} {W W' : World} {args : Array Value} {ds gs : List (DataW H)} {before : List MemPlace} {tb : TypeId} (hl : laidOutB P = true)
    (hW : DataW.Whole enc P f.params.toList s.vars false W args.toList ds gs before) (hvars : s.vars = []) (hpar : ∀ t ∈ f.params.toList, P.readableRec t = true ∧ t < P.types.size)
    (hs : s.fn H (ds ++ gs) = { results := [.lit (.bool true)], args := ds }) (hrt : f.resultTypes = #[tb]) (htb : P.underlying tb = some .bool) (hb : Below W.heap.size W W') :
    s.post enc P f false fresh handsOn again W args (.bool true) W' := by
  have hlt := hW.lt
  have hW0 := hW
  obtain ⟨p, q, hA, hV, rfl, hfz, hnd⟩ := hW
  rw [hvars] at hV
  obtain ⟨rfl, rfl⟩ := trodVars_none hV
  rw [List.append_nil] at hfz hlt
  have hres : ∀ (b : Nat) (sp : Nat → Bool) (hd : Bool), DataW.TrodAll enc P W' b sp hd f.resultTypes.toList ((Value.bool true).resultList f.resultTypes.size) [.lit (.bool true)] [] := by
    intro b sp hd
    rw [hrt]
    exact trodAll_mk1 (shut_bool htb true)
  have hargs : ∀ sp : Nat → Bool, (∀ x ∈ p, sp x.block = true) → DataW.TrodAll enc P W' 0 sp true f.params.toList args.toList ds p := fun sp hsp =>
    trodAll_below hl hb hpar hA (fun x hx => ⟨hlt x hx, hsp x hx⟩)
  have hvr : ∀ sp : Nat → Bool, DataW.TrodVars enc P W' sp s.vars ([] : List (DataW H)) [] := fun sp => by rw [hvars]; rfl
  refine ⟨ds, [], p ++ [], [], p, [], hW0, ?_, ?_, ?_, World.keptBut_mono (fun x hx => ⟨hx, ?_⟩) (hb.frame (· ∈ p ++ [])), fun _ => ?_⟩
  · rw [hs]; exact hres _ _ _
  · rw [hs]; exact hargs _ (fun x hx => by simpa using hlt x hx)
  · rw [hs]; exact hvr _
  · exact Or.inr (by simpa using hx)
  · refine ⟨ok_one hrt rfl (okWide_bool_mk htb true), _, _, ([] ++ p) ++ [], ⟨[] ++ p, [], trodAll_append (hargs _ (fun _ _ => rfl)) (hres _ _ _), hvr _, rfl, ?_, fun h => by cases h⟩, ?_⟩
    · intro b off hp
      have hp' : MemPlace.cell b off ∈ p := by simpa using hp
      have := hb.frozen (p := ⟨b, off, none⟩) (hlt _ hp')
      rw [this]
      exact hfz b off hp'
    · intro x hx _
      simpa using hx

theorem cellAt_heapOf {W : World} {b o : Nat} {v : Value} (h : W.cell? ⟨b, o, none⟩ = some v) : cellAt (heapOf W) b o = some v := by
  unfold World.cell? at h
  unfold cellAt heapOf
  simp only at h
  revert h
  cases hb : W.heap[b]? with
  | none => intro h; simp at h
  | some ob => cases ob <;> intro h <;> simp_all

end
theorem u_of_wf {x : Int} (h : (Lit.int .u64 x).wf = true) : 0 ≤ x ∧ x < 18446744073709551616 := by
  simp [Lit.wf, IntKind.min, IntKind.max, IntKind.signed, IntKind.bits] at h; omega
end Go.SX

set_option linter.unusedVariables false
set_option linter.unusedSimpArgs false
namespace Go.SX
open Go Go.ChangeShapes Go.WideShapes Go.ChangeAt Go.RowKit Go.Deep
/-- What can be read at the type stands as E says. -/
def Opn (P : Program) (t : TypeId) {α : Type} (E : ER α) (Q : α → Prop) : Prop :=
  ∀ (H : Type) (enc : TypeId × Value → H) (W : World) (sp : Nat → Bool) (hd : Bool) (n : Nat) (cs : List Value) (x : DataW H × List MemPlace), DataW.trod enc P W 0 sp hd n t cs = some x → ∃ a, E.R (heapOf W) cs a ∧ Q a
theorem Opn.int {P : Program} {t : TypeId} {k : IntKind} (ht : P.underlying t = some (.int k)) : Opn P t (intE k) (fun x => (Lit.int k x).wf = true) := fun H enc W sp hd n cs x h => by
  obtain ⟨n, rfl, _, hw⟩ := DataW.trod_int ht h
  exact ⟨n, rfl, hw⟩
theorem Opn.bool {P : Program} {t : TypeId} (ht : P.underlying t = some .bool) : Opn P t boolE (fun _ => True) := fun H enc W sp hd n cs x h => by
  obtain ⟨b, rfl, _⟩ := DataW.trod_bool ht h
  exact ⟨b, rfl, trivial⟩
theorem Opn.weak {P : Program} {t : TypeId} {α : Type} {E : ER α} {Q Q' : α → Prop} (h : Opn P t E Q) (hq : ∀ a, Q a → Q' a) : Opn P t E Q' := fun H enc W sp hd n cs x hx => by
  obtain ⟨a, h1, h2⟩ := h H enc W sp hd n cs x hx
  exact ⟨a, h1, hq a h2⟩
/-- A struct of two ints. -/
theorem Opn.pair {P : Program} {t i : TypeId} {f0 f1 : Field} (ht : P.underlying t = some (.struct #[f0, f1])) (ct : P.cellsOf t = 2) (o0 : f0.offset = 0) (o1 : f1.offset = 1) (t0 : f0.type = i) (t1 : f1.type = i)
    (hi : P.underlying i = some (.int .i64)) (ci : P.cellsOf i = 1) : Opn P t pairE (fun _ => True) := fun H enc W sp hd n cs x h => by
  obtain ⟨xs, m, _, _, hl, hxl, hf⟩ := DataW.trod_struct ht h
  rw [ct] at hl
  match cs, hl, xs, hxl with
  | [v0, v1], _, [y0, y1], _ =>
    have g0 := hf 0 f0 rfl
    have g1 := hf 1 f1 rfl
    rw [o0, t0, ci] at g0
    rw [o1, t1, ci] at g1
    simp at g0 g1
    obtain ⟨a, ha, _⟩ := DataW.trod_int hi g0
    obtain ⟨b, hb, _⟩ := DataW.trod_int hi g1
    simp at ha hb
    subst ha; subst hb
    exact ⟨(a, b), rfl, trivial⟩
/-- An array of two ints. -/
theorem Opn.two {P : Program} {t i : TypeId} (ht : P.underlying t = some (.array 2 i)) (ct : P.cellsOf t = 2) (hi : P.underlying i = some (.int .i64)) (ci : P.cellsOf i = 1) : Opn P t pairE (fun _ => True) := fun H enc W sp hd n cs x h => by
  obtain ⟨xs, m, _, _, hl, hxl, hf⟩ := DataW.trod_array ht h
  rw [ct] at hl
  match cs, hl, xs, hxl with
  | [v0, v1], _, [y0, y1], _ =>
    have g0 := hf 0 (by omega)
    have g1 := hf 1 (by omega)
    rw [ci] at g0 g1
    simp at g0 g1
    obtain ⟨a, ha, _⟩ := DataW.trod_int hi g0
    obtain ⟨b, hb, _⟩ := DataW.trod_int hi g1
    simp at ha hb
    subst ha; subst hb
    exact ⟨(a, b), rfl, trivial⟩
/-- A slice. -/
theorem Opn.slice {P : Program} {t e : TypeId} {α : Type} {E : ER α} {Q : α → Prop} (ht : P.underlying t = some (.slice e)) (hc : P.cellsOf e = E.size) (he : Opn P e E Q) (hs : 0 < E.size) : Opn P t (slE E) (fun xs => ∀ x ∈ xs, Q x) := fun H enc W sp hd n cs x h => by
  rcases open_slice ht h with ⟨rfl, _⟩ | ⟨a, len, cap, m, n', D, Pl, rfl, _, hl, hm, hmm, _, hx⟩
  · exact ⟨[], ⟨_, rfl, RdS.nil⟩, fun x hx => by simp at hx⟩
  · have key : ∀ i, i < len → ∃ x, (∃ b o, a = ⟨b, o, none⟩ ∧ ElemAt E (heapOf W) b (o + i * E.size) x) ∧ Q x := fun i hi => by
      obtain ⟨cs', h1, h2⟩ := hx i (by rw [hmm]; split <;> omega)
      obtain ⟨x, h3, h4⟩ := he H enc W sp hd n' cs' _ h2
      refine ⟨x, ?_, h4⟩
      rw [hc] at h1
      obtain ⟨_, hlen, hcell⟩ := World.cells?_some h1
      obtain ⟨ab, ao, asp⟩ := a
      cases asp with
      | none =>
        refine ⟨ab, ao, rfl, cs', h3, fun j u hj => ?_⟩
        have hjl : j < E.size := by rw [← hlen]; exact (List.getElem?_eq_some_iff.1 hj).1
        have h5 := hcell j hjl
        rw [hj, add_add, Addr.add_lit] at h5
        have := cellAt_heapOf h5
        rw [show ao + i * E.size + j = ao + (i * E.size + j) by omega]
        exact this
      | some s =>
        exfalso
        obtain ⟨cs0, k1, _⟩ := hx 0 (by rw [hmm]; split <;> omega)
        rw [hc, Nat.zero_mul, Addr.add_zero'] at k1
        obtain ⟨_, klen, kcell⟩ := World.cells?_some k1
        have h5 := kcell 0 hs
        rw [Addr.add_zero'] at h5
        obtain ⟨u, hu⟩ : ∃ u, cs0[0]? = some u := ⟨cs0[0], List.getElem?_eq_getElem (by omega)⟩
        rw [hu] at h5
        unfold World.cell? at h5
        revert h5
        cases hb : W.heap[ab]? with
        | none => intro h; simp [hb] at h
        | some ob => cases ob <;> intro h <;> simp [hb] at h
    obtain ⟨f, hf⟩ : ∃ f : Nat → Option α, ∀ i, i < len → ∃ x, f i = some x ∧ (∃ b o, a = ⟨b, o, none⟩ ∧ ElemAt E (heapOf W) b (o + i * E.size) x) ∧ Q x := by
      classical
      refine ⟨fun i => if hi : i < len then some (Classical.choose (key i hi)) else none, fun i hi => ?_⟩
      exact ⟨_, dif_pos hi, Classical.choose_spec (key i hi)⟩
    have hxs : ∀ n, n ≤ len → ∃ xs : List α, xs.length = n ∧ ∀ i, i < n → xs[i]? = f i := fun n => by
      induction n with
      | zero => exact fun _ => ⟨[], rfl, fun i hi => absurd hi (Nat.not_lt_zero _)⟩
      | succ n ih =>
        intro hn
        obtain ⟨xs, h1, h2⟩ := ih (by omega)
        obtain ⟨x, h3, _⟩ := hf n (by omega)
        refine ⟨xs ++ [x], by simp [h1], fun i hi => ?_⟩
        by_cases h : i < n
        · rw [List.getElem?_append_left (by omega)]; exact h2 i h
        · obtain rfl : i = n := by omega
          rw [List.getElem?_append_right (by omega), h1, Nat.sub_self, h3]; rfl
    obtain ⟨xs, h1, h2⟩ := hxs len (Nat.le_refl _)
    subst h1
    refine ⟨xs, ⟨_, rfl, some a, cap, rfl, hl, hm, fun i x hx => ?_⟩, fun x hx => ?_⟩
    · have hi : i < xs.length := (List.getElem?_eq_some_iff.1 hx).1
      obtain ⟨y, h3, ⟨b, o, h4, h5⟩, _⟩ := hf i hi
      rw [h2 i hi, h3] at hx
      injection hx with hx
      subst hx
      exact ⟨b, o, by rw [h4], h5⟩
    · obtain ⟨i, hi, rfl⟩ := List.mem_iff_getElem.1 hx
      obtain ⟨y, h3, _, h4⟩ := hf i hi
      have := h2 i hi
      rw [h3, List.getElem?_eq_getElem hi] at this
      injection this with this
      rw [this]; exact h4
section
variable {P : Program} {H : Type} {enc : TypeId × Value → H} {W : World} {r : Reach} {b0 : Nat} {t : TypeId} {v : Value} {d : DataW H} {p : List MemPlace} {α : Type} {E : ER α} {Q : α → Prop}
/-- A slice that is handed in. -/
theorem open_sl {e : TypeId} (ht : P.underlying t = some (.slice e)) (ho : Opn P t (slE E) (fun xs => ∀ x ∈ xs, Q x)) (hval : Value.okWide P W r b0 t v) (h : DataW.Trod enc P W 0 (fun _ => true) true t v d p) :
    ∃ xs : List α, RdS E (heapOf W) v xs ∧ ∀ x ∈ xs, Q x := by
  obtain ⟨a0, len, cap, rfl⟩ := okWide_slice ht hval
  obtain ⟨n, hn⟩ := h
  obtain ⟨xs, ⟨u, h1, h2⟩, h3⟩ := ho H enc W _ _ n _ _ hn
  have : Value.slice a0 len cap = u := by simpa [Value.cells] using h1
  rw [this]
  exact ⟨xs, h2, h3⟩
end
end Go.SX

set_option linter.unusedVariables false
set_option linter.unusedSimpArgs false
namespace Go.SX
open Go Go.ChangeShapes Go.WideShapes Go.ChangeAt Go.RowKit Go.Proofs
def traitsE : ER (Bool × Bool × Int × Int × Int) where
  size := 5
  R := fun _ cs x => cs = [.bool x.1, .bool x.2.1, .int .i64 x.2.2.1, .int .i64 x.2.2.2.1, .int .i64 x.2.2.2.2]
  len := fun h => by subst h; rfl
  mono := fun _ h => h
  one := fun h v hv => by subst h; simp only [List.mem_cons, List.not_mem_nil, or_false] at hv; rcases hv with rfl | rfl | rfl | rfl | rfl <;> rfl

theorem lenN2 {α : Type} {l : List α} (h : l.length = 2) : ∃ v0 v1, l = [v0, v1] := by
  match l, h with
  | [v0, v1], _ => exact ⟨v0, v1, rfl⟩
theorem lenN5 {α : Type} {l : List α} (h : l.length = 5) : ∃ v0 v1 v2 v3 v4, l = [v0, v1, v2, v3, v4] := by
  match l, h with
  | [v0, v1, v2, v3, v4], _ => exact ⟨v0, v1, v2, v3, v4, rfl⟩
theorem lenN6 {α : Type} {l : List α} (h : l.length = 6) : ∃ v0 v1 v2 v3 v4 v5, l = [v0, v1, v2, v3, v4, v5] := by
  match l, h with
  | [v0, v1, v2, v3, v4, v5], _ => exact ⟨v0, v1, v2, v3, v4, v5, rfl⟩
theorem lenN12 {α : Type} {l : List α} (h : l.length = 12) : ∃ v0 v1 v2 v3 v4 v5 v6 v7 v8 v9 v10 v11, l = [v0, v1, v2, v3, v4, v5, v6, v7, v8, v9, v10, v11] := by
  match l, h with
  | [v0, v1, v2, v3, v4, v5, v6, v7, v8, v9, v10, v11], _ => exact ⟨v0, v1, v2, v3, v4, v5, v6, v7, v8, v9, v10, v11, rfl⟩
theorem opn53 : Opn Tryz.prog 53 traitsE (fun x => ((True) ∧ (True) ∧ ((Lit.int .i64 x.2.2.1).wf = true) ∧ ((Lit.int .i64 x.2.2.2.1).wf = true) ∧ ((Lit.int .i64 x.2.2.2.2).wf = true))) := fun H enc W sp hd n cs x h => by
  obtain ⟨xs, m, _, _, hl, hxl, hf⟩ := DataW.trod_struct Tryz.underlying53 h
  rw [show Tryz.prog.cellsOf 53 = 5 by kernel_rfl] at hl
  replace hxl : xs.length = 5 := hxl
  obtain ⟨v0, v1, v2, v3, v4, rfl⟩ := lenN5 hl
  obtain ⟨y0, y1, y2, y3, y4, rfl⟩ := lenN5 hxl
  have g0 : DataW.trod enc Tryz.prog W 0 sp hd m 4 (([v0, v1, v2, v3, v4].drop 0).take (Tryz.prog.cellsOf 4)) = some y0 := hf 0 _ rfl
  rw [show Tryz.prog.cellsOf 4 = 1 by kernel_rfl] at g0
  simp only [List.drop, List.take] at g0
  have g1 : DataW.trod enc Tryz.prog W 0 sp hd m 4 (([v0, v1, v2, v3, v4].drop 1).take (Tryz.prog.cellsOf 4)) = some y1 := hf 1 _ rfl
  rw [show Tryz.prog.cellsOf 4 = 1 by kernel_rfl] at g1
  simp only [List.drop, List.take] at g1
  have g2 : DataW.trod enc Tryz.prog W 0 sp hd m 3 (([v0, v1, v2, v3, v4].drop 2).take (Tryz.prog.cellsOf 3)) = some y2 := hf 2 _ rfl
  rw [show Tryz.prog.cellsOf 3 = 1 by kernel_rfl] at g2
  simp only [List.drop, List.take] at g2
  have g3 : DataW.trod enc Tryz.prog W 0 sp hd m 3 (([v0, v1, v2, v3, v4].drop 3).take (Tryz.prog.cellsOf 3)) = some y3 := hf 3 _ rfl
  rw [show Tryz.prog.cellsOf 3 = 1 by kernel_rfl] at g3
  simp only [List.drop, List.take] at g3
  have g4 : DataW.trod enc Tryz.prog W 0 sp hd m 3 (([v0, v1, v2, v3, v4].drop 4).take (Tryz.prog.cellsOf 3)) = some y4 := hf 4 _ rfl
  rw [show Tryz.prog.cellsOf 3 = 1 by kernel_rfl] at g4
  simp only [List.drop, List.take] at g4
  obtain ⟨x0, h0, _⟩ := DataW.trod_bool Tryz.underlying4 g0
  injection h0 with h0; subst h0
  obtain ⟨x1, h1, _⟩ := DataW.trod_bool Tryz.underlying4 g1
  injection h1 with h1; subst h1
  obtain ⟨x2, h2, _, w2⟩ := DataW.trod_int Tryz.underlying3 g2
  injection h2 with h2; subst h2
  obtain ⟨x3, h3, _, w3⟩ := DataW.trod_int Tryz.underlying3 g3
  injection h3 with h3; subst h3
  obtain ⟨x4, h4, _, w4⟩ := DataW.trod_int Tryz.underlying3 g4
  injection h4 with h4; subst h4
  exact ⟨(x0, x1, x2, x3, x4), rfl, ⟨trivial, trivial, w2, w3, w4⟩⟩
theorem opn55 : Opn Tryz.prog 55 relationE (fun x => (((Lit.int .i64 x.1).wf = true) ∧ (((True) ∧ (True) ∧ ((Lit.int .i64 x.2.2.2.1).wf = true) ∧ ((Lit.int .i64 x.2.2.2.2.1).wf = true) ∧ ((Lit.int .i64 x.2.2.2.2.2).wf = true))))) := fun H enc W sp hd n cs x h => by
  obtain ⟨xs, m, _, _, hl, hxl, hf⟩ := DataW.trod_struct Tryz.underlying55 h
  rw [show Tryz.prog.cellsOf 55 = 6 by kernel_rfl] at hl
  replace hxl : xs.length = 2 := hxl
  obtain ⟨v0, v1, v2, v3, v4, v5, rfl⟩ := lenN6 hl
  obtain ⟨y0, y1, rfl⟩ := lenN2 hxl
  have g0 : DataW.trod enc Tryz.prog W 0 sp hd m 3 (([v0, v1, v2, v3, v4, v5].drop 0).take (Tryz.prog.cellsOf 3)) = some y0 := hf 0 _ rfl
  rw [show Tryz.prog.cellsOf 3 = 1 by kernel_rfl] at g0
  simp only [List.drop, List.take] at g0
  have g1 : DataW.trod enc Tryz.prog W 0 sp hd m 53 (([v0, v1, v2, v3, v4, v5].drop 1).take (Tryz.prog.cellsOf 53)) = some y1 := hf 1 _ rfl
  rw [show Tryz.prog.cellsOf 53 = 5 by kernel_rfl] at g1
  simp only [List.drop, List.take] at g1
  obtain ⟨x0, h0, _, w0⟩ := DataW.trod_int Tryz.underlying3 g0
  injection h0 with h0; subst h0
  obtain ⟨x1, h1, w1⟩ := opn53 H enc W sp hd _ _ _ g1
  obtain ⟨rfl, rfl, rfl, rfl, rfl⟩ : v1 = .bool x1.1 ∧ v2 = .bool x1.2.1 ∧ v3 = .int .i64 x1.2.2.1 ∧ v4 = .int .i64 x1.2.2.2.1 ∧ v5 = .int .i64 x1.2.2.2.2 := by have h := h1; simp only [traitsE] at h; simpa using h
  exact ⟨(x0, x1), rfl, ⟨w0, w1⟩⟩
theorem opn50 : Opn Tryz.prog 50 heldE (fun x => (((Lit.int .i64 x.1).wf = true) ∧ ((Lit.int .u64 x.2).wf = true))) := fun H enc W sp hd n cs x h => by
  obtain ⟨xs, m, _, _, hl, hxl, hf⟩ := DataW.trod_struct Tryz.underlying50 h
  rw [show Tryz.prog.cellsOf 50 = 2 by kernel_rfl] at hl
  replace hxl : xs.length = 2 := hxl
  obtain ⟨v0, v1, rfl⟩ := lenN2 hl
  obtain ⟨y0, y1, rfl⟩ := lenN2 hxl
  have g0 : DataW.trod enc Tryz.prog W 0 sp hd m 3 (([v0, v1].drop 0).take (Tryz.prog.cellsOf 3)) = some y0 := hf 0 _ rfl
  rw [show Tryz.prog.cellsOf 3 = 1 by kernel_rfl] at g0
  simp only [List.drop, List.take] at g0
  have g1 : DataW.trod enc Tryz.prog W 0 sp hd m 48 (([v0, v1].drop 1).take (Tryz.prog.cellsOf 48)) = some y1 := hf 1 _ rfl
  rw [show Tryz.prog.cellsOf 48 = 1 by kernel_rfl] at g1
  simp only [List.drop, List.take] at g1
  obtain ⟨x0, h0, _, w0⟩ := DataW.trod_int Tryz.underlying3 g0
  injection h0 with h0; subst h0
  obtain ⟨x1, h1, _, w1⟩ := DataW.trod_int Tryz.underlying48 g1
  injection h1 with h1; subst h1
  exact ⟨(x0, x1), rfl, ⟨w0, w1⟩⟩

end Go.SX
namespace Go.Proofs.YtmhoclmjgjopfaaGreatDoor
open Go.ChangeShapes Go.WideShapes Go.ChangeAt Go.RowKit Go.SX

theorem planOf_own : ownKnob Tryz.prog.godebug = none := by kernel_rfl
theorem planOf_laid : laidOutB Tryz.prog = true := by kernel_rfl
theorem planOf_met (os : Os) (args : Array Value) : laidMetH Tryz.prog Rows.planOfRow.laid ((World.doorLaid Tryz.prog 400 os).forCall (fun _ _ => 0) ⟨#[], args, []⟩).memory :=
  laidMetH_of_parts3 (fuel := 12) (laidMet_of_run' 12 (by kernel_rfl) (by kernel_rfl)) (by kernel_rfl) (by kernel_rfl)
theorem planOf_dat_0_1 {W : World} {H : Type} {enc : TypeId × Value → H} {sp : Nat → Bool} {hh : Bool} {n : Nat} {cs : List Value} {x : DataW H × List MemPlace} (h : DataW.trod enc Tryz.prog W 0 sp hh n 53 cs = some x) (hd : x.1 = .agg [.lit (.bool true), .lit (.bool true), .lit (.int .i64 0), .lit (.int .i64 1), .lit (.int .i64 2)]) : cs = [.bool true, .bool true, .int .i64 0, .int .i64 1, .int .i64 2] := by
  obtain ⟨xs, m, _, hx1, hl, hxl, hf⟩ := DataW.trod_struct Tryz.underlying53 h
  rw [show Tryz.prog.cellsOf 53 = 5 by kernel_rfl] at hl
  replace hxl : xs.length = 5 := hxl
  obtain ⟨v0, v1, v2, v3, v4, rfl⟩ := lenN5 hl
  obtain ⟨y0, y1, y2, y3, y4, rfl⟩ := lenN5 hxl
  subst hx1
  simp only [List.map_cons, List.map_nil, DataW.agg.injEq, List.cons.injEq, and_true] at hd
  obtain ⟨e0, e1, e2, e3, e4⟩ := hd
  have g0 : DataW.trod enc Tryz.prog W 0 sp hh m 4 (([v0, v1, v2, v3, v4].drop 0).take (Tryz.prog.cellsOf 4)) = some y0 := hf 0 _ rfl
  rw [show Tryz.prog.cellsOf 4 = 1 by kernel_rfl] at g0
  have G0 : DataW.trod enc Tryz.prog W 0 sp hh m 4 [v0] = some y0 := g0
  clear g0
  have g1 : DataW.trod enc Tryz.prog W 0 sp hh m 4 (([v0, v1, v2, v3, v4].drop 1).take (Tryz.prog.cellsOf 4)) = some y1 := hf 1 _ rfl
  rw [show Tryz.prog.cellsOf 4 = 1 by kernel_rfl] at g1
  have G1 : DataW.trod enc Tryz.prog W 0 sp hh m 4 [v1] = some y1 := g1
  clear g1
  have g2 : DataW.trod enc Tryz.prog W 0 sp hh m 3 (([v0, v1, v2, v3, v4].drop 2).take (Tryz.prog.cellsOf 3)) = some y2 := hf 2 _ rfl
  rw [show Tryz.prog.cellsOf 3 = 1 by kernel_rfl] at g2
  have G2 : DataW.trod enc Tryz.prog W 0 sp hh m 3 [v2] = some y2 := g2
  clear g2
  have g3 : DataW.trod enc Tryz.prog W 0 sp hh m 3 (([v0, v1, v2, v3, v4].drop 3).take (Tryz.prog.cellsOf 3)) = some y3 := hf 3 _ rfl
  rw [show Tryz.prog.cellsOf 3 = 1 by kernel_rfl] at g3
  have G3 : DataW.trod enc Tryz.prog W 0 sp hh m 3 [v3] = some y3 := g3
  clear g3
  have g4 : DataW.trod enc Tryz.prog W 0 sp hh m 3 (([v0, v1, v2, v3, v4].drop 4).take (Tryz.prog.cellsOf 3)) = some y4 := hf 4 _ rfl
  rw [show Tryz.prog.cellsOf 3 = 1 by kernel_rfl] at g4
  have G4 : DataW.trod enc Tryz.prog W 0 sp hh m 3 [v4] = some y4 := g4
  clear g4
  clear hf h
  obtain ⟨a0, h0, k0⟩ := DataW.trod_bool Tryz.underlying4 G0
  subst k0
  injection h0 with h0; subst h0
  simp only [DataW.lit.injEq, Lit.int.injEq, Lit.bool.injEq, true_and] at e0; subst e0
  obtain ⟨a1, h1, k1⟩ := DataW.trod_bool Tryz.underlying4 G1
  subst k1
  injection h1 with h1; subst h1
  simp only [DataW.lit.injEq, Lit.int.injEq, Lit.bool.injEq, true_and] at e1; subst e1
  obtain ⟨a2, h2, k2, _⟩ := DataW.trod_int Tryz.underlying3 G2
  subst k2
  injection h2 with h2; subst h2
  simp only [DataW.lit.injEq, Lit.int.injEq, Lit.bool.injEq, true_and] at e2; subst e2
  obtain ⟨a3, h3, k3, _⟩ := DataW.trod_int Tryz.underlying3 G3
  subst k3
  injection h3 with h3; subst h3
  simp only [DataW.lit.injEq, Lit.int.injEq, Lit.bool.injEq, true_and] at e3; subst e3
  obtain ⟨a4, h4, k4, _⟩ := DataW.trod_int Tryz.underlying3 G4
  subst k4
  injection h4 with h4; subst h4
  simp only [DataW.lit.injEq, Lit.int.injEq, Lit.bool.injEq, true_and] at e4; subst e4
  rfl
theorem planOf_dat_0 {W : World} {H : Type} {enc : TypeId × Value → H} {sp : Nat → Bool} {hh : Bool} {n : Nat} {cs : List Value} {x : DataW H × List MemPlace} (h : DataW.trod enc Tryz.prog W 0 sp hh n 55 cs = some x) (hd : x.1 = .agg [.lit (.int .i64 1), .agg [.lit (.bool true), .lit (.bool true), .lit (.int .i64 0), .lit (.int .i64 1), .lit (.int .i64 2)]]) : cs = [.int .i64 1, .bool true, .bool true, .int .i64 0, .int .i64 1, .int .i64 2] := by
  obtain ⟨xs, m, _, hx1, hl, hxl, hf⟩ := DataW.trod_struct Tryz.underlying55 h
  rw [show Tryz.prog.cellsOf 55 = 6 by kernel_rfl] at hl
  replace hxl : xs.length = 2 := hxl
  obtain ⟨v0, v1, v2, v3, v4, v5, rfl⟩ := lenN6 hl
  obtain ⟨y0, y1, rfl⟩ := lenN2 hxl
  subst hx1
  simp only [List.map_cons, List.map_nil, DataW.agg.injEq, List.cons.injEq, and_true] at hd
  obtain ⟨e0, e1⟩ := hd
  have g0 : DataW.trod enc Tryz.prog W 0 sp hh m 3 (([v0, v1, v2, v3, v4, v5].drop 0).take (Tryz.prog.cellsOf 3)) = some y0 := hf 0 _ rfl
  rw [show Tryz.prog.cellsOf 3 = 1 by kernel_rfl] at g0
  have G0 : DataW.trod enc Tryz.prog W 0 sp hh m 3 [v0] = some y0 := g0
  clear g0
  have g1 : DataW.trod enc Tryz.prog W 0 sp hh m 53 (([v0, v1, v2, v3, v4, v5].drop 1).take (Tryz.prog.cellsOf 53)) = some y1 := hf 1 _ rfl
  rw [show Tryz.prog.cellsOf 53 = 5 by kernel_rfl] at g1
  have G1 : DataW.trod enc Tryz.prog W 0 sp hh m 53 [v1, v2, v3, v4, v5] = some y1 := g1
  clear g1
  clear hf h
  obtain ⟨a0, h0, k0, _⟩ := DataW.trod_int Tryz.underlying3 G0
  subst k0
  injection h0 with h0; subst h0
  simp only [DataW.lit.injEq, Lit.int.injEq, Lit.bool.injEq, true_and] at e0; subst e0
  have q1 := planOf_dat_0_1 G1 e1
  simp only [List.cons.injEq, and_true] at q1
  obtain ⟨rfl, rfl, rfl, rfl, rfl⟩ := q1
  rfl
theorem planOf_dat_1_1 {W : World} {H : Type} {enc : TypeId × Value → H} {sp : Nat → Bool} {hh : Bool} {n : Nat} {cs : List Value} {x : DataW H × List MemPlace} (h : DataW.trod enc Tryz.prog W 0 sp hh n 53 cs = some x) (hd : x.1 = .agg [.lit (.bool true), .lit (.bool false), .lit (.int .i64 0), .lit (.int .i64 0), .lit (.int .i64 2)]) : cs = [.bool true, .bool false, .int .i64 0, .int .i64 0, .int .i64 2] := by
  obtain ⟨xs, m, _, hx1, hl, hxl, hf⟩ := DataW.trod_struct Tryz.underlying53 h
  rw [show Tryz.prog.cellsOf 53 = 5 by kernel_rfl] at hl
  replace hxl : xs.length = 5 := hxl
  obtain ⟨v0, v1, v2, v3, v4, rfl⟩ := lenN5 hl
  obtain ⟨y0, y1, y2, y3, y4, rfl⟩ := lenN5 hxl
  subst hx1
  simp only [List.map_cons, List.map_nil, DataW.agg.injEq, List.cons.injEq, and_true] at hd
  obtain ⟨e0, e1, e2, e3, e4⟩ := hd
  have g0 : DataW.trod enc Tryz.prog W 0 sp hh m 4 (([v0, v1, v2, v3, v4].drop 0).take (Tryz.prog.cellsOf 4)) = some y0 := hf 0 _ rfl
  rw [show Tryz.prog.cellsOf 4 = 1 by kernel_rfl] at g0
  have G0 : DataW.trod enc Tryz.prog W 0 sp hh m 4 [v0] = some y0 := g0
  clear g0
  have g1 : DataW.trod enc Tryz.prog W 0 sp hh m 4 (([v0, v1, v2, v3, v4].drop 1).take (Tryz.prog.cellsOf 4)) = some y1 := hf 1 _ rfl
  rw [show Tryz.prog.cellsOf 4 = 1 by kernel_rfl] at g1
  have G1 : DataW.trod enc Tryz.prog W 0 sp hh m 4 [v1] = some y1 := g1
  clear g1
  have g2 : DataW.trod enc Tryz.prog W 0 sp hh m 3 (([v0, v1, v2, v3, v4].drop 2).take (Tryz.prog.cellsOf 3)) = some y2 := hf 2 _ rfl
  rw [show Tryz.prog.cellsOf 3 = 1 by kernel_rfl] at g2
  have G2 : DataW.trod enc Tryz.prog W 0 sp hh m 3 [v2] = some y2 := g2
  clear g2
  have g3 : DataW.trod enc Tryz.prog W 0 sp hh m 3 (([v0, v1, v2, v3, v4].drop 3).take (Tryz.prog.cellsOf 3)) = some y3 := hf 3 _ rfl
  rw [show Tryz.prog.cellsOf 3 = 1 by kernel_rfl] at g3
  have G3 : DataW.trod enc Tryz.prog W 0 sp hh m 3 [v3] = some y3 := g3
  clear g3
  have g4 : DataW.trod enc Tryz.prog W 0 sp hh m 3 (([v0, v1, v2, v3, v4].drop 4).take (Tryz.prog.cellsOf 3)) = some y4 := hf 4 _ rfl
  rw [show Tryz.prog.cellsOf 3 = 1 by kernel_rfl] at g4
  have G4 : DataW.trod enc Tryz.prog W 0 sp hh m 3 [v4] = some y4 := g4
  clear g4
  clear hf h
  obtain ⟨a0, h0, k0⟩ := DataW.trod_bool Tryz.underlying4 G0
  subst k0
  injection h0 with h0; subst h0
  simp only [DataW.lit.injEq, Lit.int.injEq, Lit.bool.injEq, true_and] at e0; subst e0
  obtain ⟨a1, h1, k1⟩ := DataW.trod_bool Tryz.underlying4 G1
  subst k1
  injection h1 with h1; subst h1
  simp only [DataW.lit.injEq, Lit.int.injEq, Lit.bool.injEq, true_and] at e1; subst e1
  obtain ⟨a2, h2, k2, _⟩ := DataW.trod_int Tryz.underlying3 G2
  subst k2
  injection h2 with h2; subst h2
  simp only [DataW.lit.injEq, Lit.int.injEq, Lit.bool.injEq, true_and] at e2; subst e2
  obtain ⟨a3, h3, k3, _⟩ := DataW.trod_int Tryz.underlying3 G3
  subst k3
  injection h3 with h3; subst h3
  simp only [DataW.lit.injEq, Lit.int.injEq, Lit.bool.injEq, true_and] at e3; subst e3
  obtain ⟨a4, h4, k4, _⟩ := DataW.trod_int Tryz.underlying3 G4
  subst k4
  injection h4 with h4; subst h4
  simp only [DataW.lit.injEq, Lit.int.injEq, Lit.bool.injEq, true_and] at e4; subst e4
  rfl
theorem planOf_dat_1 {W : World} {H : Type} {enc : TypeId × Value → H} {sp : Nat → Bool} {hh : Bool} {n : Nat} {cs : List Value} {x : DataW H × List MemPlace} (h : DataW.trod enc Tryz.prog W 0 sp hh n 55 cs = some x) (hd : x.1 = .agg [.lit (.int .i64 2), .agg [.lit (.bool true), .lit (.bool false), .lit (.int .i64 0), .lit (.int .i64 0), .lit (.int .i64 2)]]) : cs = [.int .i64 2, .bool true, .bool false, .int .i64 0, .int .i64 0, .int .i64 2] := by
  obtain ⟨xs, m, _, hx1, hl, hxl, hf⟩ := DataW.trod_struct Tryz.underlying55 h
  rw [show Tryz.prog.cellsOf 55 = 6 by kernel_rfl] at hl
  replace hxl : xs.length = 2 := hxl
  obtain ⟨v0, v1, v2, v3, v4, v5, rfl⟩ := lenN6 hl
  obtain ⟨y0, y1, rfl⟩ := lenN2 hxl
  subst hx1
  simp only [List.map_cons, List.map_nil, DataW.agg.injEq, List.cons.injEq, and_true] at hd
  obtain ⟨e0, e1⟩ := hd
  have g0 : DataW.trod enc Tryz.prog W 0 sp hh m 3 (([v0, v1, v2, v3, v4, v5].drop 0).take (Tryz.prog.cellsOf 3)) = some y0 := hf 0 _ rfl
  rw [show Tryz.prog.cellsOf 3 = 1 by kernel_rfl] at g0
  have G0 : DataW.trod enc Tryz.prog W 0 sp hh m 3 [v0] = some y0 := g0
  clear g0
  have g1 : DataW.trod enc Tryz.prog W 0 sp hh m 53 (([v0, v1, v2, v3, v4, v5].drop 1).take (Tryz.prog.cellsOf 53)) = some y1 := hf 1 _ rfl
  rw [show Tryz.prog.cellsOf 53 = 5 by kernel_rfl] at g1
  have G1 : DataW.trod enc Tryz.prog W 0 sp hh m 53 [v1, v2, v3, v4, v5] = some y1 := g1
  clear g1
  clear hf h
  obtain ⟨a0, h0, k0, _⟩ := DataW.trod_int Tryz.underlying3 G0
  subst k0
  injection h0 with h0; subst h0
  simp only [DataW.lit.injEq, Lit.int.injEq, Lit.bool.injEq, true_and] at e0; subst e0
  have q1 := planOf_dat_1_1 G1 e1
  simp only [List.cons.injEq, and_true] at q1
  obtain ⟨rfl, rfl, rfl, rfl, rfl⟩ := q1
  rfl
theorem planOf_dat {W : World} {H : Type} {enc : TypeId × Value → H} {sp : Nat → Bool} {hh : Bool} {n : Nat} {cs : List Value} {x : DataW H × List MemPlace} (h : DataW.trod enc Tryz.prog W 0 sp hh n 101 cs = some x) (hd : x.1 = .agg [.agg [.lit (.int .i64 1), .agg [.lit (.bool true), .lit (.bool true), .lit (.int .i64 0), .lit (.int .i64 1), .lit (.int .i64 2)]], .agg [.lit (.int .i64 2), .agg [.lit (.bool true), .lit (.bool false), .lit (.int .i64 0), .lit (.int .i64 0), .lit (.int .i64 2)]]]) : cs = [.int .i64 1, .bool true, .bool true, .int .i64 0, .int .i64 1, .int .i64 2, .int .i64 2, .bool true, .bool false, .int .i64 0, .int .i64 0, .int .i64 2] := by
  obtain ⟨xs, m, _, hx1, hl, hxl, hf⟩ := DataW.trod_array Tryz.underlying101 h
  rw [show Tryz.prog.cellsOf 101 = 12 by kernel_rfl] at hl
  replace hxl : xs.length = 2 := hxl
  obtain ⟨v0, v1, v2, v3, v4, v5, v6, v7, v8, v9, v10, v11, rfl⟩ := lenN12 hl
  obtain ⟨y0, y1, rfl⟩ := lenN2 hxl
  subst hx1
  simp only [List.map_cons, List.map_nil, DataW.agg.injEq, List.cons.injEq, and_true] at hd
  obtain ⟨e0, e1⟩ := hd
  have hc : Tryz.prog.cellsOf 55 = 6 := by kernel_rfl
  simp only [hc] at hf
  have g0 := hf 0 (by decide)
  have G0 : DataW.trod enc Tryz.prog W 0 sp hh m 55 [v0, v1, v2, v3, v4, v5] = some y0 := g0
  clear g0
  have g1 := hf 1 (by decide)
  have G1 : DataW.trod enc Tryz.prog W 0 sp hh m 55 [v6, v7, v8, v9, v10, v11] = some y1 := g1
  clear g1
  clear hf h
  have q0 := planOf_dat_0 G0 e0
  simp only [List.cons.injEq, and_true] at q0
  obtain ⟨rfl, rfl, rfl, rfl, rfl, rfl⟩ := q0
  have q1 := planOf_dat_1 G1 e1
  simp only [List.cons.injEq, and_true] at q1
  obtain ⟨rfl, rfl, rfl, rfl, rfl, rfl⟩ := q1
  rfl
theorem planOf_glob {W : World} (h : laidMetH Tryz.prog Rows.planOfRow.laid W) : ∃ t, heapOf W 0 = some (.cells #[.int .i64 1, .bool true, .bool true, .int .i64 0, .int .i64 1, .int .i64 2, .int .i64 2, .bool true, .bool false, .int .i64 0, .int .i64 0, .int .i64 2] t) := by
  rw [MakeChecks.laidMetH_plain _ _ _ (by kernel_rfl)] at h
  obtain ⟨ps, ⟨g0, t0, cs0, f0, p0, q0, hg0, ht0, hv0, hd0, _, hps⟩, _, hrow⟩ := h
  obtain rfl := Option.some.inj ((show Tryz.prog.globalNamed "windrose/trait.first" = some 0 by kernel_rfl).symm.trans hg0)
  obtain rfl := Option.some.inj ((show (Tryz.prog.globals[0]?).map (·.type) = some 101 by kernel_rfl).symm.trans ht0)
  have hl := planOf_dat hd0 rfl
  have hcs : cs0 = #[.int .i64 1, .bool true, .bool true, .int .i64 0, .int .i64 1, .int .i64 2, .int .i64 2, .bool true, .bool false, .int .i64 0, .int .i64 0, .int .i64 2] := Array.toList_inj.1 hl
  subst hcs
  have hm : MemPlace.cell 0 0 ∈ ps := by rw [hps]; simp [MemPlace.row]
  obtain ⟨⟨c, t, hh⟩, _⟩ := hrow 0 0 hm
  have hv := hv0
  simp only [World.var?, hg0, Option.bind_some, hh] at hv
  injection hv with hv
  subst hv
  exact ⟨t, hh⟩

set_option maxRecDepth 100000 in
theorem planOf_lifted (os : Os) (started : os.Started) (H : Type) (enc : TypeId × Value → H) :
    ReturnsInHanded {} Tryz.checked os 3 .any (fun w args => (Rows.planOfSpec.pre enc Tryz.prog Tryz.f3 [] false w args ∧ laidMetH Tryz.prog Rows.planOfRow.laid w) ∧ sizedMet enc Tryz.prog Tryz.f3 (OpenSpec.ofChange Rows.planOfSpec) false w args)
      (Rows.planOfSpec.post enc Tryz.prog Tryz.f3 false true false false) := by
  refine returnsInHanded_of_change_and (C := Tryz.checked) (X := fun w _ => laidMetH Tryz.prog Rows.planOfRow.laid w) (fun _ _ _ hh h => h.of_heap hh) planOf_own started (by kernel_rfl) Tryz.func3
    (ChangeSpec.witness_shaped (enc := enc) (C := Tryz.checked) (os := os) (X := fun w _ => laidMetH Tryz.prog Rows.planOfRow.laid w) false (World.doorLaid Tryz.prog 400 os) #[.slice none 0 0, .slice none 0 0, .slice none 0 0] 8 rfl (World.shaped_of_RefB (by kernel_rfl) (by kernel_rfl)) (by kernel_rfl) (by kernel_rfl) (by kernel_rfl) (planOf_met os _)) ?_
  intro W base args ds gs before hval0 hW _ _ hL _
  have hval : ∀ (j : Nat) t v, Tryz.f3.params[j]? = some t → args[j]? = some v → Value.okWide Tryz.prog W .any base t v := hval0
  have hW' := hW
  obtain ⟨p, q, hA0, hV, rfl, hfz, hnd⟩ := hW
  have hA : DataW.TrodAll enc Tryz.prog W 0 (fun _ => true) true Tryz.f3.params.toList args.toList ds p := hA0
  rw [Tryz.params3] at hA hval
  clear hA0 hval0
  obtain ⟨v0, vs0, d0, ds0, p0, q0, e0, rfl, rfl, h0, r0⟩ := trodAll_cons hA
  obtain ⟨v1, vs1, d1, ds1, p1, q1, e1, rfl, rfl, h1, r1⟩ := trodAll_cons r0
  subst e1
  obtain ⟨v2, vs2, d2, ds2, p2, q2, e2, rfl, rfl, h2, r2⟩ := trodAll_cons r1
  subst e2
  obtain ⟨e3, rfl, rfl⟩ := trodAll_nil r2
  subst e3
  obtain rfl : args = #[v0, v1, v2] := by cases args; simp_all
  obtain ⟨rfl, rfl⟩ := trodVars_none hV
  obtain ⟨xs0, hr0, hw0⟩ := open_sl Tryz.underlying22 (Opn.slice Tryz.underlying22 (by kernel_rfl) opn55 (by decide)) (hval 0 22 v0 rfl rfl) h0
  obtain ⟨xs1, hr1, hw1⟩ := open_sl Tryz.underlying23 (Opn.slice Tryz.underlying23 (by kernel_rfl) opn50 (by decide)) (hval 1 23 v1 rfl rfl) h1
  obtain ⟨xs2, hr2, hw2⟩ := open_sl Tryz.underlying24 (Opn.slice Tryz.underlying24 (by kernel_rfl) (Opn.slice Tryz.underlying30 (by kernel_rfl) (Opn.int Tryz.underlying3) (by decide)) (by decide)) (hval 2 24 v2 rfl rfl) h2
  have hpar : ∀ t ∈ Tryz.f3.params.toList, Tryz.prog.readableRec t = true ∧ t < Tryz.prog.types.size := by
    intro t ht
    rw [Tryz.params3] at ht
    simp only [List.mem_cons, List.not_mem_nil, or_false] at ht
    rcases ht with rfl | rfl | rfl
    · exact ⟨by kernel_rfl, of_decide_eq_true (by kernel_rfl)⟩
    · exact ⟨by kernel_rfl, of_decide_eq_true (by kernel_rfl)⟩
    · exact ⟨by kernel_rfl, of_decide_eq_true (by kernel_rfl)⟩
  obtain ⟨tG, hG⟩ := planOf_glob hL
  refine (calls_of_Fv Tryz.func3 rfl (by kernel_rfl) (Fv.to (windroselaw20_PlanOf_c _ hG _ xs0 hr0 _ xs1 hr1 _ xs2 hr2) (congrArg Value.bool (planOf_true _ _ _ (fun h hh => u_of_wf (hw1 h hh).2))))).mono fun e W' ⟨he, hb⟩ => ?_
  subst he
  exact ⟨_, rfl, post_true planOf_laid hW' rfl hpar rfl rfl Tryz.underlying4 hb⟩

theorem planOf_holds : Rows.PlanOfSaid :=
  OpenClaim.holds_of_wide 3 Tryz.f3 rfl rfl rfl rfl rfl rfl rfl ⟨rfl, rfl, rfl, rfl, rfl⟩ rfl rfl rfl rfl rfl (by kernel_rfl) Tryz.func3 (by kernel_rfl)
    (of_decide_eq_true (by kernel_rfl)) (by unfold Func.isWrapper; first | (rw [if_pos (by decide +kernel)]; kernel_rfl) | (rw [if_neg (by decide +kernel)]; exact ⟨rfl, rfl⟩))
    (fun os started H enc _ => planOf_lifted os started H enc)

theorem planOf_card : Rows.PlanOfCardSaid :=
  Claim7.holds_tied_plain_at .later [] [.widerDeep] true (true, "5d0475466feafe6c1b2f63eab9296462f04ee8753bf360a3315512329807b878") false
    planOf_holds (fun _ h => by cases h) (by kernel_rfl) (fun _ h => by cases h) planOf_row_tie rfl ⟨rfl, rfl⟩ (by kernel_rfl) rfl
    (fun f fn hf hfn => by
      obtain rfl : f = 3 := Option.some.inj ((show Tryz.prog.funcNamed "windrose/windroselaw20.PlanOf" = some 3 by kernel_rfl).symm.trans hf) |>.symm
      obtain rfl : fn = Tryz.f3 := (Option.some.inj (Tryz.func3.symm.trans hfn)).symm
      exact ⟨by kernel_rfl, fun j t ht => by
        rw [Tryz.params3] at ht
        have hm : t ∈ [22, 23, 24] := by simpa using Array.mem_of_getElem? ht
        have hall : ([22, 23, 24].all fun u => !Tryz.prog.wantsStandIn u) = true := by kernel_rfl
        exact (show Tryz.prog.wantsStandIn t = false by simpa using List.all_eq_true.1 hall t hm)⟩)
    (by kernel_rfl)
end Go.Proofs.YtmhoclmjgjopfaaGreatDoor
