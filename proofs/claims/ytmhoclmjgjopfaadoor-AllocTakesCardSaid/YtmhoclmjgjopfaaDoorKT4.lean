/- 'AllocTakes' answers true, whatever it is handed, and what it is handed reads behind it as it did: the row, and its tied card. -/
import Derived.RangeFuncNested
import Derived.RangeFuncBound
import Derived.RangeFuncCalls
import Derived.RangeFuncLeaves
import Derived.Shelf.Abstract
import Derived.Laws.AppendOwn
import Derived.Laws.OwnMore
import Derived.KernelRfl
import Derived.IntWalk
import Derived.Laws.Append
import Derived.WideLaws
import Derived.Laws.Slices
import Derived.Laws.MakeOwn
import Derived.OrdersIn
import Derived.Laws.Cover3
import Derived.Test.YtmhoclmjgjopfaaDoorProg
import Derived.Laws.StructEq
import Derived.Shelf.Sort.Plain
import Derived.Sort.OwnSortedInts
import Derived.Shelf.Slices.In.SortNone
import Derived.ProofKit
import Derived.ChangeSlices
import Derived.Carry
import Derived.Deep.Slices
import Derived.OpenShut
import Derived.Test.YtmhoclmjgjopfaaDoorCards
import Derived.Test.YtmhoclmjgjopfaaDoorTie
import Derived.LaidMore
import Derived.Stop.Joined
import Derived.MakeChecks
import Derived.Test.YtmhoclmjgjopfaaDoorKT3
set_option linter.unusedVariables false
set_option linter.unusedSimpArgs false
namespace Go.SX
open Go Go.Proofs

def windroselaw02_wakes_m  : Bool :=
  LR.seq (alloc_New_m 1) (fun r15 => LR.seq (alloc_Take_m r15.1) (fun r20 => LR.seq (alloc_Take_m r20.1) (fun r26 => LR.seq (alloc_Give_m r20.1 [r20.2.1]) (fun r34 => LR.seq (alloc_Take_m r34.1) (fun r39 => if r15.2 = 0 then (if r20.2.2 = 0 then (if r34.2 = 0 then (if r39.2.2 = 0 then (if r26.2.2 = 6 then (if r20.2.1 = 3 then (if r39.2.1 = 4294967299 then (if (alloc_Alive_m r39.1 r39.2.1) = true then (if (!(alloc_Alive_m r39.1 r20.2.1)) = true then (LR.seq (alloc_All_m r39.1) (fun r82 => (decide ((r82.length : Int) = 3)))) else false) else false) else false) else false) else false) else false) else false) else false) else false)))))
set_option maxHeartbeats 3200000 in
theorem windroselaw02_wakes_c (H : Heap) {tG0 : TypeId} (hG0 : H 0 = some (.cells #[.int .i64 0, .bool true] tG0)) : Fv Tryd.prog (fnv 13) [] H (.bool windroselaw02_wakes_m) := by
  refine Fc.of_body (N := 86) Tryd.func13 rfl (by kernel_rfl) rfl rfl ?_
  intro w0
  refine T.seq ?_
  refine T.region ?_
  refine R.asE rfl (by conv => lhs; whnf) ?_
  refine TL.nil (Post.thnN ?_)
  refine T.seq ?_
  refine T.region ?_
  obtain ⟨r15, er15⟩ : ∃ r, r = (alloc_New_m 1) := ⟨_, rfl⟩
  refine TL.call [] rfl rfl rfl (alloc_New_c _ hG0 (1)) ?_
  intro v15 H15 L15 s15 q15
  rw [← er15] at q15
  obtain ⟨u15_0_1, u15_0_2, c15_0_1, c15_0_2, rfl, rfl, w15_0_1, w15_0_2⟩ := q15
  obtain ⟨A15_0_1, p15_0_1, rfl, m15_0_1, n15_0_1⟩ := OwnS.shape w15_0_1
  obtain ⟨A15_0_2, p15_0_2, rfl, m15_0_2, n15_0_2⟩ := OwnS.shape w15_0_2
  have tn15 : r15.1.2.1.length ≤ 2 ∧ r15.1.2.2.length ≤ 0 := by rw [er15]; exact new_len _
  refine R.mvE rfl (by conv => lhs; whnf) ?_
  refine R.ext rfl rfl rfl ?_
  refine R.ext rfl rfl rfl ?_
  refine R.alloc Tryd.zeroValue25 rfl ?_
  intro b1
  refine R.stX (old := [.int .i64 0, .slice none 0 0, .slice none 0 0]) (l := [.int .i64 (r15.1.1), .slice A15_0_1 r15.1.2.1.length p15_0_1, .slice A15_0_2 r15.1.2.2.length p15_0_2]) (new := [.int .i64 (r15.1.1), .slice A15_0_1 r15.1.2.1.length p15_0_1, .slice A15_0_2 r15.1.2.2.length p15_0_2]) (et := 25) Tryd.sizeOf25 rfl rfl rfl rfl rfl (by show 0 + 3 ≤ 3; decide) rfl (all_one rfl) .hd ?_
  refine R.asE rfl (by conv => lhs; whnf) ?_
  refine TL.shut (.tl .hd) ?_
  intro HF15_0_1_1 sF15_0_1_1 qF15_0_1_1
  have fF15_0_1_1 := OwnS.read w15_0_1 sF15_0_1_1 qF15_0_1_1
  refine TL.shut (.tl .hd) ?_
  intro HF15_0_2_2 sF15_0_2_2 qF15_0_2_2
  have fF15_0_2_2 := OwnS.read (OwnS.mono w15_0_2 sF15_0_1_1) sF15_0_2_2 qF15_0_2_2
  refine TL.shut .hd ?_
  intro Hb1_3 sb1_3 qb1_3
  have hb1_3 : Hb1_3 b1 = some (.cells #[.int .i64 (r15.1.1), .slice A15_0_1 r15.1.2.1.length p15_0_1, .slice A15_0_2 r15.1.2.2.length p15_0_2] 25) := shut1 qb1_3
  refine TL.nil (Post.thnN ?_)
  refine T.seq ?_
  refine T.region ?_
  refine R.ldXH (cs := [.int .i64 (r15.1.1), .slice A15_0_1 r15.1.2.1.length p15_0_1, .slice A15_0_2 r15.1.2.2.length p15_0_2]) (l := [.int .i64 (r15.1.1), .slice A15_0_1 r15.1.2.1.length p15_0_1, .slice A15_0_2 r15.1.2.2.length p15_0_2]) Tryd.isAgg25 Tryd.sizeOf25 rfl rfl hb1_3 rfl rfl ?_
  obtain ⟨r20, er20⟩ : ∃ r, r = (alloc_Take_m r15.1) := ⟨_, rfl⟩
  refine TL.call [] rfl rfl rfl (alloc_Take_c _ ((s15.trans (sF15_0_1_1.trans (sF15_0_2_2.trans sb1_3))) _ _ hG0) r15.1 _ (fF15_0_1_1.mono (sF15_0_2_2.trans sb1_3)) _ (fF15_0_2_2.mono sb1_3) (by first | omega | (simp; done) | (simp; omega) | (simp at *; omega)) (by first | omega | (simp; done) | (simp; omega) | (simp at *; omega))) ?_
  intro v20 H20 L20 s20 q20
  rw [← er20] at q20
  obtain ⟨u20_0_1, u20_0_2, c20_0_1, c20_0_2, rfl, rfl, w20_0_1, w20_0_2⟩ := q20
  obtain ⟨A20_0_1, p20_0_1, rfl, m20_0_1, n20_0_1⟩ := OwnS.shape w20_0_1
  obtain ⟨A20_0_2, p20_0_2, rfl, m20_0_2, n20_0_2⟩ := OwnS.shape w20_0_2
  have tt20 : r20.1.2.1.length ≤ 1100000 ∧ r20.1.2.2.length ≤ 1100000 := by rw [er20]; exact take_len (by first | omega | (simp; done) | (simp; omega) | (simp at *; omega))
  refine R.mvE rfl (by conv => lhs; whnf) ?_
  refine R.ext rfl rfl rfl ?_
  refine R.ext rfl rfl rfl ?_
  refine R.ext rfl rfl rfl ?_
  refine R.alloc Tryd.zeroValue25 rfl ?_
  intro b3
  refine R.stX (old := [.int .i64 0, .slice none 0 0, .slice none 0 0]) (l := [.int .i64 (r20.1.1), .slice A20_0_1 r20.1.2.1.length p20_0_1, .slice A20_0_2 r20.1.2.2.length p20_0_2]) (new := [.int .i64 (r20.1.1), .slice A20_0_1 r20.1.2.1.length p20_0_1, .slice A20_0_2 r20.1.2.2.length p20_0_2]) (et := 25) Tryd.sizeOf25 rfl rfl rfl rfl rfl (by show 0 + 3 ≤ 3; decide) rfl (all_one rfl) .hd ?_
  refine R.asE rfl (by conv => lhs; whnf) ?_
  refine R.asE rfl (by conv => lhs; whnf) ?_
  refine TL.shut (.tl .hd) ?_
  intro HF20_0_1_4 sF20_0_1_4 qF20_0_1_4
  have fF20_0_1_4 := OwnS.read w20_0_1 sF20_0_1_4 qF20_0_1_4
  refine TL.shut (.tl .hd) ?_
  intro HF20_0_2_5 sF20_0_2_5 qF20_0_2_5
  have fF20_0_2_5 := OwnS.read (OwnS.mono w20_0_2 sF20_0_1_4) sF20_0_2_5 qF20_0_2_5
  refine TL.shut .hd ?_
  intro Hb3_6 sb3_6 qb3_6
  have hb3_6 : Hb3_6 b3 = some (.cells #[.int .i64 (r20.1.1), .slice A20_0_1 r20.1.2.1.length p20_0_1, .slice A20_0_2 r20.1.2.2.length p20_0_2] 25) := shut1 qb3_6
  refine TL.nil (Post.thnN ?_)
  refine T.seq ?_
  refine T.region ?_
  refine R.ldXH (cs := [.int .i64 (r20.1.1), .slice A20_0_1 r20.1.2.1.length p20_0_1, .slice A20_0_2 r20.1.2.2.length p20_0_2]) (l := [.int .i64 (r20.1.1), .slice A20_0_1 r20.1.2.1.length p20_0_1, .slice A20_0_2 r20.1.2.2.length p20_0_2]) Tryd.isAgg25 Tryd.sizeOf25 rfl rfl hb3_6 rfl rfl ?_
  obtain ⟨r26, er26⟩ : ∃ r, r = (alloc_Take_m r20.1) := ⟨_, rfl⟩
  refine TL.call [] rfl rfl rfl (alloc_Take_c _ ((s15.trans (sF15_0_1_1.trans (sF15_0_2_2.trans (sb1_3.trans (s20.trans (sF20_0_1_4.trans (sF20_0_2_5.trans sb3_6))))))) _ _ hG0) r20.1 _ (fF20_0_1_4.mono (sF20_0_2_5.trans sb3_6)) _ (fF20_0_2_5.mono sb3_6) (by first | omega | (simp; done) | (simp; omega) | (simp at *; omega)) (by first | omega | (simp; done) | (simp; omega) | (simp at *; omega))) ?_
  intro v26 H26 L26 s26 q26
  rw [← er26] at q26
  obtain ⟨u26_0_1, u26_0_2, c26_0_1, c26_0_2, rfl, rfl, w26_0_1, w26_0_2⟩ := q26
  obtain ⟨A26_0_1, p26_0_1, rfl, m26_0_1, n26_0_1⟩ := OwnS.shape w26_0_1
  obtain ⟨A26_0_2, p26_0_2, rfl, m26_0_2, n26_0_2⟩ := OwnS.shape w26_0_2
  have tt26 : r26.1.2.1.length ≤ 1100000 ∧ r26.1.2.2.length ≤ 1100000 := by rw [er26]; exact take_len (by first | omega | (simp; done) | (simp; omega) | (simp at *; omega))
  refine R.mvE rfl (by conv => lhs; whnf) ?_
  refine R.ext rfl rfl rfl ?_
  refine R.ext rfl rfl rfl ?_
  refine R.ext rfl rfl rfl ?_
  refine R.alloc Tryd.zeroValue25 rfl ?_
  intro b6
  refine R.stX (old := [.int .i64 0, .slice none 0 0, .slice none 0 0]) (l := [.int .i64 (r26.1.1), .slice A26_0_1 r26.1.2.1.length p26_0_1, .slice A26_0_2 r26.1.2.2.length p26_0_2]) (new := [.int .i64 (r26.1.1), .slice A26_0_1 r26.1.2.1.length p26_0_1, .slice A26_0_2 r26.1.2.2.length p26_0_2]) (et := 25) Tryd.sizeOf25 rfl rfl rfl rfl rfl (by show 0 + 3 ≤ 3; decide) rfl (all_one rfl) .hd ?_
  refine R.asE rfl (by conv => lhs; whnf) ?_
  refine R.asE rfl (by conv => lhs; whnf) ?_
  refine TL.shut (.tl .hd) ?_
  intro HF26_0_1_7 sF26_0_1_7 qF26_0_1_7
  have fF26_0_1_7 := OwnS.read w26_0_1 sF26_0_1_7 qF26_0_1_7
  refine TL.shut (.tl .hd) ?_
  intro HF26_0_2_8 sF26_0_2_8 qF26_0_2_8
  have fF26_0_2_8 := OwnS.read (OwnS.mono w26_0_2 sF26_0_1_7) sF26_0_2_8 qF26_0_2_8
  refine TL.shut .hd ?_
  intro Hb6_9 sb6_9 qb6_9
  have hb6_9 : Hb6_9 b6 = some (.cells #[.int .i64 (r26.1.1), .slice A26_0_1 r26.1.2.1.length p26_0_1, .slice A26_0_2 r26.1.2.2.length p26_0_2] 25) := shut1 qb6_9
  refine TL.nil (Post.thnN ?_)
  refine T.seq ?_
  refine T.region ?_
  refine R.ldXH (cs := [.int .i64 (r20.1.1), .slice A20_0_1 r20.1.2.1.length p20_0_1, .slice A20_0_2 r20.1.2.2.length p20_0_2]) (l := [.int .i64 (r20.1.1), .slice A20_0_1 r20.1.2.1.length p20_0_1, .slice A20_0_2 r20.1.2.2.length p20_0_2]) Tryd.isAgg25 Tryd.sizeOf25 rfl rfl ((s26.trans (sF26_0_1_7.trans (sF26_0_2_8.trans sb6_9))) _ _ hb3_6) rfl rfl ?_
  refine R.mvE rfl (by conv => lhs; whnf) ?_
  refine R.bs rfl (run_buildSlice1 Tryd.underlying29 Tryd.sizeOf32 Tryd.zeroValue32 rfl rfl) ?_
  intro b33
  have w33 : OwnS (intE .u64) 32 Hb6_9 (.slice (some ⟨b33, 0, none⟩) 1 1) [r20.2.1] [(b33, .cells #[.int .u64 (r20.2.1)] 32)] := OwnS.lit (xs := [r20.2.1]) (cellsOf_cons (a := [.int .u64 (r20.2.1)]) rfl cellsOf_nil) (by show 1 ≤ maxLen; decide)
  refine TL.shut .hd ?_
  intro HF33_10 sF33_10 qF33_10
  have fF33_10 := OwnS.read w33 sF33_10 qF33_10
  obtain ⟨r34, er34⟩ : ∃ r, r = (alloc_Give_m r20.1 [r20.2.1]) := ⟨_, rfl⟩
  refine TL.call [] rfl rfl rfl (alloc_Give_c _ ((s15.trans (sF15_0_1_1.trans (sF15_0_2_2.trans (sb1_3.trans (s20.trans (sF20_0_1_4.trans (sF20_0_2_5.trans (sb3_6.trans (s26.trans (sF26_0_1_7.trans (sF26_0_2_8.trans (sb6_9.trans sF33_10)))))))))))) _ _ hG0) r20.1 _ (fF20_0_1_4.mono (sF20_0_2_5.trans (sb3_6.trans (s26.trans (sF26_0_1_7.trans (sF26_0_2_8.trans (sb6_9.trans sF33_10))))))) _ (fF20_0_2_5.mono (sb3_6.trans (s26.trans (sF26_0_1_7.trans (sF26_0_2_8.trans (sb6_9.trans sF33_10)))))) _ [r20.2.1] fF33_10 (by first | omega | (simp; done) | (simp; omega) | (simp at *; omega)) (by first | omega | (simp; done) | (simp; omega) | (simp at *; omega)) (by first | omega | (simp; done) | (simp; omega) | (simp at *; omega))) ?_
  intro v34 H34 L34 s34 q34
  rw [← er34] at q34
  obtain ⟨u34_0_1, u34_0_2, c34_0_1, c34_0_2, rfl, rfl, w34_0_1, w34_0_2⟩ := q34
  obtain ⟨A34_0_1, p34_0_1, rfl, m34_0_1, n34_0_1⟩ := OwnS.shape w34_0_1
  obtain ⟨A34_0_2, p34_0_2, rfl, m34_0_2, n34_0_2⟩ := OwnS.shape w34_0_2
  have tt34 : r34.1.2.1.length ≤ 1100000 ∧ r34.1.2.2.length ≤ 1100000 := by rw [er34]; exact give_len (by first | omega | (simp; done) | (simp; omega) | (simp at *; omega)) (by first | omega | (simp; done) | (simp; omega) | (simp at *; omega)) (by first | omega | (simp; done) | (simp; omega) | (simp at *; omega))
  refine R.mvE rfl (by conv => lhs; whnf) ?_
  refine R.ext rfl rfl rfl ?_
  refine R.ext rfl rfl rfl ?_
  refine R.alloc Tryd.zeroValue25 rfl ?_
  intro b9
  refine R.stX (old := [.int .i64 0, .slice none 0 0, .slice none 0 0]) (l := [.int .i64 (r34.1.1), .slice A34_0_1 r34.1.2.1.length p34_0_1, .slice A34_0_2 r34.1.2.2.length p34_0_2]) (new := [.int .i64 (r34.1.1), .slice A34_0_1 r34.1.2.1.length p34_0_1, .slice A34_0_2 r34.1.2.2.length p34_0_2]) (et := 25) Tryd.sizeOf25 rfl rfl rfl rfl rfl (by show 0 + 3 ≤ 3; decide) rfl (all_one rfl) .hd ?_
  refine R.asE rfl (by conv => lhs; whnf) ?_
  refine TL.shut (.tl .hd) ?_
  intro HF34_0_1_11 sF34_0_1_11 qF34_0_1_11
  have fF34_0_1_11 := OwnS.read w34_0_1 sF34_0_1_11 qF34_0_1_11
  refine TL.shut (.tl .hd) ?_
  intro HF34_0_2_12 sF34_0_2_12 qF34_0_2_12
  have fF34_0_2_12 := OwnS.read (OwnS.mono w34_0_2 sF34_0_1_11) sF34_0_2_12 qF34_0_2_12
  refine TL.shut .hd ?_
  intro Hb9_13 sb9_13 qb9_13
  have hb9_13 : Hb9_13 b9 = some (.cells #[.int .i64 (r34.1.1), .slice A34_0_1 r34.1.2.1.length p34_0_1, .slice A34_0_2 r34.1.2.2.length p34_0_2] 25) := shut1 qb9_13
  refine TL.nil (Post.thnN ?_)
  refine T.seq ?_
  refine T.region ?_
  refine R.ldXH (cs := [.int .i64 (r34.1.1), .slice A34_0_1 r34.1.2.1.length p34_0_1, .slice A34_0_2 r34.1.2.2.length p34_0_2]) (l := [.int .i64 (r34.1.1), .slice A34_0_1 r34.1.2.1.length p34_0_1, .slice A34_0_2 r34.1.2.2.length p34_0_2]) Tryd.isAgg25 Tryd.sizeOf25 rfl rfl hb9_13 rfl rfl ?_
  obtain ⟨r39, er39⟩ : ∃ r, r = (alloc_Take_m r34.1) := ⟨_, rfl⟩
  refine TL.call [] rfl rfl rfl (alloc_Take_c _ ((s15.trans (sF15_0_1_1.trans (sF15_0_2_2.trans (sb1_3.trans (s20.trans (sF20_0_1_4.trans (sF20_0_2_5.trans (sb3_6.trans (s26.trans (sF26_0_1_7.trans (sF26_0_2_8.trans (sb6_9.trans (sF33_10.trans (s34.trans (sF34_0_1_11.trans (sF34_0_2_12.trans sb9_13)))))))))))))))) _ _ hG0) r34.1 _ (fF34_0_1_11.mono (sF34_0_2_12.trans sb9_13)) _ (fF34_0_2_12.mono sb9_13) (by first | omega | (simp; done) | (simp; omega) | (simp at *; omega)) (by first | omega | (simp; done) | (simp; omega) | (simp at *; omega))) ?_
  intro v39 H39 L39 s39 q39
  rw [← er39] at q39
  obtain ⟨u39_0_1, u39_0_2, c39_0_1, c39_0_2, rfl, rfl, w39_0_1, w39_0_2⟩ := q39
  obtain ⟨A39_0_1, p39_0_1, rfl, m39_0_1, n39_0_1⟩ := OwnS.shape w39_0_1
  obtain ⟨A39_0_2, p39_0_2, rfl, m39_0_2, n39_0_2⟩ := OwnS.shape w39_0_2
  have tt39 : r39.1.2.1.length ≤ 1100000 ∧ r39.1.2.2.length ≤ 1100000 := by rw [er39]; exact take_len (by first | omega | (simp; done) | (simp; omega) | (simp at *; omega))
  refine R.mvE rfl (by conv => lhs; whnf) ?_
  refine R.ext rfl rfl rfl ?_
  refine R.ext rfl rfl rfl ?_
  refine R.ext rfl rfl rfl ?_
  refine R.alloc Tryd.zeroValue25 rfl ?_
  intro b11
  refine R.stX (old := [.int .i64 0, .slice none 0 0, .slice none 0 0]) (l := [.int .i64 (r39.1.1), .slice A39_0_1 r39.1.2.1.length p39_0_1, .slice A39_0_2 r39.1.2.2.length p39_0_2]) (new := [.int .i64 (r39.1.1), .slice A39_0_1 r39.1.2.1.length p39_0_1, .slice A39_0_2 r39.1.2.2.length p39_0_2]) (et := 25) Tryd.sizeOf25 rfl rfl rfl rfl rfl (by show 0 + 3 ≤ 3; decide) rfl (all_one rfl) .hd ?_
  refine R.asE rfl (by conv => lhs; whnf) ?_
  refine R.asE rfl (by conv => lhs; whnf) ?_
  refine TL.shut (.tl .hd) ?_
  intro HF39_0_1_14 sF39_0_1_14 qF39_0_1_14
  have fF39_0_1_14 := OwnS.read w39_0_1 sF39_0_1_14 qF39_0_1_14
  refine TL.shut (.tl .hd) ?_
  intro HF39_0_2_15 sF39_0_2_15 qF39_0_2_15
  have fF39_0_2_15 := OwnS.read (OwnS.mono w39_0_2 sF39_0_1_14) sF39_0_2_15 qF39_0_2_15
  refine TL.shut .hd ?_
  intro Hb11_16 sb11_16 qb11_16
  have hb11_16 : Hb11_16 b11 = some (.cells #[.int .i64 (r39.1.1), .slice A39_0_1 r39.1.2.1.length p39_0_1, .slice A39_0_2 r39.1.2.2.length p39_0_2] 25) := shut1 qb11_16
  refine TL.nil (Post.thnN ?_)
  refine T.seq ?_
  refine T.region ?_
  refine R.mvE rfl (by conv => lhs; whnf) ?_
  refine R.eql rfl rfl rfl ?_
  refine R.mvE rfl (by conv => lhs; whnf) ?_
  refine TL.gsplitD 45 rfl (fun g45 => ?_) (fun g45 => ?_)
  · refine R.mvE rfl (by conv => lhs; whnf) ?_
    refine R.eql rfl rfl rfl ?_
    refine R.pkTE rfl rfl (by conv => lhs; whnf) ?_
    refine R.mvE rfl (by conv => lhs; whnf) ?_
    refine TL.gsplitD 49 rfl (fun g49 => ?_) (fun g49 => ?_)
    · refine R.mvE rfl (by conv => lhs; whnf) ?_
      refine R.eql rfl rfl rfl ?_
      refine R.pkTE rfl rfl (by conv => lhs; whnf) ?_
      refine R.mvE rfl (by conv => lhs; whnf) ?_
      refine TL.gsplitD 53 rfl (fun g53 => ?_) (fun g53 => ?_)
      · refine R.mvE rfl (by conv => lhs; whnf) ?_
        refine R.eql rfl rfl rfl ?_
        refine R.pkTE rfl rfl (by conv => lhs; whnf) ?_
        refine R.mvE rfl (by conv => lhs; whnf) ?_
        refine TL.gsplitD 57 rfl (fun g57 => ?_) (fun g57 => ?_)
        · refine R.mvE rfl (by conv => lhs; whnf) ?_
          refine R.eql rfl rfl rfl ?_
          refine R.pkTE rfl rfl (by conv => lhs; whnf) ?_
          refine R.mvE rfl (by conv => lhs; whnf) ?_
          refine TL.gsplitD 61 rfl (fun g61 => ?_) (fun g61 => ?_)
          · refine R.mvE rfl (by conv => lhs; whnf) ?_
            refine R.eql rfl rfl rfl ?_
            refine R.pkTE rfl rfl (by conv => lhs; whnf) ?_
            refine R.mvE rfl (by conv => lhs; whnf) ?_
            refine TL.gsplitD 65 rfl (fun g65 => ?_) (fun g65 => ?_)
            · refine R.mvE rfl (by conv => lhs; whnf) ?_
              refine R.eql rfl rfl rfl ?_
              refine R.pkTE rfl rfl (by conv => lhs; whnf) ?_
              refine R.mvE rfl (by conv => lhs; whnf) ?_
              refine TL.gsplitD 69 rfl (fun g69 => ?_) (fun g69 => ?_)
              · refine R.ldXH (cs := [.int .i64 (r39.1.1), .slice A39_0_1 r39.1.2.1.length p39_0_1, .slice A39_0_2 r39.1.2.2.length p39_0_2]) (l := [.int .i64 (r39.1.1), .slice A39_0_1 r39.1.2.1.length p39_0_1, .slice A39_0_2 r39.1.2.2.length p39_0_2]) Tryd.isAgg25 Tryd.sizeOf25 rfl rfl hb11_16 rfl rfl ?_
                refine R.mvE rfl (by conv => lhs; whnf) ?_
                refine R.callv rfl rfl rfl (alloc_Alive_c _ ((s15.trans (sF15_0_1_1.trans (sF15_0_2_2.trans (sb1_3.trans (s20.trans (sF20_0_1_4.trans (sF20_0_2_5.trans (sb3_6.trans (s26.trans (sF26_0_1_7.trans (sF26_0_2_8.trans (sb6_9.trans (sF33_10.trans (s34.trans (sF34_0_1_11.trans (sF34_0_2_12.trans (sb9_13.trans (s39.trans (sF39_0_1_14.trans (sF39_0_2_15.trans sb11_16)))))))))))))))))))) _ _ hG0) r39.1 _ (fF39_0_1_14.mono (sF39_0_2_15.trans sb11_16)) _ (fF39_0_2_15.mono sb11_16) (r39.2.1) (by first | omega | (simp; done) | (simp; omega) | (simp at *; omega)) (by first | omega | (simp; done) | (simp; omega) | (simp at *; omega))) ?_
                refine R.pkTE rfl rfl (by conv => lhs; whnf) ?_
                refine R.mvE rfl (by conv => lhs; whnf) ?_
                refine TL.gsplit 74 rfl (fun g74 => ?_) (fun g74 => ?_)
                · refine R.ldXH (cs := [.int .i64 (r39.1.1), .slice A39_0_1 r39.1.2.1.length p39_0_1, .slice A39_0_2 r39.1.2.2.length p39_0_2]) (l := [.int .i64 (r39.1.1), .slice A39_0_1 r39.1.2.1.length p39_0_1, .slice A39_0_2 r39.1.2.2.length p39_0_2]) Tryd.isAgg25 Tryd.sizeOf25 rfl rfl hb11_16 rfl rfl ?_
                  refine R.mvE rfl (by conv => lhs; whnf) ?_
                  refine R.callv rfl rfl rfl (alloc_Alive_c _ ((s15.trans (sF15_0_1_1.trans (sF15_0_2_2.trans (sb1_3.trans (s20.trans (sF20_0_1_4.trans (sF20_0_2_5.trans (sb3_6.trans (s26.trans (sF26_0_1_7.trans (sF26_0_2_8.trans (sb6_9.trans (sF33_10.trans (s34.trans (sF34_0_1_11.trans (sF34_0_2_12.trans (sb9_13.trans (s39.trans (sF39_0_1_14.trans (sF39_0_2_15.trans sb11_16)))))))))))))))))))) _ _ hG0) r39.1 _ (fF39_0_1_14.mono (sF39_0_2_15.trans sb11_16)) _ (fF39_0_2_15.mono sb11_16) (r20.2.1) (by first | omega | (simp; done) | (simp; omega) | (simp at *; omega)) (by first | omega | (simp; done) | (simp; omega) | (simp at *; omega))) ?_
                  refine R.not rfl rfl ?_
                  refine R.pkTE rfl rfl (by conv => lhs; whnf) ?_
                  refine R.mvE rfl (by conv => lhs; whnf) ?_
                  refine TL.gsplit 80 rfl (fun g80 => ?_) (fun g80 => ?_)
                  · refine R.ldXH (cs := [.int .i64 (r39.1.1), .slice A39_0_1 r39.1.2.1.length p39_0_1, .slice A39_0_2 r39.1.2.2.length p39_0_2]) (l := [.int .i64 (r39.1.1), .slice A39_0_1 r39.1.2.1.length p39_0_1, .slice A39_0_2 r39.1.2.2.length p39_0_2]) Tryd.isAgg25 Tryd.sizeOf25 rfl rfl hb11_16 rfl rfl ?_
                    obtain ⟨r82, er82⟩ : ∃ r, r = (alloc_All_m r39.1) := ⟨_, rfl⟩
                    refine TL.call [] rfl rfl rfl (alloc_All_c _ ((s15.trans (sF15_0_1_1.trans (sF15_0_2_2.trans (sb1_3.trans (s20.trans (sF20_0_1_4.trans (sF20_0_2_5.trans (sb3_6.trans (s26.trans (sF26_0_1_7.trans (sF26_0_2_8.trans (sb6_9.trans (sF33_10.trans (s34.trans (sF34_0_1_11.trans (sF34_0_2_12.trans (sb9_13.trans (s39.trans (sF39_0_1_14.trans (sF39_0_2_15.trans sb11_16)))))))))))))))))))) _ _ hG0) r39.1 _ (fF39_0_1_14.mono (sF39_0_2_15.trans sb11_16)) _ (fF39_0_2_15.mono sb11_16) (by first | omega | (simp; done) | (simp; omega) | (simp at *; omega)) (by first | omega | (simp; done) | (simp; omega) | (simp at *; omega))) ?_
                    intro v82 H82 L82 s82 q82
                    rw [← er82] at q82
                    obtain ⟨u82_0_0, c82_0_0, rfl, rfl, w82_0_0⟩ := q82
                    obtain ⟨A82_0_0, p82_0_0, rfl, m82_0_0, n82_0_0⟩ := OwnS.shape w82_0_0
                    have ta82 : r82.length ≤ 2000000 := by rw [er82]; exact all_len (by first | omega | (simp; done) | (simp; omega) | (simp at *; omega))
                    refine R.len Tryd.underlying29 rfl rfl ?_
                    refine R.eql rfl rfl rfl ?_
                    refine R.pkTE rfl rfl (by conv => lhs; whnf) ?_
                    refine R.asE rfl (by conv => lhs; whnf) ?_
                    refine TL.nil (Post.thnN ?_)
                    refine T.has Has.nil ?_
                    refine T.ret ?_
                    have hM : windroselaw02_wakes_m = (decide ((r82.length : Int) = 3)) := by subst er82; subst er39; subst er34; subst er26; subst er20; subst er15; rw [windroselaw02_wakes_m, LR.seq_go, LR.seq_go, LR.seq_go, LR.seq_go, LR.seq_go, if_pos g45, if_pos g49, if_pos g53, if_pos g57, if_pos g61, if_pos g65, if_pos g69, if_t g74, if_t g80, LR.seq_go]
                    exact fin1L (v := .bool (decide ((r82.length : Int) = 3))) [] rfl rfl (List.Sublist.refl _) ⟨rfl, by first | rw [hM] | rfl⟩
                  · refine TL.off rfl rfl rfl ?_
                    refine TL.off rfl rfl rfl ?_
                    refine TL.off rfl rfl rfl ?_
                    refine TL.off rfl rfl rfl ?_
                    refine R.pkFE rfl rfl (by conv => lhs; whnf) ?_
                    refine R.asE rfl (by conv => lhs; whnf) ?_
                    refine TL.nil (Post.thnN ?_)
                    refine T.has Has.nil ?_
                    refine T.ret ?_
                    have hM : windroselaw02_wakes_m = false := by subst er39; subst er34; subst er26; subst er20; subst er15; rw [windroselaw02_wakes_m, LR.seq_go, LR.seq_go, LR.seq_go, LR.seq_go, LR.seq_go, if_pos g45, if_pos g49, if_pos g53, if_pos g57, if_pos g61, if_pos g65, if_pos g69, if_t g74, if_f g80]
                    exact fin1L (v := .bool false) [] rfl rfl (List.Sublist.refl _) ⟨rfl, by first | rw [hM] | rfl⟩
                · refine TL.off rfl rfl rfl ?_
                  refine TL.off rfl rfl rfl ?_
                  refine TL.off rfl rfl rfl ?_
                  refine TL.off rfl rfl rfl ?_
                  refine R.pkFE rfl rfl (by conv => lhs; whnf) ?_
                  refine R.mvE rfl (by conv => lhs; whnf) ?_
                  refine TL.off rfl rfl rfl ?_
                  refine TL.off rfl rfl rfl ?_
                  refine TL.off rfl rfl rfl ?_
                  refine TL.off rfl rfl rfl ?_
                  refine R.pkFE rfl rfl (by conv => lhs; whnf) ?_
                  refine R.asE rfl (by conv => lhs; whnf) ?_
                  refine TL.nil (Post.thnN ?_)
                  refine T.has Has.nil ?_
                  refine T.ret ?_
                  have hM : windroselaw02_wakes_m = false := by subst er39; subst er34; subst er26; subst er20; subst er15; rw [windroselaw02_wakes_m, LR.seq_go, LR.seq_go, LR.seq_go, LR.seq_go, LR.seq_go, if_pos g45, if_pos g49, if_pos g53, if_pos g57, if_pos g61, if_pos g65, if_pos g69, if_f g74]
                  exact fin1L (v := .bool false) [] rfl rfl (List.Sublist.refl _) ⟨rfl, by first | rw [hM] | rfl⟩
              · refine TL.off rfl rfl rfl ?_
                refine TL.off rfl rfl rfl ?_
                refine TL.off rfl rfl rfl ?_
                refine R.pkFE rfl rfl (by conv => lhs; whnf) ?_
                refine R.mvE rfl (by conv => lhs; whnf) ?_
                refine TL.off rfl rfl rfl ?_
                refine TL.off rfl rfl rfl ?_
                refine TL.off rfl rfl rfl ?_
                refine TL.off rfl rfl rfl ?_
                refine R.pkFE rfl rfl (by conv => lhs; whnf) ?_
                refine R.mvE rfl (by conv => lhs; whnf) ?_
                refine TL.off rfl rfl rfl ?_
                refine TL.off rfl rfl rfl ?_
                refine TL.off rfl rfl rfl ?_
                refine TL.off rfl rfl rfl ?_
                refine R.pkFE rfl rfl (by conv => lhs; whnf) ?_
                refine R.asE rfl (by conv => lhs; whnf) ?_
                refine TL.nil (Post.thnN ?_)
                refine T.has Has.nil ?_
                refine T.ret ?_
                have hM : windroselaw02_wakes_m = false := by subst er39; subst er34; subst er26; subst er20; subst er15; rw [windroselaw02_wakes_m, LR.seq_go, LR.seq_go, LR.seq_go, LR.seq_go, LR.seq_go, if_pos g45, if_pos g49, if_pos g53, if_pos g57, if_pos g61, if_pos g65, if_neg g69]
                exact fin1L (v := .bool false) [] rfl rfl (List.Sublist.refl _) ⟨rfl, by first | rw [hM] | rfl⟩
            · refine TL.off rfl rfl rfl ?_
              refine TL.off rfl rfl rfl ?_
              refine R.pkFE rfl rfl (by conv => lhs; whnf) ?_
              refine R.mvE rfl (by conv => lhs; whnf) ?_
              refine TL.off rfl rfl rfl ?_
              refine TL.off rfl rfl rfl ?_
              refine TL.off rfl rfl rfl ?_
              refine R.pkFE rfl rfl (by conv => lhs; whnf) ?_
              refine R.mvE rfl (by conv => lhs; whnf) ?_
              refine TL.off rfl rfl rfl ?_
              refine TL.off rfl rfl rfl ?_
              refine TL.off rfl rfl rfl ?_
              refine TL.off rfl rfl rfl ?_
              refine R.pkFE rfl rfl (by conv => lhs; whnf) ?_
              refine R.mvE rfl (by conv => lhs; whnf) ?_
              refine TL.off rfl rfl rfl ?_
              refine TL.off rfl rfl rfl ?_
              refine TL.off rfl rfl rfl ?_
              refine TL.off rfl rfl rfl ?_
              refine R.pkFE rfl rfl (by conv => lhs; whnf) ?_
              refine R.asE rfl (by conv => lhs; whnf) ?_
              refine TL.nil (Post.thnN ?_)
              refine T.has Has.nil ?_
              refine T.ret ?_
              have hM : windroselaw02_wakes_m = false := by subst er39; subst er34; subst er26; subst er20; subst er15; rw [windroselaw02_wakes_m, LR.seq_go, LR.seq_go, LR.seq_go, LR.seq_go, LR.seq_go, if_pos g45, if_pos g49, if_pos g53, if_pos g57, if_pos g61, if_neg g65]
              exact fin1L (v := .bool false) [] rfl rfl (List.Sublist.refl _) ⟨rfl, by first | rw [hM] | rfl⟩
          · refine TL.off rfl rfl rfl ?_
            refine TL.off rfl rfl rfl ?_
            refine R.pkFE rfl rfl (by conv => lhs; whnf) ?_
            refine R.mvE rfl (by conv => lhs; whnf) ?_
            refine TL.off rfl rfl rfl ?_
            refine TL.off rfl rfl rfl ?_
            refine R.pkFE rfl rfl (by conv => lhs; whnf) ?_
            refine R.mvE rfl (by conv => lhs; whnf) ?_
            refine TL.off rfl rfl rfl ?_
            refine TL.off rfl rfl rfl ?_
            refine TL.off rfl rfl rfl ?_
            refine R.pkFE rfl rfl (by conv => lhs; whnf) ?_
            refine R.mvE rfl (by conv => lhs; whnf) ?_
            refine TL.off rfl rfl rfl ?_
            refine TL.off rfl rfl rfl ?_
            refine TL.off rfl rfl rfl ?_
            refine TL.off rfl rfl rfl ?_
            refine R.pkFE rfl rfl (by conv => lhs; whnf) ?_
            refine R.mvE rfl (by conv => lhs; whnf) ?_
            refine TL.off rfl rfl rfl ?_
            refine TL.off rfl rfl rfl ?_
            refine TL.off rfl rfl rfl ?_
            refine TL.off rfl rfl rfl ?_
            refine R.pkFE rfl rfl (by conv => lhs; whnf) ?_
            refine R.asE rfl (by conv => lhs; whnf) ?_
            refine TL.nil (Post.thnN ?_)
            refine T.has Has.nil ?_
            refine T.ret ?_
            have hM : windroselaw02_wakes_m = false := by subst er39; subst er34; subst er26; subst er20; subst er15; rw [windroselaw02_wakes_m, LR.seq_go, LR.seq_go, LR.seq_go, LR.seq_go, LR.seq_go, if_pos g45, if_pos g49, if_pos g53, if_pos g57, if_neg g61]
            exact fin1L (v := .bool false) [] rfl rfl (List.Sublist.refl _) ⟨rfl, by first | rw [hM] | rfl⟩
        · refine TL.off rfl rfl rfl ?_
          refine TL.off rfl rfl rfl ?_
          refine R.pkFE rfl rfl (by conv => lhs; whnf) ?_
          refine R.mvE rfl (by conv => lhs; whnf) ?_
          refine TL.off rfl rfl rfl ?_
          refine TL.off rfl rfl rfl ?_
          refine R.pkFE rfl rfl (by conv => lhs; whnf) ?_
          refine R.mvE rfl (by conv => lhs; whnf) ?_
          refine TL.off rfl rfl rfl ?_
          refine TL.off rfl rfl rfl ?_
          refine R.pkFE rfl rfl (by conv => lhs; whnf) ?_
          refine R.mvE rfl (by conv => lhs; whnf) ?_
          refine TL.off rfl rfl rfl ?_
          refine TL.off rfl rfl rfl ?_
          refine TL.off rfl rfl rfl ?_
          refine R.pkFE rfl rfl (by conv => lhs; whnf) ?_
          refine R.mvE rfl (by conv => lhs; whnf) ?_
          refine TL.off rfl rfl rfl ?_
          refine TL.off rfl rfl rfl ?_
          refine TL.off rfl rfl rfl ?_
          refine TL.off rfl rfl rfl ?_
          refine R.pkFE rfl rfl (by conv => lhs; whnf) ?_
          refine R.mvE rfl (by conv => lhs; whnf) ?_
          refine TL.off rfl rfl rfl ?_
          refine TL.off rfl rfl rfl ?_
          refine TL.off rfl rfl rfl ?_
          refine TL.off rfl rfl rfl ?_
          refine R.pkFE rfl rfl (by conv => lhs; whnf) ?_
          refine R.asE rfl (by conv => lhs; whnf) ?_
          refine TL.nil (Post.thnN ?_)
          refine T.has Has.nil ?_
          refine T.ret ?_
          have hM : windroselaw02_wakes_m = false := by subst er39; subst er34; subst er26; subst er20; subst er15; rw [windroselaw02_wakes_m, LR.seq_go, LR.seq_go, LR.seq_go, LR.seq_go, LR.seq_go, if_pos g45, if_pos g49, if_pos g53, if_neg g57]
          exact fin1L (v := .bool false) [] rfl rfl (List.Sublist.refl _) ⟨rfl, by first | rw [hM] | rfl⟩
      · refine TL.off rfl rfl rfl ?_
        refine TL.off rfl rfl rfl ?_
        refine R.pkFE rfl rfl (by conv => lhs; whnf) ?_
        refine R.mvE rfl (by conv => lhs; whnf) ?_
        refine TL.off rfl rfl rfl ?_
        refine TL.off rfl rfl rfl ?_
        refine R.pkFE rfl rfl (by conv => lhs; whnf) ?_
        refine R.mvE rfl (by conv => lhs; whnf) ?_
        refine TL.off rfl rfl rfl ?_
        refine TL.off rfl rfl rfl ?_
        refine R.pkFE rfl rfl (by conv => lhs; whnf) ?_
        refine R.mvE rfl (by conv => lhs; whnf) ?_
        refine TL.off rfl rfl rfl ?_
        refine TL.off rfl rfl rfl ?_
        refine R.pkFE rfl rfl (by conv => lhs; whnf) ?_
        refine R.mvE rfl (by conv => lhs; whnf) ?_
        refine TL.off rfl rfl rfl ?_
        refine TL.off rfl rfl rfl ?_
        refine TL.off rfl rfl rfl ?_
        refine R.pkFE rfl rfl (by conv => lhs; whnf) ?_
        refine R.mvE rfl (by conv => lhs; whnf) ?_
        refine TL.off rfl rfl rfl ?_
        refine TL.off rfl rfl rfl ?_
        refine TL.off rfl rfl rfl ?_
        refine TL.off rfl rfl rfl ?_
        refine R.pkFE rfl rfl (by conv => lhs; whnf) ?_
        refine R.mvE rfl (by conv => lhs; whnf) ?_
        refine TL.off rfl rfl rfl ?_
        refine TL.off rfl rfl rfl ?_
        refine TL.off rfl rfl rfl ?_
        refine TL.off rfl rfl rfl ?_
        refine R.pkFE rfl rfl (by conv => lhs; whnf) ?_
        refine R.asE rfl (by conv => lhs; whnf) ?_
        refine TL.nil (Post.thnN ?_)
        refine T.has Has.nil ?_
        refine T.ret ?_
        have hM : windroselaw02_wakes_m = false := by subst er39; subst er34; subst er26; subst er20; subst er15; rw [windroselaw02_wakes_m, LR.seq_go, LR.seq_go, LR.seq_go, LR.seq_go, LR.seq_go, if_pos g45, if_pos g49, if_neg g53]
        exact fin1L (v := .bool false) [] rfl rfl (List.Sublist.refl _) ⟨rfl, by first | rw [hM] | rfl⟩
    · refine TL.off rfl rfl rfl ?_
      refine TL.off rfl rfl rfl ?_
      refine R.pkFE rfl rfl (by conv => lhs; whnf) ?_
      refine R.mvE rfl (by conv => lhs; whnf) ?_
      refine TL.off rfl rfl rfl ?_
      refine TL.off rfl rfl rfl ?_
      refine R.pkFE rfl rfl (by conv => lhs; whnf) ?_
      refine R.mvE rfl (by conv => lhs; whnf) ?_
      refine TL.off rfl rfl rfl ?_
      refine TL.off rfl rfl rfl ?_
      refine R.pkFE rfl rfl (by conv => lhs; whnf) ?_
      refine R.mvE rfl (by conv => lhs; whnf) ?_
      refine TL.off rfl rfl rfl ?_
      refine TL.off rfl rfl rfl ?_
      refine R.pkFE rfl rfl (by conv => lhs; whnf) ?_
      refine R.mvE rfl (by conv => lhs; whnf) ?_
      refine TL.off rfl rfl rfl ?_
      refine TL.off rfl rfl rfl ?_
      refine R.pkFE rfl rfl (by conv => lhs; whnf) ?_
      refine R.mvE rfl (by conv => lhs; whnf) ?_
      refine TL.off rfl rfl rfl ?_
      refine TL.off rfl rfl rfl ?_
      refine TL.off rfl rfl rfl ?_
      refine R.pkFE rfl rfl (by conv => lhs; whnf) ?_
      refine R.mvE rfl (by conv => lhs; whnf) ?_
      refine TL.off rfl rfl rfl ?_
      refine TL.off rfl rfl rfl ?_
      refine TL.off rfl rfl rfl ?_
      refine TL.off rfl rfl rfl ?_
      refine R.pkFE rfl rfl (by conv => lhs; whnf) ?_
      refine R.mvE rfl (by conv => lhs; whnf) ?_
      refine TL.off rfl rfl rfl ?_
      refine TL.off rfl rfl rfl ?_
      refine TL.off rfl rfl rfl ?_
      refine TL.off rfl rfl rfl ?_
      refine R.pkFE rfl rfl (by conv => lhs; whnf) ?_
      refine R.asE rfl (by conv => lhs; whnf) ?_
      refine TL.nil (Post.thnN ?_)
      refine T.has Has.nil ?_
      refine T.ret ?_
      have hM : windroselaw02_wakes_m = false := by subst er39; subst er34; subst er26; subst er20; subst er15; rw [windroselaw02_wakes_m, LR.seq_go, LR.seq_go, LR.seq_go, LR.seq_go, LR.seq_go, if_pos g45, if_neg g49]
      exact fin1L (v := .bool false) [] rfl rfl (List.Sublist.refl _) ⟨rfl, by first | rw [hM] | rfl⟩
  · refine TL.off rfl rfl rfl ?_
    refine TL.off rfl rfl rfl ?_
    refine R.pkFE rfl rfl (by conv => lhs; whnf) ?_
    refine R.mvE rfl (by conv => lhs; whnf) ?_
    refine TL.off rfl rfl rfl ?_
    refine TL.off rfl rfl rfl ?_
    refine R.pkFE rfl rfl (by conv => lhs; whnf) ?_
    refine R.mvE rfl (by conv => lhs; whnf) ?_
    refine TL.off rfl rfl rfl ?_
    refine TL.off rfl rfl rfl ?_
    refine R.pkFE rfl rfl (by conv => lhs; whnf) ?_
    refine R.mvE rfl (by conv => lhs; whnf) ?_
    refine TL.off rfl rfl rfl ?_
    refine TL.off rfl rfl rfl ?_
    refine R.pkFE rfl rfl (by conv => lhs; whnf) ?_
    refine R.mvE rfl (by conv => lhs; whnf) ?_
    refine TL.off rfl rfl rfl ?_
    refine TL.off rfl rfl rfl ?_
    refine R.pkFE rfl rfl (by conv => lhs; whnf) ?_
    refine R.mvE rfl (by conv => lhs; whnf) ?_
    refine TL.off rfl rfl rfl ?_
    refine TL.off rfl rfl rfl ?_
    refine R.pkFE rfl rfl (by conv => lhs; whnf) ?_
    refine R.mvE rfl (by conv => lhs; whnf) ?_
    refine TL.off rfl rfl rfl ?_
    refine TL.off rfl rfl rfl ?_
    refine TL.off rfl rfl rfl ?_
    refine R.pkFE rfl rfl (by conv => lhs; whnf) ?_
    refine R.mvE rfl (by conv => lhs; whnf) ?_
    refine TL.off rfl rfl rfl ?_
    refine TL.off rfl rfl rfl ?_
    refine TL.off rfl rfl rfl ?_
    refine TL.off rfl rfl rfl ?_
    refine R.pkFE rfl rfl (by conv => lhs; whnf) ?_
    refine R.mvE rfl (by conv => lhs; whnf) ?_
    refine TL.off rfl rfl rfl ?_
    refine TL.off rfl rfl rfl ?_
    refine TL.off rfl rfl rfl ?_
    refine TL.off rfl rfl rfl ?_
    refine R.pkFE rfl rfl (by conv => lhs; whnf) ?_
    refine R.asE rfl (by conv => lhs; whnf) ?_
    refine TL.nil (Post.thnN ?_)
    refine T.has Has.nil ?_
    refine T.ret ?_
    have hM : windroselaw02_wakes_m = false := by subst er39; subst er34; subst er26; subst er20; subst er15; rw [windroselaw02_wakes_m, LR.seq_go, LR.seq_go, LR.seq_go, LR.seq_go, LR.seq_go, if_neg g45]
    exact fin1L (v := .bool false) [] rfl rfl (List.Sublist.refl _) ⟨rfl, by first | rw [hM] | rfl⟩

end Go.SX

set_option linter.unusedVariables false
set_option linter.unusedSimpArgs false
namespace Go.SX
open Go Go.Proofs

def windroselaw02_AllocMay_l4  : List Int → Nat → Unit → LR (LR (Bool) (Unit)) (Unit)
  | [], kl4, sl4 => .go ()
  | yl4 :: ysl4, kl4, sl4 => if (kl4 : Int) = 6 then (.go ()) else (LR.seq (alloc_New_m yl4) (fun r64 => LR.seq (if (1 : Int) ≤ yl4 then ((decide (yl4 ≤ 1048576))) else false : Bool) (fun sc5 => LR.seq (if sc5 = true then (LR.seq (windroseref02_New_m yl4) (fun r75 => (0, r75.1, r75.2.1, r75.2.2))) else ((2, 0, [], [])) : Int × Int × (List (Int × Bool)) × (List Int)) (fun sc6 => LR.seq (if r64.2 ≠ sc6.1 then true else ((!(windroseref02_Same_m r64.1 ((sc6.2.1, sc6.2.2.1, sc6.2.2.2))))) : Bool) (fun sc7 => if sc7 = true then (.ret (.ret false)) else (windroselaw02_AllocMay_l4 ysl4 (kl4 + 1) ()))))))
def windroselaw02_AllocMay_m (a0 : Int × (List (Int × Bool)) × (List Int)) (a1 : Int × (List (Int × Bool)) × (List Int)) (a2 : List Int) : Bool :=
  if (!windroselaw02_wakes_m) = true then false else (LR.seq (LR.seq (windroselaw02_own_m a0) (fun r19 => LR.seq (windroselaw02_own_m a1) (fun r21 => (r19.1, r19.2.1, r19.2.2, r21.1, r21.2.1, r21.2.2))) : Int × (List (Int × Bool)) × (List Int) × Int × (List (Int × Bool)) × (List Int)) (fun sc1 => LR.seq (if ((decide (((alloc_Check_m ((sc1.1, sc1.2.1, sc1.2.2.1))) : Int) = 0)) != (windroseref02_Right_m ((sc1.1, sc1.2.1, sc1.2.2.1)))) = true then true else (if ((alloc_Check_m ((sc1.1, sc1.2.1, sc1.2.2.1))) : Int) ≠ 0 then (if ((alloc_Check_m ((sc1.1, sc1.2.1, sc1.2.2.1))) : Int) ≠ 120 then true else (LR.seq (windroseref02_Same_m ((sc1.1, sc1.2.1, sc1.2.2.1)) ((sc1.2.2.2.1, sc1.2.2.2.2.1, sc1.2.2.2.2.2))) (fun r43 => if ((alloc_Same_m ((sc1.1, sc1.2.1, sc1.2.2.1)) ((sc1.2.2.2.1, sc1.2.2.2.2.1, sc1.2.2.2.2.2))) != r43) = true then true else (LR.seq (windroselaw02_own_m a0) (fun r49 => (!(alloc_Same_m ((sc1.1, sc1.2.1, sc1.2.2.1)) r49))))))) else (LR.seq (windroseref02_Same_m ((sc1.1, sc1.2.1, sc1.2.2.1)) ((sc1.2.2.2.1, sc1.2.2.2.2.1, sc1.2.2.2.2.2))) (fun r43 => if ((alloc_Same_m ((sc1.1, sc1.2.1, sc1.2.2.1)) ((sc1.2.2.2.1, sc1.2.2.2.2.1, sc1.2.2.2.2.2))) != r43) = true then true else (LR.seq (windroselaw02_own_m a0) (fun r49 => (!(alloc_Same_m ((sc1.1, sc1.2.1, sc1.2.2.1)) r49))))))) : Bool) (fun sc2 => if sc2 = true then false else (LR.on (LR.on (windroselaw02_AllocMay_l4 a2 0 ()) (fun r => r) (fun ol4 => .go ol4) : LR (Bool) (Unit)) (fun r => r) (fun sc3 => LR.seq (windroselaw02_own_m a0) (fun r88 => (windroseref02_Same_m ((sc1.1, sc1.2.1, sc1.2.2.1)) r88)))))))
end Go.SX

set_option linter.unusedVariables false
set_option linter.unusedSimpArgs false
namespace Go.SX
open Go Go.Proofs

def windroselaw02_AllocTakes_l2  : List (List Int) → Nat → (Int × (List (Int × Bool)) × (List Int)) → LR (LR (Bool) (Unit)) (Unit)
  | [], kl2, sl2 => .go ()
  | yl2 :: ysl2, kl2, sl2 => if (kl2 : Int) = 8 then (.go ()) else (LR.seq (windroselaw02_own_m ((sl2.1, sl2.2.1, sl2.2.2))) (fun r31 => LR.seq (alloc_Take_m ((sl2.1, sl2.2.1, sl2.2.2))) (fun r36 => LR.seq (if (windroseref02_Right_m ((sl2.1, sl2.2.1, sl2.2.2))) = true then (LR.seq (windroselaw02_own_m ((sl2.1, sl2.2.1, sl2.2.2))) (fun r44 => LR.seq (windroseref02_Take_m r44) (fun r45 => (r45.2.1, r45.2.2, r45.1.1, r45.1.2.1, r45.1.2.2)))) else ((0, 120, 0, [], [])) : Int × Int × Int × (List (Int × Bool)) × (List Int)) (fun sc3 => LR.seq (if r36.2.2 ≠ sc3.2.1 then true else (if r36.2.1 ≠ sc3.1 then true else ((!(windroseref02_Same_m r36.1 ((sc3.2.2.1, sc3.2.2.2.1, sc3.2.2.2.2)))))) : Bool) (fun sc4 => if sc4 = true then (.ret (.ret false)) else (LR.seq (if r36.2.2 = 0 then (LR.seq (windroselaw02_own_m ((sc3.2.2.1, sc3.2.2.2.1, sc3.2.2.2.2))) (fun r68 => LR.seq (windroselaw02_own_m ((sc3.2.2.1, sc3.2.2.2.1, sc3.2.2.2.2))) (fun r70 => (r70.1, r70.2.1, r70.2.2, r68.1, r68.2.1, r68.2.2)))) else ((r31.1, r31.2.1, r31.2.2, sl2.1, sl2.2.1, sl2.2.2)) : Int × (List (Int × Bool)) × (List Int) × Int × (List (Int × Bool)) × (List Int)) (fun sc5 => LR.seq (alloc_Give_m ((sc5.2.2.2.1, sc5.2.2.2.2.1, sc5.2.2.2.2.2)) (yl2.take ((min yl2.length 8)))) (fun r80 => LR.seq (if (windroseref02_Right_m ((sl2.1, sl2.2.1, sl2.2.2))) = true then (LR.seq (windroselaw02_own_m ((sc5.2.2.2.1, sc5.2.2.2.2.1, sc5.2.2.2.2.2))) (fun r87 => LR.seq (windroseref02_Give_m r87 (yl2.take ((min yl2.length 8)))) (fun r89 => (r89.2, r89.1.1, r89.1.2.1, r89.1.2.2)))) else ((120, 0, [], [])) : Int × Int × (List (Int × Bool)) × (List Int)) (fun sc6 => LR.seq (if r80.2 ≠ sc6.1 then true else ((!(windroseref02_Same_m r80.1 ((sc6.2.1, sc6.2.2.1, sc6.2.2.2))))) : Bool) (fun sc7 => if sc7 = true then (.ret (.ret false)) else (LR.seq (windroseref02_Same_m ((sc5.2.2.2.1, sc5.2.2.2.2.1, sc5.2.2.2.2.2)) ((sc5.1, sc5.2.1, sc5.2.2.1))) (fun r105 => if (!r105) = true then (.ret (.ret false)) else (if r80.2 = 0 then (LR.seq (windroselaw02_own_m ((sc6.2.1, sc6.2.2.1, sc6.2.2.2))) (fun r110 => windroselaw02_AllocTakes_l2 ysl2 (kl2 + 1) ((r110.1, r110.2.1, r110.2.2)))) else (windroselaw02_AllocTakes_l2 ysl2 (kl2 + 1) ((sc5.2.2.2.1, sc5.2.2.2.2.1, sc5.2.2.2.2.2))))))))))))))))
def windroselaw02_AllocTakes_m (a0 : Int × (List (Int × Bool)) × (List Int)) (a1 : List (List Int)) : Bool :=
  if (!windroselaw02_wakes_m) = true then false else (LR.seq (windroselaw02_own_m a0) (fun r20 => LR.on (LR.on (windroselaw02_AllocTakes_l2 a1 0 ((r20.1, r20.2.1, r20.2.2))) (fun r => r) (fun ol2 => .go ol2) : LR (Bool) (Unit)) (fun r => r) (fun sc1 => true)))
set_option maxHeartbeats 3200000 in
theorem windroselaw02_AllocTakes_c (H : Heap) {tG0 : TypeId} (hG0 : H 0 = some (.cells #[.int .i64 0, .bool true] tG0)) (a0 : Int × (List (Int × Bool)) × (List Int)) (va0_1 : Value) (ha0_1 : RdS slotE H va0_1 a0.2.1) (va0_2 : Value) (ha0_2 : RdS (intE .i64) H va0_2 a0.2.2) (va1 : Value) (a1 : List (List Int)) (ha1 : RdS (slE (intE .u64)) H va1 a1) : Fv Tryd.prog (fnv 3) [.agg #[.int .i64 a0.1, va0_1, va0_2], va1] H (.bool (windroselaw02_AllocTakes_m a0 a1)) := by
  refine Fc.of_body (N := 112) Tryd.func3 rfl (by kernel_rfl) rfl rfl ?_
  intro w0
  obtain ⟨Aa0_1, ca0_1, rfl, hca0_1, hda0_1, ha0_1⟩ := ha0_1.shape
  obtain ⟨Aa0_2, ca0_2, rfl, hca0_2, hda0_2, ha0_2⟩ := ha0_2.shape
  obtain ⟨Aa1, ca1, rfl, hca1, hda1, ha1⟩ := ha1.shape
  refine T.seq ?_
  refine T.region ?_
  refine R.box rfl (by conv => lhs; whnf) ?_
  intro b2
  refine R.asE rfl (by conv => lhs; whnf) ?_
  refine TL.shut .hd ?_
  intro Hb2_1 sb2_1 qb2_1
  have hb2_1 : Hb2_1 b2 = some (.cells #[.int .i64 (a0.1), .slice Aa0_1 a0.2.1.length ca0_1, .slice Aa0_2 a0.2.2.length ca0_2] 25) := shut1 qb2_1
  refine TL.nil (Post.thnN ?_)
  refine T.seq ?_
  refine T.seq ?_
  refine T.region ?_
  refine R.callv rfl rfl rfl (windroselaw02_wakes_c _ (sb2_1 _ _ hG0)) ?_
  refine R.not rfl rfl ?_
  refine TL.nil (Post.thnN ?_)
  refine T.cond rfl (fun c18 => ?_) (fun c18 => ?_)
  · refine T.set 18 (.bool true) (congrArg Value.bool c18) ?_
    refine T.seq ?_
    refine T.region ?_
    refine R.asE rfl (by conv => lhs; whnf) ?_
    refine TL.nil (Post.thnN ?_)
    refine T.has Has.nil ?_
    refine T.ret (Post.thnR ?_)
    have hM : windroselaw02_AllocTakes_m a0 a1 = false := by rw [windroselaw02_AllocTakes_m, if_t c18]
    exact fin1L (v := .bool false) [] rfl rfl (List.Sublist.refl _) ⟨rfl, by first | rw [hM] | rfl⟩
  · refine T.set 18 (.bool false) (congrArg Value.bool c18) ?_
    refine T.skip (Post.thnN ?_)
    refine T.seq ?_
    refine T.region ?_
    refine R.ldXH (cs := [.int .i64 (a0.1), .slice Aa0_1 a0.2.1.length ca0_1, .slice Aa0_2 a0.2.2.length ca0_2]) (l := [.int .i64 (a0.1), .slice Aa0_1 a0.2.1.length ca0_1, .slice Aa0_2 a0.2.2.length ca0_2]) Tryd.isAgg25 Tryd.sizeOf25 rfl rfl hb2_1 rfl rfl ?_
    obtain ⟨r20, er20⟩ : ∃ r, r = (windroselaw02_own_m a0) := ⟨_, rfl⟩
    refine TL.call [] rfl rfl rfl (windroselaw02_own_c _ a0 _ (ha0_1.mono sb2_1) _ (ha0_2.mono sb2_1)) ?_
    intro v20 H20 L20 s20 q20
    rw [← er20] at q20
    obtain ⟨u20_0_1, u20_0_2, c20_0_1, c20_0_2, rfl, rfl, w20_0_1, w20_0_2⟩ := q20
    obtain ⟨A20_0_1, p20_0_1, rfl, m20_0_1, n20_0_1⟩ := OwnS.shape w20_0_1
    obtain ⟨A20_0_2, p20_0_2, rfl, m20_0_2, n20_0_2⟩ := OwnS.shape w20_0_2
    have ta20 : r20.2.1.length ≤ 40 := by rw [er20]; simp only [windroselaw02_own_m, List.length_take]; omega
    have tb20 : r20.2.2.length ≤ 40 := by rw [er20]; simp only [windroselaw02_own_m, List.length_take]; omega
    refine TL.shut .hd ?_
    intro HF20_0_1_2 sF20_0_1_2 qF20_0_1_2
    have fF20_0_1_2 := OwnS.read w20_0_1 sF20_0_1_2 qF20_0_1_2
    refine TL.shut .hd ?_
    intro HF20_0_2_3 sF20_0_2_3 qF20_0_2_3
    have fF20_0_2_3 := OwnS.read (OwnS.mono w20_0_2 sF20_0_1_2) sF20_0_2_3 qF20_0_2_3
    refine R.alloc Tryd.zeroValue25 rfl ?_
    intro b5
    refine R.stX (old := [.int .i64 0, .slice none 0 0, .slice none 0 0]) (l := [.int .i64 (r20.1), .slice A20_0_1 r20.2.1.length p20_0_1, .slice A20_0_2 r20.2.2.length p20_0_2]) (new := [.int .i64 (r20.1), .slice A20_0_1 r20.2.1.length p20_0_1, .slice A20_0_2 r20.2.2.length p20_0_2]) (et := 25) Tryd.sizeOf25 rfl rfl rfl rfl rfl (by show 0 + 3 ≤ 3; decide) rfl (all_one rfl) .hd ?_
    refine TL.nil (Post.thnN ?_)
    refine T.seq ?_
    refine T.seq ?_
    refine T.region ?_
    refine R.mvE rfl (by conv => lhs; whnf) ?_
    refine R.len Tryd.underlying26 rfl rfl ?_
    refine R.mvE rfl (by conv => lhs; whnf) ?_
    refine TL.nil (Post.thnN ?_)
    refine T.cutK (ι := Unit) (fun _ H' L' ds' => Has L' [] ∧ (LR.on (windroselaw02_AllocTakes_l2 a1 0 ((r20.1, r20.2.1, r20.2.2))) (fun r => r) (fun ol2 => .go ol2) : LR (Bool) (Unit)) = .go ()) (fun _ => []) ?_ ?_
    · refine T.block ?_
      refine T.loop (ι := Nat × Int × Value × (List (Int × Bool)) × Value × (List Int)) (fun ⟨kl2, nb5l2_0, vb5l2_1, xb5l2_1, vb5l2_2, xb5l2_2⟩ H' L' ds' => kl2 ≤ a1.length ∧ Has L' [[(b5, .cells #[.int .i64 nb5l2_0, vb5l2_1, vb5l2_2] 25)]] ∧ RdS slotE H' vb5l2_1 xb5l2_1 ∧ RdS (intE .i64) H' vb5l2_2 xb5l2_2 ∧ xb5l2_1.length ≤ 40 ∧ xb5l2_2.length ≤ 40 ∧ windroselaw02_AllocTakes_l2 (a1.drop kl2) kl2 ((nb5l2_0, xb5l2_1, xb5l2_2)) = windroselaw02_AllocTakes_l2 a1 0 ((r20.1, r20.2.1, r20.2.2))) (fun ⟨kl2, nb5l2_0, vb5l2_1, xb5l2_1, vb5l2_2, xb5l2_2⟩ => [(23, .int .i64 (kl2 : Int)), (5, .pointer (some ⟨b5, 0, none⟩)), (21, .slice Aa1 a1.length ca1), (22, .int .i64 (a1.length : Int))]) (fun ⟨kl2, nb5l2_0, vb5l2_1, xb5l2_1, vb5l2_2, xb5l2_2⟩ => a1.length - kl2) (0, r20.1, .slice A20_0_1 r20.2.1.length p20_0_1, r20.2.1, .slice A20_0_2 r20.2.2.length p20_0_2, r20.2.2) ?_ ?_ ?_
      · exact ⟨(by omega), (Has.cons .hd Has.nil), (fF20_0_1_2.mono sF20_0_2_3), fF20_0_2_3, (by first | omega | (simp; done) | (simp; omega) | (simp at *; omega)), (by first | omega | (simp; done) | (simp; omega) | (simp at *; omega)), (by rfl)⟩
      · exact ⟨rfl, rfl, rfl, rfl, trivial⟩
      · intro ⟨kl2, nb5l2_0, vb5l2_1, xb5l2_1, vb5l2_2, xb5l2_2⟩ σ_l2 H_l2 L_l2 ds_l2 s_l2 hI_l2
        obtain ⟨hkl2, hI_l2⟩ := hI_l2
        obtain ⟨hLl2, wb5l2_1, wb5l2_2, hBl2_0, hBl2_1, hQl2⟩ := hI_l2
        obtain ⟨Ab5l2_1, pb5l2_1, rfl, mb5l2_1, nb5l2_1_, wb5l2_1⟩ := RdS.shape wb5l2_1
        obtain ⟨Ab5l2_2, pb5l2_2, rfl, mb5l2_2, nb5l2_2_, wb5l2_2⟩ := RdS.shape wb5l2_2
        refine T.has hLl2 ?_
        refine T.seq ?_
        refine T.region ?_
        refine R.lss rfl rfl rfl ?_
        refine TL.nil (Post.thnN ?_)
        refine T.seq ?_
        refine T.condD rfl (fun c24 => ?_) (fun c24 => ?_)
        · have hltl2 : kl2 < a1.length := by omega
          obtain ⟨yl2, hyl2⟩ := getk (xs := a1) (k := kl2) (by omega)
          refine T.skip (Post.thnN ?_)
          refine T.seq ?_
          refine T.block ?_
          refine T.seq ?_
          refine T.region ?_
          refine R.mvE rfl (by conv => lhs; whnf) ?_
          obtain ⟨b26, o26, i26, k26⟩ := RdS.elem (ha1.mono (sb2_1.trans (s20.trans (sF20_0_1_2.trans (sF20_0_2_3.trans s_l2))))) hyl2
          obtain ⟨l26, g26, k26⟩ := k26
          obtain ⟨z26_0, rfl, r26_0⟩ := g26
          obtain ⟨A26_0, p26_0, rfl, m26_0, n26_0, r26_0⟩ := r26_0.shape
          refine R.ixp Tryd.underlying26 Tryd.sizeOf29 rfl rfl rfl (by omega) i26 ?_
          refine R.ldC Tryd.isAgg29 rfl rfl (k26 0 _ rfl) ?_
          refine R.asE rfl (by conv => lhs; whnf) ?_
          refine R.asE rfl (by conv => lhs; whnf) ?_
          refine TL.nil (Post.thnN ?_)
          refine T.seq ?_
          refine T.seq ?_
          refine T.region ?_
          refine R.mvE rfl (by conv => lhs; whnf) ?_
          refine R.eql rfl rfl rfl ?_
          refine TL.nil (Post.thnN ?_)
          refine T.condD rfl (fun c29 => ?_) (fun c29 => ?_)
          · refine T.set 29 (.bool true) (congrArg Value.bool (decide_eq_true c29)) ?_
            refine T.exit (Post.thnE (Post.blkE rfl (Post.thnE (Post.thnE (Post.blkX ?_)))))
            have hEl2 : windroselaw02_AllocTakes_l2 a1 0 ((r20.1, r20.2.1, r20.2.2)) = .go () := (by rw [← hQl2, drop_cons hyl2, windroselaw02_AllocTakes_l2]; rw [if_pos c29])
            refine id (Post.thnN ?_)
            exact ⟨(), s_l2, ⟨Has.nil, (by rw [hEl2, LR.on_go])⟩, trivial⟩
          · refine T.set 29 (.bool false) (congrArg Value.bool (decide_eq_false c29)) ?_
            refine T.skip (Post.thnN ?_)
            refine T.seq ?_
            refine T.region ?_
            refine R.ldX (cs := [.int .i64 nb5l2_0, .slice Ab5l2_1 xb5l2_1.length pb5l2_1, .slice Ab5l2_2 xb5l2_2.length pb5l2_2]) (l := [.int .i64 nb5l2_0, .slice Ab5l2_1 xb5l2_1.length pb5l2_1, .slice Ab5l2_2 xb5l2_2.length pb5l2_2]) Tryd.isAgg25 Tryd.sizeOf25 rfl rfl .hd rfl rfl ?_
            obtain ⟨r31, er31⟩ : ∃ r, r = (windroselaw02_own_m ((nb5l2_0, xb5l2_1, xb5l2_2))) := ⟨_, rfl⟩
            refine TL.call [] rfl rfl rfl (windroselaw02_own_c _ ((nb5l2_0, xb5l2_1, xb5l2_2)) _ wb5l2_1 _ wb5l2_2) ?_
            intro v31 H31 L31 s31 q31
            rw [← er31] at q31
            obtain ⟨u31_0_1, u31_0_2, c31_0_1, c31_0_2, rfl, rfl, w31_0_1, w31_0_2⟩ := q31
            obtain ⟨A31_0_1, p31_0_1, rfl, m31_0_1, n31_0_1⟩ := OwnS.shape w31_0_1
            obtain ⟨A31_0_2, p31_0_2, rfl, m31_0_2, n31_0_2⟩ := OwnS.shape w31_0_2
            have ta31 : r31.2.1.length ≤ 40 := by rw [er31]; simp only [windroselaw02_own_m, List.length_take]; omega
            have tb31 : r31.2.2.length ≤ 40 := by rw [er31]; simp only [windroselaw02_own_m, List.length_take]; omega
            refine R.alloc Tryd.zeroValue25 rfl ?_
            intro b8
            refine R.stX (old := [.int .i64 0, .slice none 0 0, .slice none 0 0]) (l := [.int .i64 (r31.1), .slice A31_0_1 r31.2.1.length p31_0_1, .slice A31_0_2 r31.2.2.length p31_0_2]) (new := [.int .i64 (r31.1), .slice A31_0_1 r31.2.1.length p31_0_1, .slice A31_0_2 r31.2.2.length p31_0_2]) (et := 25) Tryd.sizeOf25 rfl rfl rfl rfl rfl (by show 0 + 3 ≤ 3; decide) rfl (all_one rfl) .hd ?_
            refine TL.nil (Post.thnN ?_)
            refine T.seq ?_
            refine T.region ?_
            refine R.ldX (cs := [.int .i64 nb5l2_0, .slice Ab5l2_1 xb5l2_1.length pb5l2_1, .slice Ab5l2_2 xb5l2_2.length pb5l2_2]) (l := [.int .i64 nb5l2_0, .slice Ab5l2_1 xb5l2_1.length pb5l2_1, .slice Ab5l2_2 xb5l2_2.length pb5l2_2]) Tryd.isAgg25 Tryd.sizeOf25 rfl rfl (.tl (.tl (.tl .hd))) rfl rfl ?_
            refine R.callv rfl rfl rfl (windroseref02_Right_c _ ((nb5l2_0, xb5l2_1, xb5l2_2)) _ (wb5l2_1.mono s31) _ (wb5l2_2.mono s31)) ?_
            refine R.asE rfl (by conv => lhs; whnf) ?_
            refine TL.nil (Post.thnN ?_)
            refine T.seq ?_
            refine T.region ?_
            refine R.ldX (cs := [.int .i64 nb5l2_0, .slice Ab5l2_1 xb5l2_1.length pb5l2_1, .slice Ab5l2_2 xb5l2_2.length pb5l2_2]) (l := [.int .i64 nb5l2_0, .slice Ab5l2_1 xb5l2_1.length pb5l2_1, .slice Ab5l2_2 xb5l2_2.length pb5l2_2]) Tryd.isAgg25 Tryd.sizeOf25 rfl rfl (.tl (.tl (.tl .hd))) rfl rfl ?_
            obtain ⟨r36, er36⟩ : ∃ r, r = (alloc_Take_m ((nb5l2_0, xb5l2_1, xb5l2_2))) := ⟨_, rfl⟩
            refine TL.call [] rfl rfl rfl (alloc_Take_c _ ((sb2_1.trans (s20.trans (sF20_0_1_2.trans (sF20_0_2_3.trans (s_l2.trans s31))))) _ _ hG0) ((nb5l2_0, xb5l2_1, xb5l2_2)) _ (wb5l2_1.mono s31) _ (wb5l2_2.mono s31) (by first | omega | (simp; done) | (simp; omega) | (simp at *; omega)) (by first | omega | (simp; done) | (simp; omega) | (simp at *; omega))) ?_
            intro v36 H36 L36 s36 q36
            rw [← er36] at q36
            obtain ⟨u36_0_1, u36_0_2, c36_0_1, c36_0_2, rfl, rfl, w36_0_1, w36_0_2⟩ := q36
            obtain ⟨A36_0_1, p36_0_1, rfl, m36_0_1, n36_0_1⟩ := OwnS.shape w36_0_1
            obtain ⟨A36_0_2, p36_0_2, rfl, m36_0_2, n36_0_2⟩ := OwnS.shape w36_0_2
            have tt36 : r36.1.2.1.length ≤ 1100000 ∧ r36.1.2.2.length ≤ 1100000 := by rw [er36]; exact take_len (by first | omega | (simp; done) | (simp; omega) | (simp at *; omega))
            refine R.mvE rfl (by conv => lhs; whnf) ?_
            refine R.ext rfl rfl rfl ?_
            refine R.ext rfl rfl rfl ?_
            refine R.ext rfl rfl rfl ?_
            refine R.alloc Tryd.zeroValue25 rfl ?_
            intro b10
            refine R.stX (old := [.int .i64 0, .slice none 0 0, .slice none 0 0]) (l := [.int .i64 (r36.1.1), .slice A36_0_1 r36.1.2.1.length p36_0_1, .slice A36_0_2 r36.1.2.2.length p36_0_2]) (new := [.int .i64 (r36.1.1), .slice A36_0_1 r36.1.2.1.length p36_0_1, .slice A36_0_2 r36.1.2.2.length p36_0_2]) (et := 25) Tryd.sizeOf25 rfl rfl rfl rfl rfl (by show 0 + 3 ≤ 3; decide) rfl (all_one rfl) .hd ?_
            refine R.asE rfl (by conv => lhs; whnf) ?_
            refine R.asE rfl (by conv => lhs; whnf) ?_
            refine TL.nil (Post.thnN ?_)
            refine T.seq ?_
            refine T.region ?_
            refine R.bld (cs := [.int .i64 0, .slice none 0 0, .slice none 0 0]) rfl (fun _ => by kernel_rfl) ?_
            refine R.alloc Tryd.zeroValue25 rfl ?_
            intro b13
            refine R.stX (old := [.int .i64 0, .slice none 0 0, .slice none 0 0]) (l := [.int .i64 0, .slice none 0 0, .slice none 0 0]) (new := [.int .i64 0, .slice none 0 0, .slice none 0 0]) (et := 25) Tryd.sizeOf25 rfl rfl rfl rfl rfl (by show 0 + 3 ≤ 3; decide) rfl (all_one rfl) .hd ?_
            refine R.asE rfl (by conv => lhs; whnf) ?_
            refine R.asE rfl (by conv => lhs; whnf) ?_
            refine TL.nil (Post.thnN ?_)
            refine T.seq ?_
            refine T.seq ?_
            refine T.region ?_
            refine R.mvE rfl (by conv => lhs; whnf) ?_
            refine TL.nil (Post.thnN ?_)
            refine T.cutK (ι := Int × Int × Int × Value × (List (Int × Bool)) × Chunk × Value × (List Int) × Chunk) (fun ⟨n14c3, n15c3, nb13c3_0, vb13c3_1, xb13c3_1, cb13c3_1, vb13c3_2, xb13c3_2, cb13c3_2⟩ H' L' ds' => Has L' [[(b13, .cells #[.int .i64 nb13c3_0, vb13c3_1, vb13c3_2] 25)], [(b10, .cells #[.int .i64 (r36.1.1), .slice A36_0_1 r36.1.2.1.length p36_0_1, .slice A36_0_2 r36.1.2.2.length p36_0_2] 25)], c36_0_1, c36_0_2, [(b8, .cells #[.int .i64 (r31.1), .slice A31_0_1 r31.2.1.length p31_0_1, .slice A31_0_2 r31.2.2.length p31_0_2] 25)], c31_0_1, c31_0_2, [(b5, .cells #[.int .i64 nb5l2_0, .slice Ab5l2_1 xb5l2_1.length pb5l2_1, .slice Ab5l2_2 xb5l2_2.length pb5l2_2] 25)], cb13c3_1, cb13c3_2] ∧ OwnS slotE 101 H' vb13c3_1 xb13c3_1 cb13c3_1 ∧ OwnS (intE .i64) 3 H' vb13c3_2 xb13c3_2 cb13c3_2 ∧ (if (windroseref02_Right_m ((nb5l2_0, xb5l2_1, xb5l2_2))) = true then (LR.seq (windroselaw02_own_m ((nb5l2_0, xb5l2_1, xb5l2_2))) (fun r44 => LR.seq (windroseref02_Take_m r44) (fun r45 => (r45.2.1, r45.2.2, r45.1.1, r45.1.2.1, r45.1.2.2)))) else ((0, 120, 0, [], [])) : Int × Int × Int × (List (Int × Bool)) × (List Int)) = (n14c3, n15c3, nb13c3_0, xb13c3_1, xb13c3_2)) (fun ⟨n14c3, n15c3, nb13c3_0, vb13c3_1, xb13c3_1, cb13c3_1, vb13c3_2, xb13c3_2, cb13c3_2⟩ => [(5, .pointer (some ⟨b5, 0, none⟩)), (7, .slice A26_0 yl2.length p26_0), (8, .pointer (some ⟨b8, 0, none⟩)), (9, .bool ((windroseref02_Right_m ((nb5l2_0, xb5l2_1, xb5l2_2))))), (10, .pointer (some ⟨b10, 0, none⟩)), (11, .int .u64 (r36.2.1)), (12, .int .i64 (r36.2.2)), (13, .pointer (some ⟨b13, 0, none⟩)), (14, .int .u64 n14c3), (15, .int .i64 n15c3), (21, .slice Aa1 a1.length ca1), (22, .int .i64 (a1.length : Int)), (23, .int .i64 (kl2 : Int))]) ?_ ?_
            · refine T.cond rfl (fun c41 => ?_) (fun c41 => ?_)
              · refine T.set 41 (.bool true) (congrArg Value.bool c41) ?_
                have hrt := (right_ref (a := (nb5l2_0, xb5l2_1, xb5l2_2)) (by first | omega | (simp; done) | (simp; omega) | (simp at *; omega)) (by first | omega | (simp; done) | (simp; omega) | (simp at *; omega))).1 c41
                refine T.region ?_
                refine R.ldX (cs := [.int .i64 nb5l2_0, .slice Ab5l2_1 xb5l2_1.length pb5l2_1, .slice Ab5l2_2 xb5l2_2.length pb5l2_2]) (l := [.int .i64 nb5l2_0, .slice Ab5l2_1 xb5l2_1.length pb5l2_1, .slice Ab5l2_2 xb5l2_2.length pb5l2_2]) Tryd.isAgg25 Tryd.sizeOf25 rfl rfl (.tl (.tl (.tl (.tl (.tl (.tl (.tl .hd))))))) rfl rfl ?_
                obtain ⟨r44, er44⟩ : ∃ r, r = (windroselaw02_own_m ((nb5l2_0, xb5l2_1, xb5l2_2))) := ⟨_, rfl⟩
                refine TL.call [] rfl rfl rfl (windroselaw02_own_c _ ((nb5l2_0, xb5l2_1, xb5l2_2)) _ (wb5l2_1.mono (s31.trans s36)) _ (wb5l2_2.mono (s31.trans s36))) ?_
                intro v44 H44 L44 s44 q44
                rw [← er44] at q44
                obtain ⟨u44_0_1, u44_0_2, c44_0_1, c44_0_2, rfl, rfl, w44_0_1, w44_0_2⟩ := q44
                obtain ⟨A44_0_1, p44_0_1, rfl, m44_0_1, n44_0_1⟩ := OwnS.shape w44_0_1
                obtain ⟨A44_0_2, p44_0_2, rfl, m44_0_2, n44_0_2⟩ := OwnS.shape w44_0_2
                have ta44 : r44.2.1.length ≤ 40 := by rw [er44]; simp only [windroselaw02_own_m, List.length_take]; omega
                have tb44 : r44.2.2.length ≤ 40 := by rw [er44]; simp only [windroselaw02_own_m, List.length_take]; omega
                refine TL.shut .hd ?_
                intro HF44_0_1_4 sF44_0_1_4 qF44_0_1_4
                have fF44_0_1_4 := OwnS.read w44_0_1 sF44_0_1_4 qF44_0_1_4
                refine TL.shut .hd ?_
                intro HF44_0_2_5 sF44_0_2_5 qF44_0_2_5
                have fF44_0_2_5 := OwnS.read (OwnS.mono w44_0_2 sF44_0_1_4) sF44_0_2_5 qF44_0_2_5
                obtain ⟨r45, er45⟩ : ∃ r, r = (windroseref02_Take_m r44) := ⟨_, rfl⟩
                refine TL.call [] rfl rfl rfl (windroseref02_Take_c _ r44 _ (fF44_0_1_4.mono sF44_0_2_5) _ fF44_0_2_5 (by rw [er44, own40 (by first | omega | (simp; done) | (simp; omega) | (simp at *; omega)) (by first | omega | (simp; done) | (simp; omega) | (simp at *; omega))]; exact hrt)) ?_
                intro v45 H45 L45 s45 q45
                rw [← er45] at q45
                obtain ⟨u45_0_1, u45_0_2, c45_0_1, c45_0_2, rfl, rfl, w45_0_1, w45_0_2⟩ := q45
                obtain ⟨A45_0_1, p45_0_1, rfl, m45_0_1, n45_0_1⟩ := OwnS.shape w45_0_1
                obtain ⟨A45_0_2, p45_0_2, rfl, m45_0_2, n45_0_2⟩ := OwnS.shape w45_0_2
                refine R.mvE rfl (by conv => lhs; whnf) ?_
                refine R.ext rfl rfl rfl ?_
                refine R.ext rfl rfl rfl ?_
                refine R.ext rfl rfl rfl ?_
                refine R.stX (old := [.int .i64 0, .slice none 0 0, .slice none 0 0]) (l := [.int .i64 (r45.1.1), .slice A45_0_1 r45.1.2.1.length p45_0_1, .slice A45_0_2 r45.1.2.2.length p45_0_2]) (new := [.int .i64 (r45.1.1), .slice A45_0_1 r45.1.2.1.length p45_0_1, .slice A45_0_2 r45.1.2.2.length p45_0_2]) (et := 25) Tryd.sizeOf25 rfl rfl rfl rfl rfl (by show 0 + 3 ≤ 3; decide) rfl (all_one rfl) (.tl (.tl .hd)) ?_
                refine R.asE rfl (by conv => lhs; whnf) ?_
                refine R.asE rfl (by conv => lhs; whnf) ?_
                refine TL.nil (Post.thnN ?_)
                exact ⟨(r45.2.1, r45.2.2, r45.1.1, .slice A45_0_1 r45.1.2.1.length p45_0_1, r45.1.2.1, c45_0_1, .slice A45_0_2 r45.1.2.2.length p45_0_2, r45.1.2.2, c45_0_2), (s44.trans (sF44_0_1_4.trans (sF44_0_2_5.trans s45))), ⟨(Has.cons (.tl (.tl .hd)) (Has.cons (.tl (.tl .hd)) (Has.cons (.tl (.tl .hd)) (Has.cons (.tl (.tl .hd)) (Has.cons (.tl (.tl .hd)) (Has.cons (.tl (.tl .hd)) (Has.cons (.tl (.tl .hd)) (Has.cons (.tl (.tl .hd)) (Has.cons .hd (Has.cons .hd Has.nil)))))))))), w45_0_1, w45_0_2, (by subst er45; subst er44; rw [if_t c41, LR.seq_go, LR.seq_go])⟩, rfl, rfl, rfl, rfl, rfl, rfl, rfl, rfl, rfl, rfl, rfl, rfl, rfl, trivial⟩
              · refine T.set 41 (.bool false) (congrArg Value.bool c41) ?_
                refine T.skip (Post.thnN ?_)
                exact ⟨(0, 120, 0, .slice none 0 0, [], [], .slice none 0 0, [], []), HLe.refl _, ⟨(Has.cons .hd (Has.cons .hd (Has.cons .hd (Has.cons .hd (Has.cons .hd (Has.cons .hd (Has.cons .hd (Has.cons .hd (Has.none (Has.none Has.nil)))))))))), OwnS.nil, OwnS.nil, (by rw [if_f c41])⟩, rfl, rfl, rfl, rfl, rfl, rfl, rfl, rfl, rfl, rfl, rfl, rfl, rfl, trivial⟩
            · intro ⟨n14c3, n15c3, nb13c3_0, vb13c3_1, xb13c3_1, cb13c3_1, vb13c3_2, xb13c3_2, cb13c3_2⟩ σ_c3 H_c3 L_c3 ds_c3 s_c3 hI_c3
              obtain ⟨hLc3, wb13c3_1, wb13c3_2, hTc3⟩ := hI_c3
              obtain ⟨Ab13c3_1, pb13c3_1, rfl, mb13c3_1, nb13c3_1_⟩ := OwnS.shape wb13c3_1
              obtain ⟨Ab13c3_2, pb13c3_2, rfl, mb13c3_2, nb13c3_2_⟩ := OwnS.shape wb13c3_2
              refine T.has hLc3 ?_
              refine T.seq ?_
              refine T.seq ?_
              refine T.shut (.tl (.tl (.tl (.tl (.tl (.tl (.tl (.tl .hd)))))))) ?_
              intro HFb13c3_1_6 sFb13c3_1_6 qFb13c3_1_6
              have fFb13c3_1_6 := OwnS.read wb13c3_1 sFb13c3_1_6 qFb13c3_1_6
              refine T.shut (.tl (.tl (.tl (.tl (.tl (.tl (.tl (.tl .hd)))))))) ?_
              intro HFb13c3_2_7 sFb13c3_2_7 qFb13c3_2_7
              have fFb13c3_2_7 := OwnS.read (OwnS.mono wb13c3_2 sFb13c3_1_6) sFb13c3_2_7 qFb13c3_2_7
              refine T.cutK (ι := Bool) (fun b62c4 H' L' ds' => Has L' [[(b13, .cells #[.int .i64 nb13c3_0, .slice Ab13c3_1 xb13c3_1.length pb13c3_1, .slice Ab13c3_2 xb13c3_2.length pb13c3_2] 25)], [(b10, .cells #[.int .i64 (r36.1.1), .slice A36_0_1 r36.1.2.1.length p36_0_1, .slice A36_0_2 r36.1.2.2.length p36_0_2] 25)], c36_0_1, c36_0_2, [(b8, .cells #[.int .i64 (r31.1), .slice A31_0_1 r31.2.1.length p31_0_1, .slice A31_0_2 r31.2.2.length p31_0_2] 25)], c31_0_1, c31_0_2, [(b5, .cells #[.int .i64 nb5l2_0, .slice Ab5l2_1 xb5l2_1.length pb5l2_1, .slice Ab5l2_2 xb5l2_2.length pb5l2_2] 25)]] ∧ (if r36.2.2 ≠ n15c3 then true else (if r36.2.1 ≠ n14c3 then true else ((!(windroseref02_Same_m r36.1 ((nb13c3_0, xb13c3_1, xb13c3_2)))))) : Bool) = b62c4) (fun b62c4 => [(5, .pointer (some ⟨b5, 0, none⟩)), (7, .slice A26_0 yl2.length p26_0), (8, .pointer (some ⟨b8, 0, none⟩)), (9, .bool ((windroseref02_Right_m ((nb5l2_0, xb5l2_1, xb5l2_2))))), (10, .pointer (some ⟨b10, 0, none⟩)), (12, .int .i64 (r36.2.2)), (13, .pointer (some ⟨b13, 0, none⟩)), (21, .slice Aa1 a1.length ca1), (22, .int .i64 (a1.length : Int)), (23, .int .i64 (kl2 : Int)), (62, .bool (b62c4))]) ?_ ?_
              · refine T.region ?_
                refine R.mvE rfl (by conv => lhs; whnf) ?_
                refine R.mvE rfl (by conv => lhs; whnf) ?_
                refine R.neq rfl rfl rfl ?_
                refine R.mvE rfl (by conv => lhs; whnf) ?_
                refine TL.gsplitD 52 rfl (fun g52 => ?_) (fun g52 => ?_)
                · refine TL.off rfl rfl rfl ?_
                  refine TL.off rfl rfl rfl ?_
                  refine TL.off rfl rfl rfl ?_
                  refine R.pkTE rfl rfl (by conv => lhs; whnf) ?_
                  refine R.mvE rfl (by conv => lhs; whnf) ?_
                  refine TL.off rfl rfl rfl ?_
                  refine TL.off rfl rfl rfl ?_
                  refine TL.off rfl rfl rfl ?_
                  refine TL.off rfl rfl rfl ?_
                  refine R.pkTE rfl rfl (by conv => lhs; whnf) ?_
                  refine TL.nil (Post.thnN ?_)
                  exact ⟨true, HLe.refl _, ⟨(Has.cons .hd (Has.cons .hd (Has.cons .hd (Has.cons .hd (Has.cons .hd (Has.cons .hd (Has.cons .hd (Has.cons .hd Has.nil)))))))), (by rw [if_pos g52])⟩, rfl, rfl, rfl, rfl, rfl, rfl, rfl, rfl, rfl, rfl, rfl, trivial⟩
                · refine R.mvE rfl (by conv => lhs; whnf) ?_
                  refine R.mvE rfl (by conv => lhs; whnf) ?_
                  refine R.neq rfl rfl rfl ?_
                  refine R.pkFE rfl rfl (by conv => lhs; whnf) ?_
                  refine R.mvE rfl (by conv => lhs; whnf) ?_
                  refine TL.gsplitD 57 rfl (fun g57 => ?_) (fun g57 => ?_)
                  · refine TL.off rfl rfl rfl ?_
                    refine TL.off rfl rfl rfl ?_
                    refine TL.off rfl rfl rfl ?_
                    refine TL.off rfl rfl rfl ?_
                    refine R.pkTE rfl rfl (by conv => lhs; whnf) ?_
                    refine TL.nil (Post.thnN ?_)
                    exact ⟨true, HLe.refl _, ⟨(Has.cons .hd (Has.cons .hd (Has.cons .hd (Has.cons .hd (Has.cons .hd (Has.cons .hd (Has.cons .hd (Has.cons .hd Has.nil)))))))), (by rw [if_neg g52, if_pos g57])⟩, rfl, rfl, rfl, rfl, rfl, rfl, rfl, rfl, rfl, rfl, rfl, trivial⟩
                  · refine R.ldX (cs := [.int .i64 (r36.1.1), .slice A36_0_1 r36.1.2.1.length p36_0_1, .slice A36_0_2 r36.1.2.2.length p36_0_2]) (l := [.int .i64 (r36.1.1), .slice A36_0_1 r36.1.2.1.length p36_0_1, .slice A36_0_2 r36.1.2.2.length p36_0_2]) Tryd.isAgg25 Tryd.sizeOf25 rfl rfl (.tl .hd) rfl rfl ?_
                    refine R.ldX (cs := [.int .i64 nb13c3_0, .slice Ab13c3_1 xb13c3_1.length pb13c3_1, .slice Ab13c3_2 xb13c3_2.length pb13c3_2]) (l := [.int .i64 nb13c3_0, .slice Ab13c3_1 xb13c3_1.length pb13c3_1, .slice Ab13c3_2 xb13c3_2.length pb13c3_2]) Tryd.isAgg25 Tryd.sizeOf25 rfl rfl .hd rfl rfl ?_
                    refine R.callvB rfl rfl rfl (fun HB60 sB60 qB60 => by have fB60_0 := OwnS.read (OwnS.mono w36_0_1 (s_c3.trans (sFb13c3_1_6.trans sFb13c3_2_7))) sB60 (In.all (.tl (.tl .hd)) qB60); have fB60_1 := OwnS.read (OwnS.mono w36_0_2 (s_c3.trans (sFb13c3_1_6.trans sFb13c3_2_7))) sB60 (In.all (.tl (.tl (.tl .hd))) qB60); exact (windroseref02_Same_c _ r36.1 _ fB60_0 _ fB60_1 ((nb13c3_0, xb13c3_1, xb13c3_2)) _ (fFb13c3_1_6.mono (sFb13c3_2_7.trans sB60)) _ (fFb13c3_2_7.mono sB60))) ?_
                    refine R.not rfl rfl ?_
                    refine R.pkFE rfl rfl (by conv => lhs; whnf) ?_
                    refine TL.nil (Post.thnN ?_)
                    exact ⟨(!(windroseref02_Same_m r36.1 ((nb13c3_0, xb13c3_1, xb13c3_2)))), HLe.refl _, ⟨(Has.cons .hd (Has.cons .hd (Has.cons .hd (Has.cons .hd (Has.cons .hd (Has.cons .hd (Has.cons .hd (Has.cons .hd Has.nil)))))))), (by rw [if_neg g52, if_neg g57])⟩, rfl, rfl, rfl, rfl, rfl, rfl, rfl, rfl, rfl, rfl, rfl, trivial⟩
              · intro b62c4 σ_c4 H_c4 L_c4 ds_c4 s_c4 hI_c4
                obtain ⟨hLc4, hTc4⟩ := hI_c4
                refine T.has hLc4 ?_
                refine T.cond rfl (fun c62 => ?_) (fun c62 => ?_)
                · refine T.set 62 (.bool true) (congrArg Value.bool c62) ?_
                  have hZ62 := hTc4.trans c62
                  try simp only [or_f, or_t, and_f, and_t, decide_eq_true_eq, decide_eq_false_iff_not, Bool.not_eq_true'] at hZ62
                  refine T.seq ?_
                  refine T.region ?_
                  refine R.asE rfl (by conv => lhs; whnf) ?_
                  refine TL.nil (Post.thnN ?_)
                  refine T.has Has.nil ?_
                  refine T.ret (Post.thnR (Post.blkR (Post.thnR (Post.thnR (Post.blkR (Post.thnR ?_))))))
                  have hXl2 : windroselaw02_AllocTakes_l2 a1 0 ((r20.1, r20.2.1, r20.2.2)) = .ret (.ret false) := by subst er36; subst er31; rw [← hQl2, drop_cons hyl2, windroselaw02_AllocTakes_l2]; rw [if_neg c29, LR.seq_go, LR.seq_go, hTc3, LR.seq_go, hTc4, LR.seq_go, if_t c62]
                  have hM : windroselaw02_AllocTakes_m a0 a1 = false := by subst er20; rw [windroselaw02_AllocTakes_m, if_f c18, LR.seq_go, hXl2, LR.on_ret, LR.on_ret]
                  exact fin1L (v := .bool false) [] rfl rfl (List.Sublist.refl _) ⟨rfl, by first | rw [hM] | rfl⟩
                · refine T.set 62 (.bool false) (congrArg Value.bool c62) ?_
                  have hZ62 := hTc4.trans c62
                  try simp only [or_f, or_t, and_f, and_t, decide_eq_true_eq, decide_eq_false_iff_not, Bool.not_eq_true'] at hZ62
                  refine T.skip (Post.thnN ?_)
                  refine T.seq ?_
                  refine T.region ?_
                  refine R.ldX (cs := [.int .i64 (r36.1.1), .slice A36_0_1 r36.1.2.1.length p36_0_1, .slice A36_0_2 r36.1.2.2.length p36_0_2]) (l := [.int .i64 (r36.1.1), .slice A36_0_1 r36.1.2.1.length p36_0_1, .slice A36_0_2 r36.1.2.2.length p36_0_2]) Tryd.isAgg25 Tryd.sizeOf25 rfl rfl (.tl .hd) rfl rfl ?_
                  refine TL.has (Has.cons (.tl (.tl .hd)) (Has.cons (.tl (.tl .hd)) (Has.cons .hd (Has.cons .hd (Has.cons .hd (Has.cons .hd (Has.cons .hd (Has.cons .hd Has.nil)))))))) ?_
                  refine TL.call [true, true] rfl rfl rfl (windroselaw02_spoil_c _ r36.1 _ _ (OwnS.mono w36_0_1 (s_c3.trans (sFb13c3_1_6.trans (sFb13c3_2_7.trans s_c4)))) _ _ (OwnS.mono w36_0_2 (s_c3.trans (sFb13c3_1_6.trans (sFb13c3_2_7.trans s_c4))))) ?_
                  intro v64 H64 L64 s64 q64
                  obtain ⟨rfl, rfl⟩ := q64
                  refine TL.nil (Post.thnN ?_)
                  refine T.seq ?_
                  refine T.seq ?_
                  refine T.region ?_
                  refine R.mvE rfl (by conv => lhs; whnf) ?_
                  refine R.eql rfl rfl rfl ?_
                  refine TL.nil (Post.thnN ?_)
                  refine T.cutK (ι := Int × Value × (List (Int × Bool)) × Chunk × Value × (List Int) × Chunk × Int × Value × (List (Int × Bool)) × Value × (List Int)) (fun ⟨nb8c5_0, vb8c5_1, xb8c5_1, cb8c5_1, vb8c5_2, xb8c5_2, cb8c5_2, nb5c5_0, vb5c5_1, xb5c5_1, vb5c5_2, xb5c5_2⟩ H' L' ds' => Has L' [[(b13, .cells #[.int .i64 nb13c3_0, .slice Ab13c3_1 xb13c3_1.length pb13c3_1, .slice Ab13c3_2 xb13c3_2.length pb13c3_2] 25)], [(b8, .cells #[.int .i64 nb8c5_0, vb8c5_1, vb8c5_2] 25)], [(b5, .cells #[.int .i64 nb5c5_0, vb5c5_1, vb5c5_2] 25)], cb8c5_1, cb8c5_2] ∧ OwnS slotE 101 H' vb8c5_1 xb8c5_1 cb8c5_1 ∧ OwnS (intE .i64) 3 H' vb8c5_2 xb8c5_2 cb8c5_2 ∧ RdS slotE H' vb5c5_1 xb5c5_1 ∧ RdS (intE .i64) H' vb5c5_2 xb5c5_2 ∧ xb5c5_1.length ≤ 40 ∧ xb5c5_2.length ≤ 40 ∧ (windroseref02_Right_m (nb5l2_0, xb5l2_1, xb5l2_2) = true → Rt (nb5c5_0, xb5c5_1, xb5c5_2)) ∧ (if r36.2.2 = 0 then (LR.seq (windroselaw02_own_m ((nb13c3_0, xb13c3_1, xb13c3_2))) (fun r68 => LR.seq (windroselaw02_own_m ((nb13c3_0, xb13c3_1, xb13c3_2))) (fun r70 => (r70.1, r70.2.1, r70.2.2, r68.1, r68.2.1, r68.2.2)))) else ((r31.1, r31.2.1, r31.2.2, nb5l2_0, xb5l2_1, xb5l2_2)) : Int × (List (Int × Bool)) × (List Int) × Int × (List (Int × Bool)) × (List Int)) = (nb8c5_0, xb8c5_1, xb8c5_2, nb5c5_0, xb5c5_1, xb5c5_2)) (fun ⟨nb8c5_0, vb8c5_1, xb8c5_1, cb8c5_1, vb8c5_2, xb8c5_2, cb8c5_2, nb5c5_0, vb5c5_1, xb5c5_1, vb5c5_2, xb5c5_2⟩ => [(5, .pointer (some ⟨b5, 0, none⟩)), (7, .slice A26_0 yl2.length p26_0), (8, .pointer (some ⟨b8, 0, none⟩)), (9, .bool ((windroseref02_Right_m ((nb5l2_0, xb5l2_1, xb5l2_2))))), (13, .pointer (some ⟨b13, 0, none⟩)), (21, .slice Aa1 a1.length ca1), (22, .int .i64 (a1.length : Int)), (23, .int .i64 (kl2 : Int))]) ?_ ?_
                  · refine T.condD rfl (fun c66 => ?_) (fun c66 => ?_)
                    · refine T.set 66 (.bool true) (congrArg Value.bool (decide_eq_true c66)) ?_
                      refine T.draw Tryd_mixed (by kernel_rfl) ?_
                      refine Plan.s2 0 2 [1, 2, 3, 4, 5] [0, 1, 3, 4, 5] (by kernel_rfl) (by kernel_rfl) (by kernel_rfl) rfl rfl ?_ ?_
                      · refine R.ldX (cs := [.int .i64 nb13c3_0, .slice Ab13c3_1 xb13c3_1.length pb13c3_1, .slice Ab13c3_2 xb13c3_2.length pb13c3_2]) (l := [.int .i64 nb13c3_0, .slice Ab13c3_1 xb13c3_1.length pb13c3_1, .slice Ab13c3_2 xb13c3_2.length pb13c3_2]) Tryd.isAgg25 Tryd.sizeOf25 rfl rfl .hd rfl rfl ?_
                        refine TL.nil (Plan.e1 (HLe.refl _) ?_)
                        refine Plan.s2 1 2 [2, 3, 4, 5] [1, 3, 4, 5] (by kernel_rfl) (by kernel_rfl) (by kernel_rfl) rfl rfl ?_ ?_
                        · obtain ⟨r68, er68⟩ : ∃ r, r = (windroselaw02_own_m ((nb13c3_0, xb13c3_1, xb13c3_2))) := ⟨_, rfl⟩
                          refine TL.call [] rfl rfl rfl (windroselaw02_own_c _ ((nb13c3_0, xb13c3_1, xb13c3_2)) _ (fFb13c3_1_6.mono (sFb13c3_2_7.trans (s_c4.trans s64))) _ (fFb13c3_2_7.mono (s_c4.trans s64))) ?_
                          intro v68 H68 L68 s68 q68
                          rw [← er68] at q68
                          obtain ⟨u68_0_1, u68_0_2, c68_0_1, c68_0_2, rfl, rfl, w68_0_1, w68_0_2⟩ := q68
                          obtain ⟨A68_0_1, p68_0_1, rfl, m68_0_1, n68_0_1⟩ := OwnS.shape w68_0_1
                          obtain ⟨A68_0_2, p68_0_2, rfl, m68_0_2, n68_0_2⟩ := OwnS.shape w68_0_2
                          have ta68 : r68.2.1.length ≤ 40 := by rw [er68]; simp only [windroselaw02_own_m, List.length_take]; omega
                          have tb68 : r68.2.2.length ≤ 40 := by rw [er68]; simp only [windroselaw02_own_m, List.length_take]; omega
                          refine TL.shut .hd ?_
                          intro HF68_0_1_8 sF68_0_1_8 qF68_0_1_8
                          have fF68_0_1_8 := OwnS.read w68_0_1 sF68_0_1_8 qF68_0_1_8
                          refine TL.shut .hd ?_
                          intro HF68_0_2_9 sF68_0_2_9 qF68_0_2_9
                          have fF68_0_2_9 := OwnS.read (OwnS.mono w68_0_2 sF68_0_1_8) sF68_0_2_9 qF68_0_2_9
                          refine TL.nil (Plan.e1 ((s68.trans (sF68_0_1_8.trans sF68_0_2_9))) ?_)
                          refine Plan.s1 2 [3, 4, 5] (by kernel_rfl) (by kernel_rfl) rfl ?_
                          refine R.ldX (cs := [.int .i64 nb13c3_0, .slice Ab13c3_1 xb13c3_1.length pb13c3_1, .slice Ab13c3_2 xb13c3_2.length pb13c3_2]) (l := [.int .i64 nb13c3_0, .slice Ab13c3_1 xb13c3_1.length pb13c3_1, .slice Ab13c3_2 xb13c3_2.length pb13c3_2]) Tryd.isAgg25 Tryd.sizeOf25 rfl rfl .hd rfl rfl ?_
                          refine TL.nil (Plan.e1 (HLe.refl _) ?_)
                          refine Plan.s1 3 [4, 5] (by kernel_rfl) (by kernel_rfl) rfl ?_
                          obtain ⟨r70, er70⟩ : ∃ r, r = (windroselaw02_own_m ((nb13c3_0, xb13c3_1, xb13c3_2))) := ⟨_, rfl⟩
                          refine TL.call [] rfl rfl rfl (windroselaw02_own_c _ ((nb13c3_0, xb13c3_1, xb13c3_2)) _ (fFb13c3_1_6.mono (sFb13c3_2_7.trans (s_c4.trans (s64.trans (s68.trans (sF68_0_1_8.trans sF68_0_2_9)))))) _ (fFb13c3_2_7.mono (s_c4.trans (s64.trans (s68.trans (sF68_0_1_8.trans sF68_0_2_9)))))) ?_
                          intro v70 H70 L70 s70 q70
                          rw [← er70] at q70
                          obtain ⟨u70_0_1, u70_0_2, c70_0_1, c70_0_2, rfl, rfl, w70_0_1, w70_0_2⟩ := q70
                          obtain ⟨A70_0_1, p70_0_1, rfl, m70_0_1, n70_0_1⟩ := OwnS.shape w70_0_1
                          obtain ⟨A70_0_2, p70_0_2, rfl, m70_0_2, n70_0_2⟩ := OwnS.shape w70_0_2
                          have ta70 : r70.2.1.length ≤ 40 := by rw [er70]; simp only [windroselaw02_own_m, List.length_take]; omega
                          have tb70 : r70.2.2.length ≤ 40 := by rw [er70]; simp only [windroselaw02_own_m, List.length_take]; omega
                          refine TL.nil (Plan.e1 (s70) ?_)
                          refine Plan.s1 4 [5] (by kernel_rfl) (by kernel_rfl) rfl ?_
                          refine R.stX (old := [.int .i64 nb5l2_0, .slice Ab5l2_1 xb5l2_1.length pb5l2_1, .slice Ab5l2_2 xb5l2_2.length pb5l2_2]) (l := [.int .i64 (r68.1), .slice A68_0_1 r68.2.1.length p68_0_1, .slice A68_0_2 r68.2.2.length p68_0_2]) (new := [.int .i64 (r68.1), .slice A68_0_1 r68.2.1.length p68_0_1, .slice A68_0_2 r68.2.2.length p68_0_2]) (et := 25) Tryd.sizeOf25 rfl rfl rfl rfl rfl (by show 0 + 3 ≤ 3; decide) rfl (all_one rfl) (.tl (.tl (.tl (.tl (.tl (.tl (.tl .hd))))))) ?_
                          refine TL.nil (Plan.e0 (HLe.refl _) ?_)
                          refine Plan.s1 5 [] (by kernel_rfl) (by kernel_rfl) rfl ?_
                          refine R.stX (old := [.int .i64 (r31.1), .slice A31_0_1 r31.2.1.length p31_0_1, .slice A31_0_2 r31.2.2.length p31_0_2]) (l := [.int .i64 (r70.1), .slice A70_0_1 r70.2.1.length p70_0_1, .slice A70_0_2 r70.2.2.length p70_0_2]) (new := [.int .i64 (r70.1), .slice A70_0_1 r70.2.1.length p70_0_1, .slice A70_0_2 r70.2.2.length p70_0_2]) (et := 25) Tryd.sizeOf25 rfl rfl rfl rfl rfl (by show 0 + 3 ≤ 3; decide) rfl (all_one rfl) (.tl (.tl (.tl (.tl .hd)))) ?_
                          refine TL.nil (Plan.e0 (HLe.refl _) ?_)
                          refine Plan.done (Post.thnN ?_)
                          exact ⟨(r70.1, .slice A70_0_1 r70.2.1.length p70_0_1, r70.2.1, c70_0_1, .slice A70_0_2 r70.2.2.length p70_0_2, r70.2.2, c70_0_2, r68.1, .slice A68_0_1 r68.2.1.length p68_0_1, r68.2.1, .slice A68_0_2 r68.2.2.length p68_0_2, r68.2.2), (s68.trans (sF68_0_1_8.trans (sF68_0_2_9.trans s70))), ⟨(Has.cons (.tl (.tl .hd)) (Has.cons (.tl (.tl (.tl .hd))) (Has.cons (.tl (.tl (.tl (.tl (.tl .hd))))) (Has.cons .hd (Has.cons .hd Has.nil))))), w70_0_1, w70_0_2, (fF68_0_1_8.mono (sF68_0_2_9.trans s70)), (fF68_0_2_9.mono s70), (by first | omega | (intro hri; exact (right_ref (a := (nb5l2_0, xb5l2_1, xb5l2_2)) (by first | omega | (simp; done) | (simp; omega) | (simp at *; omega)) (by first | omega | (simp; done) | (simp; omega) | (simp at *; omega))).1 hri) | (intro hri; show Rt r68; rw [er68]; exact turn_rt (a := (nb5l2_0, xb5l2_1, xb5l2_2)) (w := (nb13c3_0, xb13c3_1, xb13c3_2)) (by first | omega | (simp; done) | (simp; omega) | (simp at *; omega)) (by first | omega | (simp; done) | (simp; omega) | (simp at *; omega)) hTc3 hri (by omega)) | (simp; omega)), (by first | omega | (intro hri; exact (right_ref (a := (nb5l2_0, xb5l2_1, xb5l2_2)) (by first | omega | (simp; done) | (simp; omega) | (simp at *; omega)) (by first | omega | (simp; done) | (simp; omega) | (simp at *; omega))).1 hri) | (intro hri; show Rt r68; rw [er68]; exact turn_rt (a := (nb5l2_0, xb5l2_1, xb5l2_2)) (w := (nb13c3_0, xb13c3_1, xb13c3_2)) (by first | omega | (simp; done) | (simp; omega) | (simp at *; omega)) (by first | omega | (simp; done) | (simp; omega) | (simp at *; omega)) hTc3 hri (by omega)) | (simp; omega)), (by first | omega | (intro hri; exact (right_ref (a := (nb5l2_0, xb5l2_1, xb5l2_2)) (by first | omega | (simp; done) | (simp; omega) | (simp at *; omega)) (by first | omega | (simp; done) | (simp; omega) | (simp at *; omega))).1 hri) | (intro hri; show Rt r68; rw [er68]; exact turn_rt (a := (nb5l2_0, xb5l2_1, xb5l2_2)) (w := (nb13c3_0, xb13c3_1, xb13c3_2)) (by first | omega | (simp; done) | (simp; omega) | (simp at *; omega)) (by first | omega | (simp; done) | (simp; omega) | (simp at *; omega)) hTc3 hri (by omega)) | (simp; omega)), (by subst er70; subst er68; rw [if_pos c66, LR.seq_go, LR.seq_go])⟩, rfl, rfl, rfl, rfl, rfl, rfl, rfl, rfl, trivial⟩
                        · refine R.ldX (cs := [.int .i64 nb13c3_0, .slice Ab13c3_1 xb13c3_1.length pb13c3_1, .slice Ab13c3_2 xb13c3_2.length pb13c3_2]) (l := [.int .i64 nb13c3_0, .slice Ab13c3_1 xb13c3_1.length pb13c3_1, .slice Ab13c3_2 xb13c3_2.length pb13c3_2]) Tryd.isAgg25 Tryd.sizeOf25 rfl rfl .hd rfl rfl ?_
                          refine TL.nil (Plan.e1 (HLe.refl _) ?_)
                          refine Plan.s1 1 [3, 4, 5] (by kernel_rfl) (by kernel_rfl) rfl ?_
                          obtain ⟨r68, er68⟩ : ∃ r, r = (windroselaw02_own_m ((nb13c3_0, xb13c3_1, xb13c3_2))) := ⟨_, rfl⟩
                          refine TL.call [] rfl rfl rfl (windroselaw02_own_c _ ((nb13c3_0, xb13c3_1, xb13c3_2)) _ (fFb13c3_1_6.mono (sFb13c3_2_7.trans (s_c4.trans s64))) _ (fFb13c3_2_7.mono (s_c4.trans s64))) ?_
                          intro v68 H68 L68 s68 q68
                          rw [← er68] at q68
                          obtain ⟨u68_0_1, u68_0_2, c68_0_1, c68_0_2, rfl, rfl, w68_0_1, w68_0_2⟩ := q68
                          obtain ⟨A68_0_1, p68_0_1, rfl, m68_0_1, n68_0_1⟩ := OwnS.shape w68_0_1
                          obtain ⟨A68_0_2, p68_0_2, rfl, m68_0_2, n68_0_2⟩ := OwnS.shape w68_0_2
                          have ta68 : r68.2.1.length ≤ 40 := by rw [er68]; simp only [windroselaw02_own_m, List.length_take]; omega
                          have tb68 : r68.2.2.length ≤ 40 := by rw [er68]; simp only [windroselaw02_own_m, List.length_take]; omega
                          refine TL.shut .hd ?_
                          intro HF68_0_1_10 sF68_0_1_10 qF68_0_1_10
                          have fF68_0_1_10 := OwnS.read w68_0_1 sF68_0_1_10 qF68_0_1_10
                          refine TL.shut .hd ?_
                          intro HF68_0_2_11 sF68_0_2_11 qF68_0_2_11
                          have fF68_0_2_11 := OwnS.read (OwnS.mono w68_0_2 sF68_0_1_10) sF68_0_2_11 qF68_0_2_11
                          refine TL.nil (Plan.e1 ((s68.trans (sF68_0_1_10.trans sF68_0_2_11))) ?_)
                          refine Plan.s1 3 [4, 5] (by kernel_rfl) (by kernel_rfl) rfl ?_
                          obtain ⟨r70, er70⟩ : ∃ r, r = (windroselaw02_own_m ((nb13c3_0, xb13c3_1, xb13c3_2))) := ⟨_, rfl⟩
                          refine TL.call [] rfl rfl rfl (windroselaw02_own_c _ ((nb13c3_0, xb13c3_1, xb13c3_2)) _ (fFb13c3_1_6.mono (sFb13c3_2_7.trans (s_c4.trans (s64.trans (s68.trans (sF68_0_1_10.trans sF68_0_2_11)))))) _ (fFb13c3_2_7.mono (s_c4.trans (s64.trans (s68.trans (sF68_0_1_10.trans sF68_0_2_11)))))) ?_
                          intro v70 H70 L70 s70 q70
                          rw [← er70] at q70
                          obtain ⟨u70_0_1, u70_0_2, c70_0_1, c70_0_2, rfl, rfl, w70_0_1, w70_0_2⟩ := q70
                          obtain ⟨A70_0_1, p70_0_1, rfl, m70_0_1, n70_0_1⟩ := OwnS.shape w70_0_1
                          obtain ⟨A70_0_2, p70_0_2, rfl, m70_0_2, n70_0_2⟩ := OwnS.shape w70_0_2
                          have ta70 : r70.2.1.length ≤ 40 := by rw [er70]; simp only [windroselaw02_own_m, List.length_take]; omega
                          have tb70 : r70.2.2.length ≤ 40 := by rw [er70]; simp only [windroselaw02_own_m, List.length_take]; omega
                          refine TL.nil (Plan.e1 (s70) ?_)
                          refine Plan.s1 4 [5] (by kernel_rfl) (by kernel_rfl) rfl ?_
                          refine R.stX (old := [.int .i64 nb5l2_0, .slice Ab5l2_1 xb5l2_1.length pb5l2_1, .slice Ab5l2_2 xb5l2_2.length pb5l2_2]) (l := [.int .i64 (r68.1), .slice A68_0_1 r68.2.1.length p68_0_1, .slice A68_0_2 r68.2.2.length p68_0_2]) (new := [.int .i64 (r68.1), .slice A68_0_1 r68.2.1.length p68_0_1, .slice A68_0_2 r68.2.2.length p68_0_2]) (et := 25) Tryd.sizeOf25 rfl rfl rfl rfl rfl (by show 0 + 3 ≤ 3; decide) rfl (all_one rfl) (.tl (.tl (.tl (.tl (.tl (.tl (.tl .hd))))))) ?_
                          refine TL.nil (Plan.e0 (HLe.refl _) ?_)
                          refine Plan.s1 5 [] (by kernel_rfl) (by kernel_rfl) rfl ?_
                          refine R.stX (old := [.int .i64 (r31.1), .slice A31_0_1 r31.2.1.length p31_0_1, .slice A31_0_2 r31.2.2.length p31_0_2]) (l := [.int .i64 (r70.1), .slice A70_0_1 r70.2.1.length p70_0_1, .slice A70_0_2 r70.2.2.length p70_0_2]) (new := [.int .i64 (r70.1), .slice A70_0_1 r70.2.1.length p70_0_1, .slice A70_0_2 r70.2.2.length p70_0_2]) (et := 25) Tryd.sizeOf25 rfl rfl rfl rfl rfl (by show 0 + 3 ≤ 3; decide) rfl (all_one rfl) (.tl (.tl (.tl (.tl .hd)))) ?_
                          refine TL.nil (Plan.e0 (HLe.refl _) ?_)
                          refine Plan.done (Post.thnN ?_)
                          exact ⟨(r70.1, .slice A70_0_1 r70.2.1.length p70_0_1, r70.2.1, c70_0_1, .slice A70_0_2 r70.2.2.length p70_0_2, r70.2.2, c70_0_2, r68.1, .slice A68_0_1 r68.2.1.length p68_0_1, r68.2.1, .slice A68_0_2 r68.2.2.length p68_0_2, r68.2.2), (s68.trans (sF68_0_1_10.trans (sF68_0_2_11.trans s70))), ⟨(Has.cons (.tl (.tl .hd)) (Has.cons (.tl (.tl (.tl .hd))) (Has.cons (.tl (.tl (.tl (.tl (.tl .hd))))) (Has.cons .hd (Has.cons .hd Has.nil))))), w70_0_1, w70_0_2, (fF68_0_1_10.mono (sF68_0_2_11.trans s70)), (fF68_0_2_11.mono s70), (by first | omega | (intro hri; exact (right_ref (a := (nb5l2_0, xb5l2_1, xb5l2_2)) (by first | omega | (simp; done) | (simp; omega) | (simp at *; omega)) (by first | omega | (simp; done) | (simp; omega) | (simp at *; omega))).1 hri) | (intro hri; show Rt r68; rw [er68]; exact turn_rt (a := (nb5l2_0, xb5l2_1, xb5l2_2)) (w := (nb13c3_0, xb13c3_1, xb13c3_2)) (by first | omega | (simp; done) | (simp; omega) | (simp at *; omega)) (by first | omega | (simp; done) | (simp; omega) | (simp at *; omega)) hTc3 hri (by omega)) | (simp; omega)), (by first | omega | (intro hri; exact (right_ref (a := (nb5l2_0, xb5l2_1, xb5l2_2)) (by first | omega | (simp; done) | (simp; omega) | (simp at *; omega)) (by first | omega | (simp; done) | (simp; omega) | (simp at *; omega))).1 hri) | (intro hri; show Rt r68; rw [er68]; exact turn_rt (a := (nb5l2_0, xb5l2_1, xb5l2_2)) (w := (nb13c3_0, xb13c3_1, xb13c3_2)) (by first | omega | (simp; done) | (simp; omega) | (simp at *; omega)) (by first | omega | (simp; done) | (simp; omega) | (simp at *; omega)) hTc3 hri (by omega)) | (simp; omega)), (by first | omega | (intro hri; exact (right_ref (a := (nb5l2_0, xb5l2_1, xb5l2_2)) (by first | omega | (simp; done) | (simp; omega) | (simp at *; omega)) (by first | omega | (simp; done) | (simp; omega) | (simp at *; omega))).1 hri) | (intro hri; show Rt r68; rw [er68]; exact turn_rt (a := (nb5l2_0, xb5l2_1, xb5l2_2)) (w := (nb13c3_0, xb13c3_1, xb13c3_2)) (by first | omega | (simp; done) | (simp; omega) | (simp at *; omega)) (by first | omega | (simp; done) | (simp; omega) | (simp at *; omega)) hTc3 hri (by omega)) | (simp; omega)), (by subst er70; subst er68; rw [if_pos c66, LR.seq_go, LR.seq_go])⟩, rfl, rfl, rfl, rfl, rfl, rfl, rfl, rfl, trivial⟩
                      · refine R.ldX (cs := [.int .i64 nb13c3_0, .slice Ab13c3_1 xb13c3_1.length pb13c3_1, .slice Ab13c3_2 xb13c3_2.length pb13c3_2]) (l := [.int .i64 nb13c3_0, .slice Ab13c3_1 xb13c3_1.length pb13c3_1, .slice Ab13c3_2 xb13c3_2.length pb13c3_2]) Tryd.isAgg25 Tryd.sizeOf25 rfl rfl .hd rfl rfl ?_
                        refine TL.nil (Plan.e1 (HLe.refl _) ?_)
                        refine Plan.s1 0 [1, 3, 4, 5] (by kernel_rfl) (by kernel_rfl) rfl ?_
                        refine R.ldX (cs := [.int .i64 nb13c3_0, .slice Ab13c3_1 xb13c3_1.length pb13c3_1, .slice Ab13c3_2 xb13c3_2.length pb13c3_2]) (l := [.int .i64 nb13c3_0, .slice Ab13c3_1 xb13c3_1.length pb13c3_1, .slice Ab13c3_2 xb13c3_2.length pb13c3_2]) Tryd.isAgg25 Tryd.sizeOf25 rfl rfl .hd rfl rfl ?_
                        refine TL.nil (Plan.e1 (HLe.refl _) ?_)
                        refine Plan.s1 1 [3, 4, 5] (by kernel_rfl) (by kernel_rfl) rfl ?_
                        obtain ⟨r68, er68⟩ : ∃ r, r = (windroselaw02_own_m ((nb13c3_0, xb13c3_1, xb13c3_2))) := ⟨_, rfl⟩
                        refine TL.call [] rfl rfl rfl (windroselaw02_own_c _ ((nb13c3_0, xb13c3_1, xb13c3_2)) _ (fFb13c3_1_6.mono (sFb13c3_2_7.trans (s_c4.trans s64))) _ (fFb13c3_2_7.mono (s_c4.trans s64))) ?_
                        intro v68 H68 L68 s68 q68
                        rw [← er68] at q68
                        obtain ⟨u68_0_1, u68_0_2, c68_0_1, c68_0_2, rfl, rfl, w68_0_1, w68_0_2⟩ := q68
                        obtain ⟨A68_0_1, p68_0_1, rfl, m68_0_1, n68_0_1⟩ := OwnS.shape w68_0_1
                        obtain ⟨A68_0_2, p68_0_2, rfl, m68_0_2, n68_0_2⟩ := OwnS.shape w68_0_2
                        have ta68 : r68.2.1.length ≤ 40 := by rw [er68]; simp only [windroselaw02_own_m, List.length_take]; omega
                        have tb68 : r68.2.2.length ≤ 40 := by rw [er68]; simp only [windroselaw02_own_m, List.length_take]; omega
                        refine TL.shut .hd ?_
                        intro HF68_0_1_12 sF68_0_1_12 qF68_0_1_12
                        have fF68_0_1_12 := OwnS.read w68_0_1 sF68_0_1_12 qF68_0_1_12
                        refine TL.shut .hd ?_
                        intro HF68_0_2_13 sF68_0_2_13 qF68_0_2_13
                        have fF68_0_2_13 := OwnS.read (OwnS.mono w68_0_2 sF68_0_1_12) sF68_0_2_13 qF68_0_2_13
                        refine TL.nil (Plan.e1 ((s68.trans (sF68_0_1_12.trans sF68_0_2_13))) ?_)
                        refine Plan.s1 3 [4, 5] (by kernel_rfl) (by kernel_rfl) rfl ?_
                        obtain ⟨r70, er70⟩ : ∃ r, r = (windroselaw02_own_m ((nb13c3_0, xb13c3_1, xb13c3_2))) := ⟨_, rfl⟩
                        refine TL.call [] rfl rfl rfl (windroselaw02_own_c _ ((nb13c3_0, xb13c3_1, xb13c3_2)) _ (fFb13c3_1_6.mono (sFb13c3_2_7.trans (s_c4.trans (s64.trans (s68.trans (sF68_0_1_12.trans sF68_0_2_13)))))) _ (fFb13c3_2_7.mono (s_c4.trans (s64.trans (s68.trans (sF68_0_1_12.trans sF68_0_2_13)))))) ?_
                        intro v70 H70 L70 s70 q70
                        rw [← er70] at q70
                        obtain ⟨u70_0_1, u70_0_2, c70_0_1, c70_0_2, rfl, rfl, w70_0_1, w70_0_2⟩ := q70
                        obtain ⟨A70_0_1, p70_0_1, rfl, m70_0_1, n70_0_1⟩ := OwnS.shape w70_0_1
                        obtain ⟨A70_0_2, p70_0_2, rfl, m70_0_2, n70_0_2⟩ := OwnS.shape w70_0_2
                        have ta70 : r70.2.1.length ≤ 40 := by rw [er70]; simp only [windroselaw02_own_m, List.length_take]; omega
                        have tb70 : r70.2.2.length ≤ 40 := by rw [er70]; simp only [windroselaw02_own_m, List.length_take]; omega
                        refine TL.nil (Plan.e1 (s70) ?_)
                        refine Plan.s1 4 [5] (by kernel_rfl) (by kernel_rfl) rfl ?_
                        refine R.stX (old := [.int .i64 nb5l2_0, .slice Ab5l2_1 xb5l2_1.length pb5l2_1, .slice Ab5l2_2 xb5l2_2.length pb5l2_2]) (l := [.int .i64 (r68.1), .slice A68_0_1 r68.2.1.length p68_0_1, .slice A68_0_2 r68.2.2.length p68_0_2]) (new := [.int .i64 (r68.1), .slice A68_0_1 r68.2.1.length p68_0_1, .slice A68_0_2 r68.2.2.length p68_0_2]) (et := 25) Tryd.sizeOf25 rfl rfl rfl rfl rfl (by show 0 + 3 ≤ 3; decide) rfl (all_one rfl) (.tl (.tl (.tl (.tl (.tl (.tl (.tl .hd))))))) ?_
                        refine TL.nil (Plan.e0 (HLe.refl _) ?_)
                        refine Plan.s1 5 [] (by kernel_rfl) (by kernel_rfl) rfl ?_
                        refine R.stX (old := [.int .i64 (r31.1), .slice A31_0_1 r31.2.1.length p31_0_1, .slice A31_0_2 r31.2.2.length p31_0_2]) (l := [.int .i64 (r70.1), .slice A70_0_1 r70.2.1.length p70_0_1, .slice A70_0_2 r70.2.2.length p70_0_2]) (new := [.int .i64 (r70.1), .slice A70_0_1 r70.2.1.length p70_0_1, .slice A70_0_2 r70.2.2.length p70_0_2]) (et := 25) Tryd.sizeOf25 rfl rfl rfl rfl rfl (by show 0 + 3 ≤ 3; decide) rfl (all_one rfl) (.tl (.tl (.tl (.tl .hd)))) ?_
                        refine TL.nil (Plan.e0 (HLe.refl _) ?_)
                        refine Plan.done (Post.thnN ?_)
                        exact ⟨(r70.1, .slice A70_0_1 r70.2.1.length p70_0_1, r70.2.1, c70_0_1, .slice A70_0_2 r70.2.2.length p70_0_2, r70.2.2, c70_0_2, r68.1, .slice A68_0_1 r68.2.1.length p68_0_1, r68.2.1, .slice A68_0_2 r68.2.2.length p68_0_2, r68.2.2), (s68.trans (sF68_0_1_12.trans (sF68_0_2_13.trans s70))), ⟨(Has.cons (.tl (.tl .hd)) (Has.cons (.tl (.tl (.tl .hd))) (Has.cons (.tl (.tl (.tl (.tl (.tl .hd))))) (Has.cons .hd (Has.cons .hd Has.nil))))), w70_0_1, w70_0_2, (fF68_0_1_12.mono (sF68_0_2_13.trans s70)), (fF68_0_2_13.mono s70), (by first | omega | (intro hri; exact (right_ref (a := (nb5l2_0, xb5l2_1, xb5l2_2)) (by first | omega | (simp; done) | (simp; omega) | (simp at *; omega)) (by first | omega | (simp; done) | (simp; omega) | (simp at *; omega))).1 hri) | (intro hri; show Rt r68; rw [er68]; exact turn_rt (a := (nb5l2_0, xb5l2_1, xb5l2_2)) (w := (nb13c3_0, xb13c3_1, xb13c3_2)) (by first | omega | (simp; done) | (simp; omega) | (simp at *; omega)) (by first | omega | (simp; done) | (simp; omega) | (simp at *; omega)) hTc3 hri (by omega)) | (simp; omega)), (by first | omega | (intro hri; exact (right_ref (a := (nb5l2_0, xb5l2_1, xb5l2_2)) (by first | omega | (simp; done) | (simp; omega) | (simp at *; omega)) (by first | omega | (simp; done) | (simp; omega) | (simp at *; omega))).1 hri) | (intro hri; show Rt r68; rw [er68]; exact turn_rt (a := (nb5l2_0, xb5l2_1, xb5l2_2)) (w := (nb13c3_0, xb13c3_1, xb13c3_2)) (by first | omega | (simp; done) | (simp; omega) | (simp at *; omega)) (by first | omega | (simp; done) | (simp; omega) | (simp at *; omega)) hTc3 hri (by omega)) | (simp; omega)), (by first | omega | (intro hri; exact (right_ref (a := (nb5l2_0, xb5l2_1, xb5l2_2)) (by first | omega | (simp; done) | (simp; omega) | (simp at *; omega)) (by first | omega | (simp; done) | (simp; omega) | (simp at *; omega))).1 hri) | (intro hri; show Rt r68; rw [er68]; exact turn_rt (a := (nb5l2_0, xb5l2_1, xb5l2_2)) (w := (nb13c3_0, xb13c3_1, xb13c3_2)) (by first | omega | (simp; done) | (simp; omega) | (simp at *; omega)) (by first | omega | (simp; done) | (simp; omega) | (simp at *; omega)) hTc3 hri (by omega)) | (simp; omega)), (by subst er70; subst er68; rw [if_pos c66, LR.seq_go, LR.seq_go])⟩, rfl, rfl, rfl, rfl, rfl, rfl, rfl, rfl, trivial⟩
                    · refine T.set 66 (.bool false) (congrArg Value.bool (decide_eq_false c66)) ?_
                      refine T.skip (Post.thnN ?_)
                      exact ⟨(r31.1, .slice A31_0_1 r31.2.1.length p31_0_1, r31.2.1, c31_0_1, .slice A31_0_2 r31.2.2.length p31_0_2, r31.2.2, c31_0_2, nb5l2_0, .slice Ab5l2_1 xb5l2_1.length pb5l2_1, xb5l2_1, .slice Ab5l2_2 xb5l2_2.length pb5l2_2, xb5l2_2), HLe.refl _, ⟨(Has.cons .hd (Has.cons (.tl .hd) (Has.cons (.tl (.tl (.tl .hd))) (Has.cons (.tl .hd) (Has.cons (.tl .hd) Has.nil))))), (OwnS.mono w31_0_1 (s36.trans (s_c3.trans (sFb13c3_1_6.trans (sFb13c3_2_7.trans (s_c4.trans s64)))))), (OwnS.mono w31_0_2 (s36.trans (s_c3.trans (sFb13c3_1_6.trans (sFb13c3_2_7.trans (s_c4.trans s64)))))), (wb5l2_1.mono (s31.trans (s36.trans (s_c3.trans (sFb13c3_1_6.trans (sFb13c3_2_7.trans (s_c4.trans s64))))))), (wb5l2_2.mono (s31.trans (s36.trans (s_c3.trans (sFb13c3_1_6.trans (sFb13c3_2_7.trans (s_c4.trans s64))))))), (by first | omega | (intro hri; exact (right_ref (a := (nb5l2_0, xb5l2_1, xb5l2_2)) (by first | omega | (simp; done) | (simp; omega) | (simp at *; omega)) (by first | omega | (simp; done) | (simp; omega) | (simp at *; omega))).1 hri) | (intro hri; show Rt r68; rw [er68]; exact turn_rt (a := (nb5l2_0, xb5l2_1, xb5l2_2)) (w := (nb13c3_0, xb13c3_1, xb13c3_2)) (by first | omega | (simp; done) | (simp; omega) | (simp at *; omega)) (by first | omega | (simp; done) | (simp; omega) | (simp at *; omega)) hTc3 hri (by omega)) | (simp; omega)), (by first | omega | (intro hri; exact (right_ref (a := (nb5l2_0, xb5l2_1, xb5l2_2)) (by first | omega | (simp; done) | (simp; omega) | (simp at *; omega)) (by first | omega | (simp; done) | (simp; omega) | (simp at *; omega))).1 hri) | (intro hri; show Rt r68; rw [er68]; exact turn_rt (a := (nb5l2_0, xb5l2_1, xb5l2_2)) (w := (nb13c3_0, xb13c3_1, xb13c3_2)) (by first | omega | (simp; done) | (simp; omega) | (simp at *; omega)) (by first | omega | (simp; done) | (simp; omega) | (simp at *; omega)) hTc3 hri (by omega)) | (simp; omega)), (by first | omega | (intro hri; exact (right_ref (a := (nb5l2_0, xb5l2_1, xb5l2_2)) (by first | omega | (simp; done) | (simp; omega) | (simp at *; omega)) (by first | omega | (simp; done) | (simp; omega) | (simp at *; omega))).1 hri) | (intro hri; show Rt r68; rw [er68]; exact turn_rt (a := (nb5l2_0, xb5l2_1, xb5l2_2)) (w := (nb13c3_0, xb13c3_1, xb13c3_2)) (by first | omega | (simp; done) | (simp; omega) | (simp at *; omega)) (by first | omega | (simp; done) | (simp; omega) | (simp at *; omega)) hTc3 hri (by omega)) | (simp; omega)), (by rw [if_neg c66])⟩, rfl, rfl, rfl, rfl, rfl, rfl, rfl, rfl, trivial⟩
                  · intro ⟨nb8c5_0, vb8c5_1, xb8c5_1, cb8c5_1, vb8c5_2, xb8c5_2, cb8c5_2, nb5c5_0, vb5c5_1, xb5c5_1, vb5c5_2, xb5c5_2⟩ σ_c5 H_c5 L_c5 ds_c5 s_c5 hI_c5
                    obtain ⟨hLc5, wb8c5_1, wb8c5_2, wb5c5_1, wb5c5_2, hBc5_0, hBc5_1, hBc5_2, hTc5⟩ := hI_c5
                    obtain ⟨Ab8c5_1, pb8c5_1, rfl, mb8c5_1, nb8c5_1_⟩ := OwnS.shape wb8c5_1
                    obtain ⟨Ab8c5_2, pb8c5_2, rfl, mb8c5_2, nb8c5_2_⟩ := OwnS.shape wb8c5_2
                    obtain ⟨Ab5c5_1, pb5c5_1, rfl, mb5c5_1, nb5c5_1_, wb5c5_1⟩ := RdS.shape wb5c5_1
                    obtain ⟨Ab5c5_2, pb5c5_2, rfl, mb5c5_2, nb5c5_2_, wb5c5_2⟩ := RdS.shape wb5c5_2
                    refine T.has hLc5 ?_
                    refine T.seq ?_
                    refine T.region ?_
                    refine R.mvE rfl (by conv => lhs; whnf) ?_
                    refine R.mvE rfl (by conv => lhs; whnf) ?_
                    refine R.len Tryd.underlying29 rfl rfl ?_
                    refine R.min2 rfl rfl rfl ?_
                    refine TL.set 74 (.int .i64 ((min yl2.length 8 : Nat) : Int)) (congrArg (Value.int .i64) (by split <;> omega)) ?_
                    have z75 := RdS.takeC (r26_0.mono (s31.trans (s36.trans (s_c3.trans (sFb13c3_1_6.trans (sFb13c3_2_7.trans (s_c4.trans (s64.trans s_c5)))))))) (i := (min yl2.length 8)) (by omega) (by omega)
                    obtain ⟨x75, e75⟩ : ∃ x, x = (yl2.take ((min yl2.length 8))) := ⟨_, rfl⟩
                    rw [← e75] at z75
                    obtain ⟨A75, p75, q75, m75, n75, r75⟩ := RdS.shape z75
                    have t75 : x75.length ≤ yl2.length := by rw [e75]; simp; try omega
                    have t75_ : x75.length = min ((min yl2.length 8)) yl2.length := by rw [e75]; simp
                    refine R.sH Tryd.underlying29 Tryd.sizeOf32 rfl rfl rfl (by omega) (by omega)  ?_
                    refine TL.set 75 (.slice A75 x75.length p75) (by first | exact q75 | (rw [← q75]; simp; done) | (rw [← q75]; rfl)) ?_
                    refine TL.call [] rfl rfl rfl (clone29_c _ _ x75 r75 (by first | omega | (simp; done) | (simp; omega) | (simp at *; omega))) ?_
                    intro v76 H76 L76 s76 q76
                    obtain ⟨c76, rfl, w76⟩ := q76
                    obtain ⟨x76, e76⟩ : ∃ x, x = x75 := ⟨_, rfl⟩
                    rw [← e76] at w76
                    obtain ⟨A76, p76, rfl, m76, n76⟩ := OwnS.shape w76
                    have t76 : x76.length = x75.length := by rw [e76]
                    refine R.asE rfl (by conv => lhs; whnf) ?_
                    refine TL.nil (Post.thnN ?_)
                    refine T.seq ?_
                    refine T.region ?_
                    refine R.ldX (cs := [.int .i64 nb5c5_0, .slice Ab5c5_1 xb5c5_1.length pb5c5_1, .slice Ab5c5_2 xb5c5_2.length pb5c5_2]) (l := [.int .i64 nb5c5_0, .slice Ab5c5_1 xb5c5_1.length pb5c5_1, .slice Ab5c5_2 xb5c5_2.length pb5c5_2]) Tryd.isAgg25 Tryd.sizeOf25 rfl rfl (.tl (.tl (.tl .hd))) rfl rfl ?_
                    refine R.mvE rfl (by conv => lhs; whnf) ?_
                    refine TL.shut .hd ?_
                    intro HF76_14 sF76_14 qF76_14
                    have fF76_14 := OwnS.read w76 sF76_14 qF76_14
                    obtain ⟨r80, er80⟩ : ∃ r, r = (alloc_Give_m ((nb5c5_0, xb5c5_1, xb5c5_2)) x76) := ⟨_, rfl⟩
                    refine TL.call [] rfl rfl rfl (alloc_Give_c _ ((sb2_1.trans (s20.trans (sF20_0_1_2.trans (sF20_0_2_3.trans (s_l2.trans (s31.trans (s36.trans (s_c3.trans (sFb13c3_1_6.trans (sFb13c3_2_7.trans (s_c4.trans (s64.trans (s_c5.trans (s76.trans sF76_14)))))))))))))) _ _ hG0) ((nb5c5_0, xb5c5_1, xb5c5_2)) _ (wb5c5_1.mono (s76.trans sF76_14)) _ (wb5c5_2.mono (s76.trans sF76_14)) _ x76 fF76_14 (by first | omega | (simp; done) | (simp; omega) | (simp at *; omega)) (by first | omega | (simp; done) | (simp; omega) | (simp at *; omega)) (by first | omega | (simp; done) | (simp; omega) | (simp at *; omega))) ?_
                    intro v80 H80 L80 s80 q80
                    rw [← er80] at q80
                    obtain ⟨u80_0_1, u80_0_2, c80_0_1, c80_0_2, rfl, rfl, w80_0_1, w80_0_2⟩ := q80
                    obtain ⟨A80_0_1, p80_0_1, rfl, m80_0_1, n80_0_1⟩ := OwnS.shape w80_0_1
                    obtain ⟨A80_0_2, p80_0_2, rfl, m80_0_2, n80_0_2⟩ := OwnS.shape w80_0_2
                    have tt80 : r80.1.2.1.length ≤ 1100000 ∧ r80.1.2.2.length ≤ 1100000 := by rw [er80]; exact give_len (by first | omega | (simp; done) | (simp; omega) | (simp at *; omega)) (by first | omega | (simp; done) | (simp; omega) | (simp at *; omega)) (by first | omega | (simp; done) | (simp; omega) | (simp at *; omega))
                    refine R.mvE rfl (by conv => lhs; whnf) ?_
                    refine R.ext rfl rfl rfl ?_
                    refine R.ext rfl rfl rfl ?_
                    refine R.alloc Tryd.zeroValue25 rfl ?_
                    intro b16
                    refine R.stX (old := [.int .i64 0, .slice none 0 0, .slice none 0 0]) (l := [.int .i64 (r80.1.1), .slice A80_0_1 r80.1.2.1.length p80_0_1, .slice A80_0_2 r80.1.2.2.length p80_0_2]) (new := [.int .i64 (r80.1.1), .slice A80_0_1 r80.1.2.1.length p80_0_1, .slice A80_0_2 r80.1.2.2.length p80_0_2]) (et := 25) Tryd.sizeOf25 rfl rfl rfl rfl rfl (by show 0 + 3 ≤ 3; decide) rfl (all_one rfl) .hd ?_
                    refine R.asE rfl (by conv => lhs; whnf) ?_
                    refine TL.nil (Post.thnN ?_)
                    refine T.seq ?_
                    refine T.region ?_
                    refine R.bld (cs := [.int .i64 0, .slice none 0 0, .slice none 0 0]) rfl (fun _ => by kernel_rfl) ?_
                    refine R.stX (old := [.int .i64 nb13c3_0, .slice Ab13c3_1 xb13c3_1.length pb13c3_1, .slice Ab13c3_2 xb13c3_2.length pb13c3_2]) (l := [.int .i64 0, .slice none 0 0, .slice none 0 0]) (new := [.int .i64 0, .slice none 0 0, .slice none 0 0]) (et := 25) Tryd.sizeOf25 rfl rfl rfl rfl rfl (by show 0 + 3 ≤ 3; decide) rfl (all_one rfl) (.tl (.tl (.tl .hd))) ?_
                    refine R.asE rfl (by conv => lhs; whnf) ?_
                    refine TL.nil (Post.thnN ?_)
                    refine T.seq ?_
                    refine T.seq ?_
                    refine T.region ?_
                    refine R.mvE rfl (by conv => lhs; whnf) ?_
                    refine TL.nil (Post.thnN ?_)
                    refine T.cutK (ι := Int × Int × Value × (List (Int × Bool)) × Chunk × Value × (List Int) × Chunk) (fun ⟨n15c6, nb13c6_0, vb13c6_1, xb13c6_1, cb13c6_1, vb13c6_2, xb13c6_2, cb13c6_2⟩ H' L' ds' => Has L' [[(b16, .cells #[.int .i64 (r80.1.1), .slice A80_0_1 r80.1.2.1.length p80_0_1, .slice A80_0_2 r80.1.2.2.length p80_0_2] 25)], c80_0_1, c80_0_2, [(b13, .cells #[.int .i64 nb13c6_0, vb13c6_1, vb13c6_2] 25)], [(b8, .cells #[.int .i64 nb8c5_0, .slice Ab8c5_1 xb8c5_1.length pb8c5_1, .slice Ab8c5_2 xb8c5_2.length pb8c5_2] 25)], [(b5, .cells #[.int .i64 nb5c5_0, .slice Ab5c5_1 xb5c5_1.length pb5c5_1, .slice Ab5c5_2 xb5c5_2.length pb5c5_2] 25)], cb8c5_1, cb8c5_2, cb13c6_1, cb13c6_2] ∧ OwnS slotE 101 H' vb13c6_1 xb13c6_1 cb13c6_1 ∧ OwnS (intE .i64) 3 H' vb13c6_2 xb13c6_2 cb13c6_2 ∧ (if (windroseref02_Right_m ((nb5l2_0, xb5l2_1, xb5l2_2))) = true then (LR.seq (windroselaw02_own_m ((nb5c5_0, xb5c5_1, xb5c5_2))) (fun r87 => LR.seq (windroseref02_Give_m r87 x76) (fun r89 => (r89.2, r89.1.1, r89.1.2.1, r89.1.2.2)))) else ((120, 0, [], [])) : Int × Int × (List (Int × Bool)) × (List Int)) = (n15c6, nb13c6_0, xb13c6_1, xb13c6_2)) (fun ⟨n15c6, nb13c6_0, vb13c6_1, xb13c6_1, cb13c6_1, vb13c6_2, xb13c6_2, cb13c6_2⟩ => [(5, .pointer (some ⟨b5, 0, none⟩)), (8, .pointer (some ⟨b8, 0, none⟩)), (12, .int .i64 (r80.2)), (13, .pointer (some ⟨b13, 0, none⟩)), (15, .int .i64 n15c6), (16, .pointer (some ⟨b16, 0, none⟩)), (21, .slice Aa1 a1.length ca1), (22, .int .i64 (a1.length : Int)), (23, .int .i64 (kl2 : Int))]) ?_ ?_
                    · refine T.cond rfl (fun c84 => ?_) (fun c84 => ?_)
                      · refine T.set 84 (.bool true) (congrArg Value.bool c84) ?_
                        refine T.region ?_
                        refine R.ldX (cs := [.int .i64 nb5c5_0, .slice Ab5c5_1 xb5c5_1.length pb5c5_1, .slice Ab5c5_2 xb5c5_2.length pb5c5_2]) (l := [.int .i64 nb5c5_0, .slice Ab5c5_1 xb5c5_1.length pb5c5_1, .slice Ab5c5_2 xb5c5_2.length pb5c5_2]) Tryd.isAgg25 Tryd.sizeOf25 rfl rfl (.tl (.tl (.tl (.tl (.tl .hd))))) rfl rfl ?_
                        obtain ⟨r87, er87⟩ : ∃ r, r = (windroselaw02_own_m ((nb5c5_0, xb5c5_1, xb5c5_2))) := ⟨_, rfl⟩
                        refine TL.call [] rfl rfl rfl (windroselaw02_own_c _ ((nb5c5_0, xb5c5_1, xb5c5_2)) _ (wb5c5_1.mono (s76.trans (sF76_14.trans s80))) _ (wb5c5_2.mono (s76.trans (sF76_14.trans s80)))) ?_
                        intro v87 H87 L87 s87 q87
                        rw [← er87] at q87
                        obtain ⟨u87_0_1, u87_0_2, c87_0_1, c87_0_2, rfl, rfl, w87_0_1, w87_0_2⟩ := q87
                        obtain ⟨A87_0_1, p87_0_1, rfl, m87_0_1, n87_0_1⟩ := OwnS.shape w87_0_1
                        obtain ⟨A87_0_2, p87_0_2, rfl, m87_0_2, n87_0_2⟩ := OwnS.shape w87_0_2
                        have ta87 : r87.2.1.length ≤ 40 := by rw [er87]; simp only [windroselaw02_own_m, List.length_take]; omega
                        have tb87 : r87.2.2.length ≤ 40 := by rw [er87]; simp only [windroselaw02_own_m, List.length_take]; omega
                        refine R.mvE rfl (by conv => lhs; whnf) ?_
                        refine TL.shut .hd ?_
                        intro HF87_0_1_15 sF87_0_1_15 qF87_0_1_15
                        have fF87_0_1_15 := OwnS.read w87_0_1 sF87_0_1_15 qF87_0_1_15
                        refine TL.shut .hd ?_
                        intro HF87_0_2_16 sF87_0_2_16 qF87_0_2_16
                        have fF87_0_2_16 := OwnS.read (OwnS.mono w87_0_2 sF87_0_1_15) sF87_0_2_16 qF87_0_2_16
                        obtain ⟨r89, er89⟩ : ∃ r, r = (windroseref02_Give_m r87 x76) := ⟨_, rfl⟩
                        refine TL.call [] rfl rfl rfl (windroseref02_Give_c _ r87 _ (fF87_0_1_15.mono sF87_0_2_16) _ fF87_0_2_16 _ x76 (fF76_14.mono (s80.trans (s87.trans (sF87_0_1_15.trans sF87_0_2_16)))) (by rw [er87, own40 (by first | omega | (simp; done) | (simp; omega) | (simp at *; omega)) (by first | omega | (simp; done) | (simp; omega) | (simp at *; omega))]; exact hBc5_2 c84) (by first | omega | (simp; done) | (simp; omega) | (simp at *; omega))) ?_
                        intro v89 H89 L89 s89 q89
                        rw [← er89] at q89
                        obtain ⟨u89_0_1, u89_0_2, c89_0_1, c89_0_2, rfl, rfl, w89_0_1, w89_0_2⟩ := q89
                        obtain ⟨A89_0_1, p89_0_1, rfl, m89_0_1, n89_0_1⟩ := OwnS.shape w89_0_1
                        obtain ⟨A89_0_2, p89_0_2, rfl, m89_0_2, n89_0_2⟩ := OwnS.shape w89_0_2
                        refine R.mvE rfl (by conv => lhs; whnf) ?_
                        refine R.ext rfl rfl rfl ?_
                        refine R.ext rfl rfl rfl ?_
                        refine R.stX (old := [.int .i64 0, .slice none 0 0, .slice none 0 0]) (l := [.int .i64 (r89.1.1), .slice A89_0_1 r89.1.2.1.length p89_0_1, .slice A89_0_2 r89.1.2.2.length p89_0_2]) (new := [.int .i64 (r89.1.1), .slice A89_0_1 r89.1.2.1.length p89_0_1, .slice A89_0_2 r89.1.2.2.length p89_0_2]) (et := 25) Tryd.sizeOf25 rfl rfl rfl rfl rfl (by show 0 + 3 ≤ 3; decide) rfl (all_one rfl) (.tl (.tl (.tl (.tl (.tl .hd))))) ?_
                        refine R.asE rfl (by conv => lhs; whnf) ?_
                        refine TL.nil (Post.thnN ?_)
                        exact ⟨(r89.2, r89.1.1, .slice A89_0_1 r89.1.2.1.length p89_0_1, r89.1.2.1, c89_0_1, .slice A89_0_2 r89.1.2.2.length p89_0_2, r89.1.2.2, c89_0_2), (s87.trans (sF87_0_1_15.trans (sF87_0_2_16.trans s89))), ⟨(Has.cons (.tl (.tl .hd)) (Has.cons (.tl (.tl .hd)) (Has.cons (.tl (.tl .hd)) (Has.cons (.tl (.tl .hd)) (Has.cons (.tl (.tl .hd)) (Has.cons (.tl (.tl .hd)) (Has.cons (.tl (.tl .hd)) (Has.cons (.tl (.tl .hd)) (Has.cons .hd (Has.cons .hd Has.nil)))))))))), w89_0_1, w89_0_2, (by subst er89; subst er87; rw [if_t c84, LR.seq_go, LR.seq_go])⟩, rfl, rfl, rfl, rfl, rfl, rfl, rfl, rfl, rfl, trivial⟩
                      · refine T.set 84 (.bool false) (congrArg Value.bool c84) ?_
                        refine T.skip (Post.thnN ?_)
                        exact ⟨(120, 0, .slice none 0 0, [], [], .slice none 0 0, [], []), HLe.refl _, ⟨(Has.cons .hd (Has.cons .hd (Has.cons .hd (Has.cons .hd (Has.cons .hd (Has.cons .hd (Has.cons .hd (Has.cons .hd (Has.none (Has.none Has.nil)))))))))), OwnS.nil, OwnS.nil, (by rw [if_f c84])⟩, rfl, rfl, rfl, rfl, rfl, rfl, rfl, rfl, rfl, trivial⟩
                    · intro ⟨n15c6, nb13c6_0, vb13c6_1, xb13c6_1, cb13c6_1, vb13c6_2, xb13c6_2, cb13c6_2⟩ σ_c6 H_c6 L_c6 ds_c6 s_c6 hI_c6
                      obtain ⟨hLc6, wb13c6_1, wb13c6_2, hTc6⟩ := hI_c6
                      obtain ⟨Ab13c6_1, pb13c6_1, rfl, mb13c6_1, nb13c6_1_⟩ := OwnS.shape wb13c6_1
                      obtain ⟨Ab13c6_2, pb13c6_2, rfl, mb13c6_2, nb13c6_2_⟩ := OwnS.shape wb13c6_2
                      refine T.has hLc6 ?_
                      refine T.seq ?_
                      refine T.seq ?_
                      refine T.shut (.tl (.tl (.tl (.tl (.tl (.tl (.tl (.tl .hd)))))))) ?_
                      intro HFb13c6_1_17 sFb13c6_1_17 qFb13c6_1_17
                      have fFb13c6_1_17 := OwnS.read wb13c6_1 sFb13c6_1_17 qFb13c6_1_17
                      refine T.shut (.tl (.tl (.tl (.tl (.tl (.tl (.tl (.tl .hd)))))))) ?_
                      intro HFb13c6_2_18 sFb13c6_2_18 qFb13c6_2_18
                      have fFb13c6_2_18 := OwnS.read (OwnS.mono wb13c6_2 sFb13c6_1_17) sFb13c6_2_18 qFb13c6_2_18
                      refine T.cutK (ι := Bool) (fun b100c7 H' L' ds' => Has L' [[(b16, .cells #[.int .i64 (r80.1.1), .slice A80_0_1 r80.1.2.1.length p80_0_1, .slice A80_0_2 r80.1.2.2.length p80_0_2] 25)], c80_0_1, c80_0_2, [(b13, .cells #[.int .i64 nb13c6_0, .slice Ab13c6_1 xb13c6_1.length pb13c6_1, .slice Ab13c6_2 xb13c6_2.length pb13c6_2] 25)], [(b8, .cells #[.int .i64 nb8c5_0, .slice Ab8c5_1 xb8c5_1.length pb8c5_1, .slice Ab8c5_2 xb8c5_2.length pb8c5_2] 25)], [(b5, .cells #[.int .i64 nb5c5_0, .slice Ab5c5_1 xb5c5_1.length pb5c5_1, .slice Ab5c5_2 xb5c5_2.length pb5c5_2] 25)], cb8c5_1, cb8c5_2] ∧ (if r80.2 ≠ n15c6 then true else ((!(windroseref02_Same_m r80.1 ((nb13c6_0, xb13c6_1, xb13c6_2))))) : Bool) = b100c7) (fun b100c7 => [(5, .pointer (some ⟨b5, 0, none⟩)), (8, .pointer (some ⟨b8, 0, none⟩)), (12, .int .i64 (r80.2)), (13, .pointer (some ⟨b13, 0, none⟩)), (16, .pointer (some ⟨b16, 0, none⟩)), (21, .slice Aa1 a1.length ca1), (22, .int .i64 (a1.length : Int)), (23, .int .i64 (kl2 : Int)), (100, .bool (b100c7))]) ?_ ?_
                      · refine T.region ?_
                        refine R.mvE rfl (by conv => lhs; whnf) ?_
                        refine R.mvE rfl (by conv => lhs; whnf) ?_
                        refine R.neq rfl rfl rfl ?_
                        refine R.mvE rfl (by conv => lhs; whnf) ?_
                        refine TL.gsplitD 95 rfl (fun g95 => ?_) (fun g95 => ?_)
                        · refine TL.off rfl rfl rfl ?_
                          refine TL.off rfl rfl rfl ?_
                          refine TL.off rfl rfl rfl ?_
                          refine TL.off rfl rfl rfl ?_
                          refine R.pkTE rfl rfl (by conv => lhs; whnf) ?_
                          refine TL.nil (Post.thnN ?_)
                          exact ⟨true, HLe.refl _, ⟨(Has.cons .hd (Has.cons .hd (Has.cons .hd (Has.cons .hd (Has.cons .hd (Has.cons .hd (Has.cons .hd (Has.cons .hd Has.nil)))))))), (by rw [if_pos g95])⟩, rfl, rfl, rfl, rfl, rfl, rfl, rfl, rfl, rfl, trivial⟩
                        · refine R.ldX (cs := [.int .i64 (r80.1.1), .slice A80_0_1 r80.1.2.1.length p80_0_1, .slice A80_0_2 r80.1.2.2.length p80_0_2]) (l := [.int .i64 (r80.1.1), .slice A80_0_1 r80.1.2.1.length p80_0_1, .slice A80_0_2 r80.1.2.2.length p80_0_2]) Tryd.isAgg25 Tryd.sizeOf25 rfl rfl .hd rfl rfl ?_
                          refine R.ldX (cs := [.int .i64 nb13c6_0, .slice Ab13c6_1 xb13c6_1.length pb13c6_1, .slice Ab13c6_2 xb13c6_2.length pb13c6_2]) (l := [.int .i64 nb13c6_0, .slice Ab13c6_1 xb13c6_1.length pb13c6_1, .slice Ab13c6_2 xb13c6_2.length pb13c6_2]) Tryd.isAgg25 Tryd.sizeOf25 rfl rfl (.tl (.tl (.tl .hd))) rfl rfl ?_
                          refine R.callvB rfl rfl rfl (fun HB98 sB98 qB98 => by have fB98_0 := OwnS.read (OwnS.mono w80_0_1 (s_c6.trans (sFb13c6_1_17.trans sFb13c6_2_18))) sB98 (In.all (.tl .hd) qB98); have fB98_1 := OwnS.read (OwnS.mono w80_0_2 (s_c6.trans (sFb13c6_1_17.trans sFb13c6_2_18))) sB98 (In.all (.tl (.tl .hd)) qB98); exact (windroseref02_Same_c _ r80.1 _ fB98_0 _ fB98_1 ((nb13c6_0, xb13c6_1, xb13c6_2)) _ (fFb13c6_1_17.mono (sFb13c6_2_18.trans sB98)) _ (fFb13c6_2_18.mono sB98))) ?_
                          refine R.not rfl rfl ?_
                          refine R.pkFE rfl rfl (by conv => lhs; whnf) ?_
                          refine TL.nil (Post.thnN ?_)
                          exact ⟨(!(windroseref02_Same_m r80.1 ((nb13c6_0, xb13c6_1, xb13c6_2)))), HLe.refl _, ⟨(Has.cons .hd (Has.cons .hd (Has.cons .hd (Has.cons .hd (Has.cons .hd (Has.cons .hd (Has.cons .hd (Has.cons .hd Has.nil)))))))), (by rw [if_neg g95])⟩, rfl, rfl, rfl, rfl, rfl, rfl, rfl, rfl, rfl, trivial⟩
                      · intro b100c7 σ_c7 H_c7 L_c7 ds_c7 s_c7 hI_c7
                        obtain ⟨hLc7, hTc7⟩ := hI_c7
                        refine T.has hLc7 ?_
                        refine T.cond rfl (fun c100 => ?_) (fun c100 => ?_)
                        · refine T.set 100 (.bool true) (congrArg Value.bool c100) ?_
                          have hZ100 := hTc7.trans c100
                          try simp only [or_f, or_t, and_f, and_t, decide_eq_true_eq, decide_eq_false_iff_not, Bool.not_eq_true'] at hZ100
                          refine T.seq ?_
                          refine T.region ?_
                          refine R.asE rfl (by conv => lhs; whnf) ?_
                          refine TL.nil (Post.thnN ?_)
                          refine T.has Has.nil ?_
                          refine T.ret (Post.thnR (Post.blkR (Post.thnR (Post.thnR (Post.blkR (Post.thnR ?_))))))
                          have hXl2 : windroselaw02_AllocTakes_l2 a1 0 ((r20.1, r20.2.1, r20.2.2)) = .ret (.ret false) := by subst er80; subst e76; subst e75; subst er36; subst er31; rw [← hQl2, drop_cons hyl2, windroselaw02_AllocTakes_l2]; rw [if_neg c29, LR.seq_go, LR.seq_go, hTc3, LR.seq_go, hTc4, LR.seq_go, if_f c62, hTc5, LR.seq_go, LR.seq_go, hTc6, LR.seq_go, hTc7, LR.seq_go, if_t c100]
                          have hM : windroselaw02_AllocTakes_m a0 a1 = false := by subst er20; rw [windroselaw02_AllocTakes_m, if_f c18, LR.seq_go, hXl2, LR.on_ret, LR.on_ret]
                          exact fin1L (v := .bool false) [] rfl rfl (List.Sublist.refl _) ⟨rfl, by first | rw [hM] | rfl⟩
                        · refine T.set 100 (.bool false) (congrArg Value.bool c100) ?_
                          have hZ100 := hTc7.trans c100
                          try simp only [or_f, or_t, and_f, and_t, decide_eq_true_eq, decide_eq_false_iff_not, Bool.not_eq_true'] at hZ100
                          refine T.skip (Post.thnN ?_)
                          refine T.seq ?_
                          refine T.region ?_
                          refine R.ldX (cs := [.int .i64 (r80.1.1), .slice A80_0_1 r80.1.2.1.length p80_0_1, .slice A80_0_2 r80.1.2.2.length p80_0_2]) (l := [.int .i64 (r80.1.1), .slice A80_0_1 r80.1.2.1.length p80_0_1, .slice A80_0_2 r80.1.2.2.length p80_0_2]) Tryd.isAgg25 Tryd.sizeOf25 rfl rfl .hd rfl rfl ?_
                          refine TL.has (Has.cons (.tl .hd) (Has.cons (.tl .hd) (Has.cons .hd (Has.cons .hd (Has.cons .hd (Has.cons .hd (Has.cons .hd (Has.cons .hd Has.nil)))))))) ?_
                          refine TL.call [true, true] rfl rfl rfl (windroselaw02_spoil_c _ r80.1 _ _ (OwnS.mono w80_0_1 (s_c6.trans (sFb13c6_1_17.trans (sFb13c6_2_18.trans s_c7)))) _ _ (OwnS.mono w80_0_2 (s_c6.trans (sFb13c6_1_17.trans (sFb13c6_2_18.trans s_c7))))) ?_
                          intro v102 H102 L102 s102 q102
                          obtain ⟨rfl, rfl⟩ := q102
                          refine TL.nil (Post.thnN ?_)
                          refine T.seq ?_
                          refine T.seq ?_
                          refine T.region ?_
                          refine R.ldX (cs := [.int .i64 nb5c5_0, .slice Ab5c5_1 xb5c5_1.length pb5c5_1, .slice Ab5c5_2 xb5c5_2.length pb5c5_2]) (l := [.int .i64 nb5c5_0, .slice Ab5c5_1 xb5c5_1.length pb5c5_1, .slice Ab5c5_2 xb5c5_2.length pb5c5_2]) Tryd.isAgg25 Tryd.sizeOf25 rfl rfl (.tl (.tl (.tl .hd))) rfl rfl ?_
                          refine R.ldX (cs := [.int .i64 nb8c5_0, .slice Ab8c5_1 xb8c5_1.length pb8c5_1, .slice Ab8c5_2 xb8c5_2.length pb8c5_2]) (l := [.int .i64 nb8c5_0, .slice Ab8c5_1 xb8c5_1.length pb8c5_1, .slice Ab8c5_2 xb8c5_2.length pb8c5_2]) Tryd.isAgg25 Tryd.sizeOf25 rfl rfl (.tl (.tl .hd)) rfl rfl ?_
                          refine TL.shut (.tl (.tl (.tl (.tl .hd)))) ?_
                          intro HFb8c5_1_19 sFb8c5_1_19 qFb8c5_1_19
                          have fFb8c5_1_19 := OwnS.read (OwnS.mono wb8c5_1 (s76.trans (sF76_14.trans (s80.trans (s_c6.trans (sFb13c6_1_17.trans (sFb13c6_2_18.trans (s_c7.trans s102)))))))) sFb8c5_1_19 qFb8c5_1_19
                          refine TL.shut (.tl (.tl (.tl (.tl .hd)))) ?_
                          intro HFb8c5_2_20 sFb8c5_2_20 qFb8c5_2_20
                          have fFb8c5_2_20 := OwnS.read (OwnS.mono wb8c5_2 (s76.trans (sF76_14.trans (s80.trans (s_c6.trans (sFb13c6_1_17.trans (sFb13c6_2_18.trans (s_c7.trans (s102.trans sFb8c5_1_19))))))))) sFb8c5_2_20 qFb8c5_2_20
                          obtain ⟨r105, er105⟩ : ∃ r, r = (windroseref02_Same_m ((nb5c5_0, xb5c5_1, xb5c5_2)) ((nb8c5_0, xb8c5_1, xb8c5_2))) := ⟨_, rfl⟩
                          refine R.callv (v := .bool r105) rfl rfl rfl (by rw [er105]; exact windroseref02_Same_c _ ((nb5c5_0, xb5c5_1, xb5c5_2)) _ (wb5c5_1.mono (s76.trans (sF76_14.trans (s80.trans (s_c6.trans (sFb13c6_1_17.trans (sFb13c6_2_18.trans (s_c7.trans (s102.trans (sFb8c5_1_19.trans sFb8c5_2_20)))))))))) _ (wb5c5_2.mono (s76.trans (sF76_14.trans (s80.trans (s_c6.trans (sFb13c6_1_17.trans (sFb13c6_2_18.trans (s_c7.trans (s102.trans (sFb8c5_1_19.trans sFb8c5_2_20)))))))))) ((nb8c5_0, xb8c5_1, xb8c5_2)) _ (fFb8c5_1_19.mono sFb8c5_2_20) _ fFb8c5_2_20) ?_
                          refine R.not rfl rfl ?_
                          refine TL.nil (Post.thnN ?_)
                          refine T.cond rfl (fun c106 => ?_) (fun c106 => ?_)
                          · refine T.set 106 (.bool true) (congrArg Value.bool c106) ?_
                            refine T.seq ?_
                            refine T.region ?_
                            refine R.asE rfl (by conv => lhs; whnf) ?_
                            refine TL.nil (Post.thnN ?_)
                            refine T.has Has.nil ?_
                            refine T.ret (Post.thnR (Post.blkR (Post.thnR (Post.thnR (Post.blkR (Post.thnR ?_))))))
                            have hXl2 : windroselaw02_AllocTakes_l2 a1 0 ((r20.1, r20.2.1, r20.2.2)) = .ret (.ret false) := by subst er105; subst er80; subst e76; subst e75; subst er36; subst er31; rw [← hQl2, drop_cons hyl2, windroselaw02_AllocTakes_l2]; rw [if_neg c29, LR.seq_go, LR.seq_go, hTc3, LR.seq_go, hTc4, LR.seq_go, if_f c62, hTc5, LR.seq_go, LR.seq_go, hTc6, LR.seq_go, hTc7, LR.seq_go, if_f c100, LR.seq_go, if_t c106]
                            have hM : windroselaw02_AllocTakes_m a0 a1 = false := by subst er20; rw [windroselaw02_AllocTakes_m, if_f c18, LR.seq_go, hXl2, LR.on_ret, LR.on_ret]
                            exact fin1L (v := .bool false) [] rfl rfl (List.Sublist.refl _) ⟨rfl, by first | rw [hM] | rfl⟩
                          · refine T.set 106 (.bool false) (congrArg Value.bool c106) ?_
                            refine T.skip (Post.thnN ?_)
                            refine T.seq ?_
                            refine T.region ?_
                            refine R.mvE rfl (by conv => lhs; whnf) ?_
                            refine R.eql rfl rfl rfl ?_
                            refine TL.nil (Post.thnN ?_)
                            refine T.condD rfl (fun c108 => ?_) (fun c108 => ?_)
                            · refine T.set 108 (.bool true) (congrArg Value.bool (decide_eq_true c108)) ?_
                              refine T.region ?_
                              refine R.ldX (cs := [.int .i64 nb13c6_0, .slice Ab13c6_1 xb13c6_1.length pb13c6_1, .slice Ab13c6_2 xb13c6_2.length pb13c6_2]) (l := [.int .i64 nb13c6_0, .slice Ab13c6_1 xb13c6_1.length pb13c6_1, .slice Ab13c6_2 xb13c6_2.length pb13c6_2]) Tryd.isAgg25 Tryd.sizeOf25 rfl rfl (.tl .hd) rfl rfl ?_
                              obtain ⟨r110, er110⟩ : ∃ r, r = (windroselaw02_own_m ((nb13c6_0, xb13c6_1, xb13c6_2))) := ⟨_, rfl⟩
                              refine TL.call [] rfl rfl rfl (windroselaw02_own_c _ ((nb13c6_0, xb13c6_1, xb13c6_2)) _ (fFb13c6_1_17.mono (sFb13c6_2_18.trans (s_c7.trans (s102.trans (sFb8c5_1_19.trans sFb8c5_2_20))))) _ (fFb13c6_2_18.mono (s_c7.trans (s102.trans (sFb8c5_1_19.trans sFb8c5_2_20))))) ?_
                              intro v110 H110 L110 s110 q110
                              rw [← er110] at q110
                              obtain ⟨u110_0_1, u110_0_2, c110_0_1, c110_0_2, rfl, rfl, w110_0_1, w110_0_2⟩ := q110
                              obtain ⟨A110_0_1, p110_0_1, rfl, m110_0_1, n110_0_1⟩ := OwnS.shape w110_0_1
                              obtain ⟨A110_0_2, p110_0_2, rfl, m110_0_2, n110_0_2⟩ := OwnS.shape w110_0_2
                              have ta110 : r110.2.1.length ≤ 40 := by rw [er110]; simp only [windroselaw02_own_m, List.length_take]; omega
                              have tb110 : r110.2.2.length ≤ 40 := by rw [er110]; simp only [windroselaw02_own_m, List.length_take]; omega
                              refine TL.shut .hd ?_
                              intro HF110_0_1_21 sF110_0_1_21 qF110_0_1_21
                              have fF110_0_1_21 := OwnS.read w110_0_1 sF110_0_1_21 qF110_0_1_21
                              refine TL.shut .hd ?_
                              intro HF110_0_2_22 sF110_0_2_22 qF110_0_2_22
                              have fF110_0_2_22 := OwnS.read (OwnS.mono w110_0_2 sF110_0_1_21) sF110_0_2_22 qF110_0_2_22
                              refine R.stX (old := [.int .i64 nb5c5_0, .slice Ab5c5_1 xb5c5_1.length pb5c5_1, .slice Ab5c5_2 xb5c5_2.length pb5c5_2]) (l := [.int .i64 (r110.1), .slice A110_0_1 r110.2.1.length p110_0_1, .slice A110_0_2 r110.2.2.length p110_0_2]) (new := [.int .i64 (r110.1), .slice A110_0_1 r110.2.1.length p110_0_1, .slice A110_0_2 r110.2.2.length p110_0_2]) (et := 25) Tryd.sizeOf25 rfl rfl rfl rfl rfl (by show 0 + 3 ≤ 3; decide) rfl (all_one rfl) (.tl (.tl (.tl .hd))) ?_
                              refine TL.nil (Post.blkN ?_)
                              refine id (Post.thnN ?_)
                              refine T.region ?_
                              refine R.addI rfl rfl rfl (by omega) ?_
                              refine R.mvE rfl (by conv => lhs; whnf) ?_
                              refine TL.nil (Post.thnN ?_)
                              exact ⟨(kl2 + 1, r110.1, .slice A110_0_1 r110.2.1.length p110_0_1, r110.2.1, .slice A110_0_2 r110.2.2.length p110_0_2, r110.2.2), (s_l2.trans (s31.trans (s36.trans (s_c3.trans (sFb13c3_1_6.trans (sFb13c3_2_7.trans (s_c4.trans (s64.trans (s_c5.trans (s76.trans (sF76_14.trans (s80.trans (s_c6.trans (sFb13c6_1_17.trans (sFb13c6_2_18.trans (s_c7.trans (s102.trans (sFb8c5_1_19.trans (sFb8c5_2_20.trans (s110.trans (sF110_0_1_21.trans sF110_0_2_22))))))))))))))))))))), ⟨(by omega), (Has.cons (.tl (.tl (.tl .hd))) Has.nil), (fF110_0_1_21.mono sF110_0_2_22), fF110_0_2_22, (by first | omega | (simp; done) | (simp; omega) | (simp at *; omega)), (by first | omega | (simp; done) | (simp; omega) | (simp at *; omega)), (by subst er110; subst er105; subst er80; subst e76; subst e75; subst er36; subst er31; rw [← hQl2, drop_cons hyl2, windroselaw02_AllocTakes_l2]; rw [if_neg c29, LR.seq_go, LR.seq_go, hTc3, LR.seq_go, hTc4, LR.seq_go, if_f c62, hTc5, LR.seq_go, LR.seq_go, hTc6, LR.seq_go, hTc7, LR.seq_go, if_f c100, LR.seq_go, if_f c106, if_pos c108, LR.seq_go])⟩, by show a1.length - (kl2 + 1) < a1.length - kl2; omega, rfl, rfl, rfl, rfl, trivial⟩
                            · refine T.set 108 (.bool false) (congrArg Value.bool (decide_eq_false c108)) ?_
                              refine T.skip (Post.blkN ?_)
                              refine id (Post.thnN ?_)
                              refine T.region ?_
                              refine R.addI rfl rfl rfl (by omega) ?_
                              refine R.mvE rfl (by conv => lhs; whnf) ?_
                              refine TL.nil (Post.thnN ?_)
                              exact ⟨(kl2 + 1, nb5c5_0, .slice Ab5c5_1 xb5c5_1.length pb5c5_1, xb5c5_1, .slice Ab5c5_2 xb5c5_2.length pb5c5_2, xb5c5_2), (s_l2.trans (s31.trans (s36.trans (s_c3.trans (sFb13c3_1_6.trans (sFb13c3_2_7.trans (s_c4.trans (s64.trans (s_c5.trans (s76.trans (sF76_14.trans (s80.trans (s_c6.trans (sFb13c6_1_17.trans (sFb13c6_2_18.trans (s_c7.trans (s102.trans (sFb8c5_1_19.trans sFb8c5_2_20)))))))))))))))))), ⟨(by omega), (Has.cons (.tl (.tl (.tl .hd))) Has.nil), (wb5c5_1.mono (s76.trans (sF76_14.trans (s80.trans (s_c6.trans (sFb13c6_1_17.trans (sFb13c6_2_18.trans (s_c7.trans (s102.trans (sFb8c5_1_19.trans sFb8c5_2_20)))))))))), (wb5c5_2.mono (s76.trans (sF76_14.trans (s80.trans (s_c6.trans (sFb13c6_1_17.trans (sFb13c6_2_18.trans (s_c7.trans (s102.trans (sFb8c5_1_19.trans sFb8c5_2_20)))))))))), (by first | omega | (simp; done) | (simp; omega) | (simp at *; omega)), (by first | omega | (simp; done) | (simp; omega) | (simp at *; omega)), (by subst er105; subst er80; subst e76; subst e75; subst er36; subst er31; rw [← hQl2, drop_cons hyl2, windroselaw02_AllocTakes_l2]; rw [if_neg c29, LR.seq_go, LR.seq_go, hTc3, LR.seq_go, hTc4, LR.seq_go, if_f c62, hTc5, LR.seq_go, LR.seq_go, hTc6, LR.seq_go, hTc7, LR.seq_go, if_f c100, LR.seq_go, if_f c106, if_neg c108])⟩, by show a1.length - (kl2 + 1) < a1.length - kl2; omega, rfl, rfl, rfl, rfl, trivial⟩
        · refine T.exit (Post.thnE (Post.thnE (Post.blkX ?_)))
          have hEl2 : windroselaw02_AllocTakes_l2 a1 0 ((r20.1, r20.2.1, r20.2.2)) = .go () := (hQl2.symm.trans (by rw [show kl2 = a1.length by omega, List.drop_length, windroselaw02_AllocTakes_l2]))
          refine id (Post.thnN ?_)
          exact ⟨(), s_l2, ⟨Has.nil, (by rw [hEl2, LR.on_go])⟩, trivial⟩
    · intro _ σ_c1 H_c1 L_c1 ds_c1 s_c1 hI_c1
      obtain ⟨hLc1, hTc1⟩ := hI_c1
      refine T.has hLc1 ?_
      refine T.seq ?_
      refine T.region ?_
      refine R.asE rfl (by conv => lhs; whnf) ?_
      refine TL.nil (Post.thnN ?_)
      refine T.has Has.nil ?_
      refine T.ret ?_
      have hM : windroselaw02_AllocTakes_m a0 a1 = true := by subst er20; rw [windroselaw02_AllocTakes_m, if_f c18, LR.seq_go, hTc1, LR.on_go]
      exact fin1L (v := .bool true) [] rfl rfl (List.Sublist.refl _) ⟨rfl, by first | rw [hM] | rfl⟩

end Go.SX

set_option linter.unusedVariables false
set_option linter.unusedSimpArgs false
namespace Go.SX
open Go
theorem alive_m_iff {a : Al} (hs : a.2.1.length ≤ 2000000) (x : Int) : alloc_Alive_m a x = true ↔ Rt a ∧ ∃ i, AtI a i x := by
  unfold alloc_Alive_m
  by_cases h : Rt a
  · rw [if_pos ((check_iff hs).1.2 h), alive_iff h]; exact ⟨fun k => ⟨h, k⟩, fun k => k.2⟩
  · rw [if_neg (fun k => h ((check_iff hs).1.1 k))]; exact ⟨fun k => (by cases k), fun k => absurd k.1 h⟩
abbrev tS : Sl2 := (0, true)
theorem rt_a : Rt (1, [tS, tS], []) where
  m1 := by decide
  m2 := by decide
  n1 := by decide
  n2 := by decide
  al := by decide
  g := fun i s h => by
    match i, h with
    | 0, h => simp at h; subst h; exact ⟨by decide, by decide, fun _ => rfl⟩
    | 1, h => simp at h; subst h; exact ⟨by decide, by decide, fun _ => rfl⟩
    | n + 2, h => simp at h
  f := by simp [sortI, useL, useB]
theorem rt_c : Rt (1, [tS, tS, (0, false)], [3]) where
  m1 := by decide
  m2 := by decide
  n1 := by decide
  n2 := by decide
  al := by decide
  g := fun i s h => by
    match i, h with
    | 0, h => simp at h; subst h; exact ⟨by decide, by decide, fun _ => rfl⟩
    | 1, h => simp at h; subst h; exact ⟨by decide, by decide, fun _ => rfl⟩
    | 2, h => simp at h; subst h; exact ⟨by decide, by decide, fun k => absurd k (by decide)⟩
    | n + 3, h => simp at h
  f := by simp [sortI, useL, useB]
theorem wakes_true : windroselaw02_wakes_m = true := by
  have e1 : alloc_New_m 1 = ((1, [tS, tS], []), 0) := by unfold alloc_New_m; simp [LR.seq]
  have t1 : takeP (1, [tS, tS], []) = ((1, [tS, tS, tS], []), 3, 0) := by decide
  have rb : Rt (1, [tS, tS, tS], []) := by have := take_keeps rt_a (by rw [t1]); rw [t1] at this; exact this
  have t2 : takeP (1, [tS, tS, tS], []) = (noAl, 0, 6) := by decide
  have ab : alloc_alive_m (1, [tS, tS, tS], []) 3 = true := (alive_iff rb 3).2 ⟨2, 0, rfl, by decide⟩
  have g1 : alloc_Give_m (1, [tS, tS, tS], []) [3] = ((1, [tS, tS, (0, false)], [3]), 0) := by
    rw [give_rt rb]
    unfold giveP
    rw [if_pos (fun x hx => by rw [List.mem_singleton.1 hx]; exact ab), if_pos ⟨fun x hx => by rw [List.mem_singleton.1 hx]; decide, by simp⟩]
    refine Prod.ext ?_ rfl
    show giveR _ _ = _
    decide
  have t3 : takeP (1, [tS, tS, (0, false)], [3]) = ((1, [tS, tS, (1, true)], []), 4294967299, 0) := by decide
  have rd : Rt (1, [tS, tS, (1, true)], []) := by have := take_keeps rt_c (by rw [t3]); rw [t3] at this; exact this
  have a1 : alloc_Alive_m (1, [tS, tS, (1, true)], []) 4294967299 = true := (alive_m_iff (by decide) _).2 ⟨rd, 2, 1, rfl, by decide⟩
  have a2 : alloc_Alive_m (1, [tS, tS, (1, true)], []) 3 = false := by
    cases e : alloc_Alive_m (1, [tS, tS, (1, true)], []) 3 with
    | false => rfl
    | true =>
      obtain ⟨_, i, g, h1, h2⟩ := (alive_m_iff (by decide) _).1 e
      have hr := rd.rng h1
      simp only at hr
      have h3 : i = 2 ∧ g = 0 := by unfold entI at h2; omega
      obtain ⟨rfl, rfl⟩ := h3
      simp at h1
  have l1 : (alloc_All_m (1, [tS, tS, (1, true)], [])).length = 3 := by
    unfold alloc_All_m
    rw [(check_iff (by decide)).1.2 rd, if_neg (by decide)]
    simp only [LR.seq]
    rw [all_r1_len]
    unfold alloc_living_m alloc_living_1_m
    rw [List.append_nil, living_l1]; decide
  unfold windroselaw02_wakes_m
  simp only [LR.seq]
  rw [e1]
  simp only
  rw [take_rt rt_a, t1]
  simp only
  rw [take_rt rb, t2, g1]
  simp only
  rw [take_rt rt_c, t3]
  simp only
  rw [a1, a2, l1]
  simp
theorem eta3 {α β γ : Type} (p : α × β × γ) : (p.1, p.2.1, p.2.2) = p := rfl
theorem right_dec {a : Al} (h1 : a.2.1.length ≤ 40) (h2 : a.2.2.length ≤ 40) : (Rt a ∧ windroseref02_Right_m a = true) ∨ (¬ Rt a ∧ windroseref02_Right_m a = false) := by
  have hr := right_ref (a := a) (by omega) (by omega)
  cases e : windroseref02_Right_m a with
  | true => exact .inl ⟨hr.1 e, rfl⟩
  | false => exact .inr ⟨fun h => (by rw [hr.2 h] at e; cases e), rfl⟩
theorem takes_hT {a : Al} (hr : Rt a) : LR.seq a (fun r44 => LR.seq (windroseref02_Take_m r44) (fun r45 => (r45.2.1, r45.2.2, r45.1))) = ((takeP a).2.1, (takeP a).2.2, (takeP a).1) := by
  rw [LR.seq_go, LR.seq_go, take_ref hr]
theorem takes_hG {a : Al} (hr : Rt a) (l : List Int) : LR.seq a (fun r87 => LR.seq (windroseref02_Give_m r87 l) (fun r89 => (r89.2, r89.1))) = ((giveP a l).2, (giveP a l).1) := by
  rw [LR.seq_go, LR.seq_go, give_ref hr]
theorem takes_l2 : ∀ (l : List (List Int)) (k : Nat) (a : Al), a.2.1.length ≤ 40 → a.2.2.length ≤ 40 → windroselaw02_AllocTakes_l2 l k a = .go ()
  | [], k, a, _, _ => rfl
  | y :: ys, k, a, h1, h2 => by
    have ih := takes_l2 ys (k + 1)
    have hown : ∀ b : Al, (windroselaw02_own_m b).2.1.length ≤ 40 ∧ (windroselaw02_own_m b).2.2.length ≤ 40 := own_len
    rw [windroselaw02_AllocTakes_l2]
    split
    · rfl
    simp only [eta3, same_ref]
    rw [own40 h1 h2, LR.seq_go]
    rcases right_dec h1 h2 with ⟨hr, e⟩ | ⟨hr, e⟩
    · rw [take_rt hr, LR.seq_go, e, if_pos rfl, takes_hT hr, LR.seq_go]
      simp only [ne_eq, not_true_eq_false, if_false, decide_true, Bool.not_true, if_true]
      rw [LR.seq_go, if_neg Bool.false_ne_true]
      by_cases c : (takeP a).2.2 = 0
      · have hrt := own_take_rt hr h1 h2 c
        obtain ⟨o1, o2⟩ := hown (takeP a).1
        rw [if_pos c, show LR.seq (windroselaw02_own_m (takeP a).1) (fun r68 => LR.seq (windroselaw02_own_m (takeP a).1) (fun r70 => (r70.1, r70.2.1, r70.2.2, r68))) = ((windroselaw02_own_m (takeP a).1).1, (windroselaw02_own_m (takeP a).1).2.1, (windroselaw02_own_m (takeP a).1).2.2, windroselaw02_own_m (takeP a).1) from rfl, LR.seq_go]
        simp only [eta3]
        rw [own40 o1 o2, give_rt hrt, LR.seq_go, takes_hG hrt, LR.seq_go]
        simp only [ne_eq, not_true_eq_false, if_false, decide_true, Bool.not_true]
        rw [LR.seq_go, if_neg Bool.false_ne_true, LR.seq_go, Bool.not_true, if_neg Bool.false_ne_true]
        split
        · rw [LR.seq_go]; exact ih _ (hown _).1 (hown _).2
        · exact ih _ o1 o2
      · rw [if_neg c, LR.seq_go]
        simp only [eta3]
        rw [own40 h1 h2, give_rt hr, LR.seq_go, takes_hG hr, LR.seq_go]
        simp only [ne_eq, not_true_eq_false, if_false, decide_true, Bool.not_true]
        rw [LR.seq_go, if_neg Bool.false_ne_true, LR.seq_go, Bool.not_true, if_neg Bool.false_ne_true]
        split
        · rw [LR.seq_go]; exact ih _ (hown _).1 (hown _).2
        · exact ih _ h1 h2
    · have hn : noAl = (0, [], []) := rfl
      rw [take_not (by omega) hr, LR.seq_go, e, if_neg Bool.false_ne_true, LR.seq_go]
      simp only [ne_eq, not_true_eq_false, if_false, decide_true, Bool.not_true, hn]
      rw [LR.seq_go, if_neg Bool.false_ne_true, if_neg (by decide), LR.seq_go]
      simp only [eta3]
      rw [give_not (by omega) hr, LR.seq_go, if_neg Bool.false_ne_true, LR.seq_go]
      simp only [ne_eq, not_true_eq_false, if_false, decide_true, Bool.not_true, hn]
      rw [LR.seq_go, if_neg Bool.false_ne_true, LR.seq_go, Bool.not_true, if_neg Bool.false_ne_true, if_neg (by decide)]
      exact ih _ h1 h2
theorem allocTakes_true (a0 : Al) (a1 : List (List Int)) : windroselaw02_AllocTakes_m a0 a1 = true := by
  obtain ⟨k1, k2⟩ := own_len a0
  unfold windroselaw02_AllocTakes_m
  rw [wakes_true, Bool.not_true, if_neg Bool.false_ne_true, LR.seq_go, takes_l2 _ _ _ k1 k2]
  rfl
end Go.SX

set_option linter.unusedVariables false
set_option linter.unusedSimpArgs false
namespace Go.SX
open Go Go.ChangeShapes Go.WideShapes Go.ChangeAt Go.RowKit

/-- All that stands in a world's memory can be read. -/
def heapOf (W : World) : Heap := fun b => W.heap[b]?
theorem sat_heapOf (W : World) : Sat (heapOf W) [] W := ⟨fun _ _ h => h, fun p h => (by cases h), List.nodup_nil, fun p h => (by cases h)⟩

/-- A contract of a function that hands back v, at a world. -/
theorem calls_of_Fv {P : Program} {f : FuncId} {fn : Func} {c : Code} {vs : List Value} {v : Value} {W : World} (hf : P.funcs[f]? = some fn) (hb : fn.body = some c) (hname : (fn.name == "runtime.NumGoroutine") = false)
    (h : Fv P (fnv f) vs (heapOf W) v) : Calls P f vs.toArray W fun e W' => e = .returned v ∧ Below W.heap.size W W' := by
  obtain ⟨nx, w1, h1, h2⟩ := h W (sat_heapOf W)
  have he := Go.Proofs.enters_of (P := P) hf hname hb vs.toArray W
  have hrun : Sem.run P (do let d ← Deferred.ofValue (fnv f) vs.toArray; invoke d.target d.args) W = .ok (.enter f vs.toArray) W := by
    simp [Deferred.ofValue, invoke, he]
  rw [hrun] at h1
  injection h1 with h1 h3
  subst h1; subst h3
  refine callsIn_wide.1 (CallsIn.mono h2 ?_)
  rintro e w' ⟨u, H', L', rfl, hst, rfl, rfl⟩
  exact ⟨rfl, hst.chg.os, hst.chg.tape, hst.chg.output, hst.chg.size, fun b hb => hst.chg.same b hb (by simp [keys])⟩

section
variable {H : Type} {enc : TypeId × Value → H} {P : Program}

theorem trodAll_below (hl : laidOutB P = true) {W W' : World} (hb : Below W.heap.size W W') {sp : Nat → Bool} : ∀ {ts : List TypeId} {vs : List Value} {ds : List (DataW H)} {p : List MemPlace},
    (∀ t ∈ ts, P.readableRec t = true ∧ t < P.types.size) → DataW.TrodAll enc P W 0 (fun _ => true) true ts vs ds p → (∀ q ∈ p, q.block < W.heap.size ∧ sp q.block = true) → DataW.TrodAll enc P W' 0 sp true ts vs ds p
  | [], _, _, _, _, h, _ => by
    obtain ⟨rfl, rfl, rfl⟩ := trodAll_nil h
    exact trodAll_mk0
  | t :: ts, _, _, _, ht, h, hp => by
    obtain ⟨v, vs, d, ds, a, b, rfl, rfl, rfl, h1, h2⟩ := trodAll_cons h
    have h3 := WideElems.Trod_stays (sp' := sp) hl (ht t (List.mem_cons_self ..)).1 (ht t (List.mem_cons_self ..)).2 h1 (fun x hx => hb.same (hp x (List.mem_append_left _ hx)).1) (fun x hx => (hp x (List.mem_append_left _ hx)).2)
    exact ⟨a, b, h3, trodAll_below hl hb (fun t' h' => ht t' (List.mem_cons_of_mem _ h')) h2 (fun x hx => hp x (List.mem_append_right _ hx)), rfl⟩

/-- What is asked behind a call that turned nothing of what there was, and says true. -/
theorem post_true {f : Func} {s : ChangeSpec} {fresh handsOn again : Bool} {W W' : World} {args : Array Value} {ds gs : List (DataW H)} {before : List MemPlace} {tb : TypeId} (hl : laidOutB P = true)
    (hW : DataW.Whole enc P f.params.toList s.vars false W args.toList ds gs before) (hvars : s.vars = []) (hpar : ∀ t ∈ f.params.toList, P.readableRec t = true ∧ t < P.types.size)
    (hs : s.fn H (ds ++ gs) = { results := [.lit (.bool true)], args := ds }) (hrt : f.resultTypes = #[tb]) (htb : P.underlying tb = some .bool) (hb : Below W.heap.size W W') :
    s.post enc P f false fresh handsOn again W args (.bool true) W' := by
  have hlt := hW.lt
  have hW0 := hW
  obtain ⟨p, q, hA, hV, rfl, hfz, hnd⟩ := hW
  rw [hvars] at hV
  obtain ⟨rfl, rfl⟩ := trodVars_none hV
  rw [List.append_nil] at hfz hlt
  have hres : ∀ (b : Nat) (sp : Nat → Bool) (hd : Bool), DataW.TrodAll enc P W' b sp hd f.resultTypes.toList ((Value.bool true).resultList f.resultTypes.size) [.lit (.bool true)] [] := by
    intro b sp hd
    rw [hrt]
    exact trodAll_mk1 (shut_bool htb true)
  have hargs : ∀ sp : Nat → Bool, (∀ x ∈ p, sp x.block = true) → DataW.TrodAll enc P W' 0 sp true f.params.toList args.toList ds p := fun sp hsp =>
    trodAll_below hl hb hpar hA (fun x hx => ⟨hlt x hx, hsp x hx⟩)
  have hvr : ∀ sp : Nat → Bool, DataW.TrodVars enc P W' sp s.vars ([] : List (DataW H)) [] := fun sp => by rw [hvars]; rfl
  refine ⟨ds, [], p ++ [], [], p, [], hW0, ?_, ?_, ?_, World.keptBut_mono (fun x hx => ⟨hx, ?_⟩) (hb.frame (· ∈ p ++ [])), fun _ => ?_⟩
  · rw [hs]; exact hres _ _ _
  · rw [hs]; exact hargs _ (fun x hx => by simpa using hlt x hx)
  · rw [hs]; exact hvr _
  · exact Or.inr (by simpa using hx)
  · refine ⟨ok_one hrt rfl (okWide_bool_mk htb true), _, _, ([] ++ p) ++ [], ⟨[] ++ p, [], trodAll_append (hargs _ (fun _ _ => rfl)) (hres _ _ _), hvr _, rfl, ?_, fun h => by cases h⟩, ?_⟩
    · intro b off hp
      have hp' : MemPlace.cell b off ∈ p := by simpa using hp
      have := hb.frozen (p := ⟨b, off, none⟩) (hlt _ hp')
      rw [this]
      exact hfz b off hp'
    · intro x hx _
      simpa using hx

theorem cellAt_heapOf {W : World} {b o : Nat} {v : Value} (h : W.cell? ⟨b, o, none⟩ = some v) : cellAt (heapOf W) b o = some v := by
  unfold World.cell? at h
  unfold cellAt heapOf
  simp only at h
  revert h
  cases hb : W.heap[b]? with
  | none => intro h; simp at h
  | some ob => cases ob <;> intro h <;> simp_all

end
end Go.SX

set_option linter.unusedVariables false
set_option linter.unusedSimpArgs false
namespace Go.SX
open Go Go.ChangeShapes Go.WideShapes Go.ChangeAt Go.RowKit Go.Deep
/-- What can be read at the type stands as E says. -/
def Opn (P : Program) (t : TypeId) {α : Type} (E : ER α) (Q : α → Prop) : Prop :=
  ∀ (H : Type) (enc : TypeId × Value → H) (W : World) (sp : Nat → Bool) (hd : Bool) (n : Nat) (cs : List Value) (x : DataW H × List MemPlace), DataW.trod enc P W 0 sp hd n t cs = some x → ∃ a, E.R (heapOf W) cs a ∧ Q a
theorem Opn.int {P : Program} {t : TypeId} {k : IntKind} (ht : P.underlying t = some (.int k)) : Opn P t (intE k) (fun x => (Lit.int k x).wf = true) := fun H enc W sp hd n cs x h => by
  obtain ⟨n, rfl, _, hw⟩ := DataW.trod_int ht h
  exact ⟨n, rfl, hw⟩
theorem Opn.bool {P : Program} {t : TypeId} (ht : P.underlying t = some .bool) : Opn P t boolE (fun _ => True) := fun H enc W sp hd n cs x h => by
  obtain ⟨b, rfl, _⟩ := DataW.trod_bool ht h
  exact ⟨b, rfl, trivial⟩
theorem Opn.weak {P : Program} {t : TypeId} {α : Type} {E : ER α} {Q Q' : α → Prop} (h : Opn P t E Q) (hq : ∀ a, Q a → Q' a) : Opn P t E Q' := fun H enc W sp hd n cs x hx => by
  obtain ⟨a, h1, h2⟩ := h H enc W sp hd n cs x hx
  exact ⟨a, h1, hq a h2⟩
/-- An array of two ints. -/
theorem Opn.two {P : Program} {t i : TypeId} (ht : P.underlying t = some (.array 2 i)) (ct : P.cellsOf t = 2) (hi : P.underlying i = some (.int .i64)) (ci : P.cellsOf i = 1) : Opn P t pairE (fun _ => True) := fun H enc W sp hd n cs x h => by
  obtain ⟨xs, m, _, _, hl, hxl, hf⟩ := DataW.trod_array ht h
  rw [ct] at hl
  match cs, hl, xs, hxl with
  | [v0, v1], _, [y0, y1], _ =>
    have g0 := hf 0 (by omega)
    have g1 := hf 1 (by omega)
    rw [ci] at g0 g1
    simp at g0 g1
    obtain ⟨a, ha, _⟩ := DataW.trod_int hi g0
    obtain ⟨b, hb, _⟩ := DataW.trod_int hi g1
    simp at ha hb
    subst ha; subst hb
    exact ⟨(a, b), rfl, trivial⟩
/-- A slice. -/
theorem Opn.slice {P : Program} {t e : TypeId} {α : Type} {E : ER α} {Q : α → Prop} (ht : P.underlying t = some (.slice e)) (hc : P.cellsOf e = E.size) (he : Opn P e E Q) (hs : 0 < E.size) : Opn P t (slE E) (fun xs => ∀ x ∈ xs, Q x) := fun H enc W sp hd n cs x h => by
  rcases open_slice ht h with ⟨rfl, _⟩ | ⟨a, len, cap, m, n', D, Pl, rfl, _, hl, hm, hmm, _, hx⟩
  · exact ⟨[], ⟨_, rfl, RdS.nil⟩, fun x hx => by simp at hx⟩
  · have key : ∀ i, i < len → ∃ x, (∃ b o, a = ⟨b, o, none⟩ ∧ ElemAt E (heapOf W) b (o + i * E.size) x) ∧ Q x := fun i hi => by
      obtain ⟨cs', h1, h2⟩ := hx i (by rw [hmm]; split <;> omega)
      obtain ⟨x, h3, h4⟩ := he H enc W sp hd n' cs' _ h2
      refine ⟨x, ?_, h4⟩
      rw [hc] at h1
      obtain ⟨_, hlen, hcell⟩ := World.cells?_some h1
      obtain ⟨ab, ao, asp⟩ := a
      cases asp with
      | none =>
        refine ⟨ab, ao, rfl, cs', h3, fun j u hj => ?_⟩
        have hjl : j < E.size := by rw [← hlen]; exact (List.getElem?_eq_some_iff.1 hj).1
        have h5 := hcell j hjl
        rw [hj, add_add, Addr.add_lit] at h5
        have := cellAt_heapOf h5
        rw [show ao + i * E.size + j = ao + (i * E.size + j) by omega]
        exact this
      | some s =>
        exfalso
        obtain ⟨cs0, k1, _⟩ := hx 0 (by rw [hmm]; split <;> omega)
        rw [hc, Nat.zero_mul, Addr.add_zero'] at k1
        obtain ⟨_, klen, kcell⟩ := World.cells?_some k1
        have h5 := kcell 0 hs
        rw [Addr.add_zero'] at h5
        obtain ⟨u, hu⟩ : ∃ u, cs0[0]? = some u := ⟨cs0[0], List.getElem?_eq_getElem (by omega)⟩
        rw [hu] at h5
        unfold World.cell? at h5
        revert h5
        cases hb : W.heap[ab]? with
        | none => intro h; simp [hb] at h
        | some ob => cases ob <;> intro h <;> simp [hb] at h
    obtain ⟨f, hf⟩ : ∃ f : Nat → Option α, ∀ i, i < len → ∃ x, f i = some x ∧ (∃ b o, a = ⟨b, o, none⟩ ∧ ElemAt E (heapOf W) b (o + i * E.size) x) ∧ Q x := by
      classical
      refine ⟨fun i => if hi : i < len then some (Classical.choose (key i hi)) else none, fun i hi => ?_⟩
      exact ⟨_, dif_pos hi, Classical.choose_spec (key i hi)⟩
    have hxs : ∀ n, n ≤ len → ∃ xs : List α, xs.length = n ∧ ∀ i, i < n → xs[i]? = f i := fun n => by
      induction n with
      | zero => exact fun _ => ⟨[], rfl, fun i hi => absurd hi (Nat.not_lt_zero _)⟩
      | succ n ih =>
        intro hn
        obtain ⟨xs, h1, h2⟩ := ih (by omega)
        obtain ⟨x, h3, _⟩ := hf n (by omega)
        refine ⟨xs ++ [x], by simp [h1], fun i hi => ?_⟩
        by_cases h : i < n
        · rw [List.getElem?_append_left (by omega)]; exact h2 i h
        · obtain rfl : i = n := by omega
          rw [List.getElem?_append_right (by omega), h1, Nat.sub_self, h3]; rfl
    obtain ⟨xs, h1, h2⟩ := hxs len (Nat.le_refl _)
    subst h1
    refine ⟨xs, ⟨_, rfl, some a, cap, rfl, hl, hm, fun i x hx => ?_⟩, fun x hx => ?_⟩
    · have hi : i < xs.length := (List.getElem?_eq_some_iff.1 hx).1
      obtain ⟨y, h3, ⟨b, o, h4, h5⟩, _⟩ := hf i hi
      rw [h2 i hi, h3] at hx
      injection hx with hx
      subst hx
      exact ⟨b, o, by rw [h4], h5⟩
    · obtain ⟨i, hi, rfl⟩ := List.mem_iff_getElem.1 hx
      obtain ⟨y, h3, _, h4⟩ := hf i hi
      have := h2 i hi
      rw [h3, List.getElem?_eq_getElem hi] at this
      injection this with this
      rw [this]; exact h4
section
variable {P : Program} {H : Type} {enc : TypeId × Value → H} {W : World} {r : Reach} {b0 : Nat} {t : TypeId} {v : Value} {d : DataW H} {p : List MemPlace} {α : Type} {E : ER α} {Q : α → Prop}
/-- A slice that is handed in. -/
theorem open_sl {e : TypeId} (ht : P.underlying t = some (.slice e)) (ho : Opn P t (slE E) (fun xs => ∀ x ∈ xs, Q x)) (hval : Value.okWide P W r b0 t v) (h : DataW.Trod enc P W 0 (fun _ => true) true t v d p) :
    ∃ xs : List α, RdS E (heapOf W) v xs ∧ ∀ x ∈ xs, Q x := by
  obtain ⟨a0, len, cap, rfl⟩ := okWide_slice ht hval
  obtain ⟨n, hn⟩ := h
  obtain ⟨xs, ⟨u, h1, h2⟩, h3⟩ := ho H enc W _ _ n _ _ hn
  have : Value.slice a0 len cap = u := by simpa [Value.cells] using h1
  rw [this]
  exact ⟨xs, h2, h3⟩
/-- A struct, or an array, that is handed in. -/
theorem open_agg (hu : (∃ fs, P.underlying t = some (.struct fs)) ∨ ∃ n e, P.underlying t = some (.array n e)) (ho : Opn P t E Q) (hval : Value.okWide P W r b0 t v) (h : DataW.Trod enc P W 0 (fun _ => true) true t v d p) :
    ∃ cs a, v = .agg cs ∧ E.R (heapOf W) cs.toList a ∧ Q a := by
  have hv : ∃ cs, v = .agg cs := by
    unfold Value.okWide at hval
    rcases hu with ⟨fs, hu⟩ | ⟨n, e, hu⟩
    · rw [hu] at hval; obtain ⟨cs, h1, _⟩ := hval; exact ⟨cs, h1⟩
    · rw [hu] at hval; obtain ⟨cs, h1, _⟩ := hval; exact ⟨cs, h1⟩
  obtain ⟨cs, rfl⟩ := hv
  obtain ⟨n, hn⟩ := h
  obtain ⟨a, h1, h2⟩ := ho H enc W _ _ n _ _ hn
  exact ⟨cs, a, rfl, h1, h2⟩
end
end Go.SX

set_option linter.unusedVariables false
namespace Go.SX
open Go Go.ChangeShapes Go.WideShapes Go.ChangeAt Go.RowKit Go.Proofs
def allocE : ER (Int × (List (Int × Bool)) × (List Int)) where
  size := 3
  R := fun H cs x => ∃ v1 v2, cs = [.int .i64 x.1, v1, v2] ∧ RdS slotE H v1 x.2.1 ∧ RdS (intE .i64) H v2 x.2.2
  len := fun h => by obtain ⟨v1, v2, rfl, _⟩ := h; rfl
  mono := fun hl h => by obtain ⟨v1, v2, rfl, h0, h1⟩ := h; exact ⟨v1, v2, rfl, h0.mono hl, h1.mono hl⟩
  one := fun h v hv => by
    obtain ⟨v1, v2, rfl, h0, h1⟩ := h
    simp only [List.mem_cons, List.not_mem_nil, or_false] at hv
    rcases hv with rfl | rfl | rfl <;> first | rfl | exact RdS.one (by assumption)

theorem lenN2 {α : Type} {l : List α} (h : l.length = 2) : ∃ v0 v1, l = [v0, v1] := by
  match l, h with
  | [v0, v1], _ => exact ⟨v0, v1, rfl⟩
theorem lenN3 {α : Type} {l : List α} (h : l.length = 3) : ∃ v0 v1 v2, l = [v0, v1, v2] := by
  match l, h with
  | [v0, v1, v2], _ => exact ⟨v0, v1, v2, rfl⟩
theorem opn101 : Opn Tryd.prog 101 slotE (fun x => (((Lit.int .i64 x.1).wf = true) ∧ (True))) := fun H enc W sp hd n cs x h => by
  obtain ⟨xs, m, _, _, hl, hxl, hf⟩ := DataW.trod_struct Tryd.underlying101 h
  rw [show Tryd.prog.cellsOf 101 = 2 by kernel_rfl] at hl
  replace hxl : xs.length = 2 := hxl
  obtain ⟨v0, v1, rfl⟩ := lenN2 hl
  obtain ⟨y0, y1, rfl⟩ := lenN2 hxl
  have g0 : DataW.trod enc Tryd.prog W 0 sp hd m 3 (([v0, v1].drop 0).take (Tryd.prog.cellsOf 3)) = some y0 := hf 0 _ rfl
  rw [show Tryd.prog.cellsOf 3 = 1 by kernel_rfl] at g0
  simp only [List.drop, List.take] at g0
  have g1 : DataW.trod enc Tryd.prog W 0 sp hd m 4 (([v0, v1].drop 1).take (Tryd.prog.cellsOf 4)) = some y1 := hf 1 _ rfl
  rw [show Tryd.prog.cellsOf 4 = 1 by kernel_rfl] at g1
  simp only [List.drop, List.take] at g1
  obtain ⟨x0, h0, _, w0⟩ := DataW.trod_int Tryd.underlying3 g0
  injection h0 with h0; subst h0
  obtain ⟨x1, h1, _⟩ := DataW.trod_bool Tryd.underlying4 g1
  injection h1 with h1; subst h1
  exact ⟨(x0, x1), rfl, ⟨w0, trivial⟩⟩
theorem opn25 : Opn Tryd.prog 25 allocE (fun x => (((Lit.int .i64 x.1).wf = true) ∧ (∀ z ∈ x.2.1, (((Lit.int .i64 z.1).wf = true) ∧ (True))) ∧ (∀ z ∈ x.2.2, (Lit.int .i64 z).wf = true))) := fun H enc W sp hd n cs x h => by
  obtain ⟨xs, m, _, _, hl, hxl, hf⟩ := DataW.trod_struct Tryd.underlying25 h
  rw [show Tryd.prog.cellsOf 25 = 3 by kernel_rfl] at hl
  replace hxl : xs.length = 3 := hxl
  obtain ⟨v0, v1, v2, rfl⟩ := lenN3 hl
  obtain ⟨y0, y1, y2, rfl⟩ := lenN3 hxl
  have g0 : DataW.trod enc Tryd.prog W 0 sp hd m 3 (([v0, v1, v2].drop 0).take (Tryd.prog.cellsOf 3)) = some y0 := hf 0 _ rfl
  rw [show Tryd.prog.cellsOf 3 = 1 by kernel_rfl] at g0
  simp only [List.drop, List.take] at g0
  have g1 : DataW.trod enc Tryd.prog W 0 sp hd m 22 (([v0, v1, v2].drop 1).take (Tryd.prog.cellsOf 22)) = some y1 := hf 1 _ rfl
  rw [show Tryd.prog.cellsOf 22 = 1 by kernel_rfl] at g1
  simp only [List.drop, List.take] at g1
  have g2 : DataW.trod enc Tryd.prog W 0 sp hd m 23 (([v0, v1, v2].drop 2).take (Tryd.prog.cellsOf 23)) = some y2 := hf 2 _ rfl
  rw [show Tryd.prog.cellsOf 23 = 1 by kernel_rfl] at g2
  simp only [List.drop, List.take] at g2
  obtain ⟨x0, h0, _, w0⟩ := DataW.trod_int Tryd.underlying3 g0
  injection h0 with h0; subst h0
  obtain ⟨x1, ⟨u1, h1, r1⟩, w1⟩ := (Opn.slice Tryd.underlying22 (by kernel_rfl) opn101 (by decide)) H enc W sp hd _ _ _ g1
  injection h1 with h1; subst h1
  obtain ⟨x2, ⟨u2, h2, r2⟩, w2⟩ := (Opn.slice Tryd.underlying23 (by kernel_rfl) (Opn.int Tryd.underlying3) (by decide)) H enc W sp hd _ _ _ g2
  injection h2 with h2; subst h2
  exact ⟨(x0, x1, x2), ⟨_, _, rfl, r1, r2⟩, ⟨w0, w1, w2⟩⟩

end Go.SX
namespace Go.Proofs.YtmhoclmjgjopfaaDoor
open Go.ChangeShapes Go.WideShapes Go.ChangeAt Go.RowKit Go.SX

theorem allocTakes_own : ownKnob Tryd.prog.godebug = none := by kernel_rfl
theorem allocTakes_laid : laidOutB Tryd.prog = true := by kernel_rfl
theorem allocTakes_met (os : Os) (args : Array Value) : laidMetH Tryd.prog Rows.allocTakesRow.laid ((World.doorLaid Tryd.prog 400 os).forCall (fun _ _ => 0) ⟨#[], args, []⟩).memory :=
  laidMetH_of_parts3 (fuel := 12) (laidMet_of_run' 12 (by kernel_rfl) (by kernel_rfl)) (by kernel_rfl) (by kernel_rfl)
theorem allocTakes_datum {W : World} {H : Type} {enc : TypeId × Value → H} {sp : Nat → Bool} {hd : Bool} {n : Nat} {cs : List Value} {p : List MemPlace} (h : DataW.trod enc Tryd.prog W 0 sp hd n 101 cs = some (.agg [.lit (.int .i64 0), .lit (.bool true)], p)) : cs = [.int .i64 0, .bool true] := by
  obtain ⟨xs, m, _, hx1, hl, hxl, hf⟩ := DataW.trod_struct Tryd.underlying101 h
  rw [show Tryd.prog.cellsOf 101 = 2 by kernel_rfl] at hl
  replace hxl : xs.length = 2 := hxl
  obtain ⟨v0, v1, rfl⟩ := lenN2 hl
  obtain ⟨y0, y1, rfl⟩ := lenN2 hxl
  have g0 : DataW.trod enc Tryd.prog W 0 sp hd m 3 (([v0, v1].drop 0).take (Tryd.prog.cellsOf 3)) = some y0 := hf 0 _ rfl
  have g1 : DataW.trod enc Tryd.prog W 0 sp hd m 4 (([v0, v1].drop 1).take (Tryd.prog.cellsOf 4)) = some y1 := hf 1 _ rfl
  rw [show Tryd.prog.cellsOf 3 = 1 by kernel_rfl] at g0
  rw [show Tryd.prog.cellsOf 4 = 1 by kernel_rfl] at g1
  simp only [List.drop, List.take] at g0 g1
  obtain ⟨a, h0, h1, _⟩ := DataW.trod_int Tryd.underlying3 g0
  obtain ⟨b, h2, h3⟩ := DataW.trod_bool Tryd.underlying4 g1
  injection h0 with h0
  injection h2 with h2
  subst h0
  subst h2
  simp only [Prod.mk.injEq] at hx1
  have h4 := hx1.1
  simp only [List.map_cons, List.map_nil, h1, h3, DataW.agg.injEq, List.cons.injEq, DataW.lit.injEq, Lit.int.injEq, Lit.bool.injEq, true_and, and_true] at h4
  obtain ⟨h5, h6⟩ := h4
  subst h5; subst h6; rfl
theorem allocTakes_glob {W : World} (h : laidMetH Tryd.prog Rows.allocTakesRow.laid W) : ∃ t, heapOf W 0 = some (.cells #[.int .i64 0, .bool true] t) := by
  rw [MakeChecks.laidMetH_plain _ _ _ (by kernel_rfl)] at h
  obtain ⟨ps, ⟨g0, t0, cs0, f0, p0, q0, hg0, ht0, hv0, hd0, _, hps⟩, _, hrow⟩ := h
  obtain rfl := Option.some.inj ((show Tryd.prog.globalNamed "windrose/alloc.always" = some 0 by kernel_rfl).symm.trans hg0)
  obtain rfl := Option.some.inj ((show (Tryd.prog.globals[0]?).map (·.type) = some 101 by kernel_rfl).symm.trans ht0)
  have hl := allocTakes_datum hd0
  have hcs : cs0 = #[.int .i64 0, .bool true] := Array.toList_inj.1 hl
  subst hcs
  have hm : MemPlace.cell 0 0 ∈ ps := by rw [hps]; simp [MemPlace.row]
  obtain ⟨⟨c, t, hh⟩, _⟩ := hrow 0 0 hm
  have hv := hv0
  simp only [World.var?, hg0, Option.bind_some, hh] at hv
  injection hv with hv
  subst hv
  exact ⟨t, hh⟩

set_option maxRecDepth 100000 in
theorem allocTakes_lifted (os : Os) (started : os.Started) (H : Type) (enc : TypeId × Value → H) :
    ReturnsInHanded {} Tryd.checked os 3 .any (fun w args => (Rows.allocTakesSpec.pre enc Tryd.prog Tryd.f3 [] false w args ∧ laidMetH Tryd.prog Rows.allocTakesRow.laid w) ∧ sizedMet enc Tryd.prog Tryd.f3 (OpenSpec.ofChange Rows.allocTakesSpec) false w args)
      (Rows.allocTakesSpec.post enc Tryd.prog Tryd.f3 false true false false) := by
  refine returnsInHanded_of_change_and (C := Tryd.checked) (X := fun w _ => laidMetH Tryd.prog Rows.allocTakesRow.laid w) (fun _ _ _ hh h => h.of_heap hh) allocTakes_own started (by kernel_rfl) Tryd.func3
    (ChangeSpec.witness_shaped (enc := enc) (C := Tryd.checked) (os := os) (X := fun w _ => laidMetH Tryd.prog Rows.allocTakesRow.laid w) false (World.doorLaid Tryd.prog 400 os) #[.agg #[.int .i64 0, .slice none 0 0, .slice none 0 0], .slice none 0 0] 8 rfl (World.shaped_of_RefB (by kernel_rfl) (by kernel_rfl)) (by kernel_rfl) (by kernel_rfl) (by kernel_rfl) (allocTakes_met os _)) ?_
  intro W base args ds gs before hval0 hW _ _ hL _
  have hval : ∀ (j : Nat) t v, Tryd.f3.params[j]? = some t → args[j]? = some v → Value.okWide Tryd.prog W .any base t v := hval0
  have hW' := hW
  obtain ⟨p, q, hA0, hV, rfl, hfz, hnd⟩ := hW
  have hA : DataW.TrodAll enc Tryd.prog W 0 (fun _ => true) true Tryd.f3.params.toList args.toList ds p := hA0
  rw [Tryd.params3] at hA hval
  clear hA0 hval0
  obtain ⟨v0, vs0, d0, ds0, p0, q0, e0, rfl, rfl, h0, r0⟩ := trodAll_cons hA
  obtain ⟨v1, vs1, d1, ds1, p1, q1, e1, rfl, rfl, h1, r1⟩ := trodAll_cons r0
  subst e1
  obtain ⟨e2, rfl, rfl⟩ := trodAll_nil r1
  subst e2
  obtain rfl : args = #[v0, v1] := by cases args; simp_all
  obtain ⟨rfl, rfl⟩ := trodVars_none hV
  obtain ⟨cs0, x0, rfl, hx0, hw0⟩ := open_agg (.inl ⟨_, Tryd.underlying25⟩) opn25 (hval 0 25 v0 rfl rfl) h0
  obtain ⟨u0_1, u0_2, e0_, r0_1, r0_2⟩ := hx0
  obtain rfl : cs0 = #[.int .i64 x0.1, u0_1, u0_2] := Array.toList_inj.1 e0_
  obtain ⟨xs1, hr1, hw1⟩ := open_sl Tryd.underlying26 (Opn.slice Tryd.underlying26 (by kernel_rfl) (Opn.slice Tryd.underlying29 (by kernel_rfl) (Opn.int Tryd.underlying32) (by decide)) (by decide)) (hval 1 26 v1 rfl rfl) h1
  have hpar : ∀ t ∈ Tryd.f3.params.toList, Tryd.prog.readableRec t = true ∧ t < Tryd.prog.types.size := by
    intro t ht
    rw [Tryd.params3] at ht
    simp only [List.mem_cons, List.not_mem_nil, or_false] at ht
    rcases ht with rfl | rfl
    · exact ⟨by kernel_rfl, of_decide_eq_true (by kernel_rfl)⟩
    · exact ⟨by kernel_rfl, of_decide_eq_true (by kernel_rfl)⟩
  obtain ⟨tG, hG⟩ := allocTakes_glob hL
  refine (calls_of_Fv Tryd.func3 rfl (by kernel_rfl) (Fv.to (windroselaw02_AllocTakes_c _ hG x0 _ r0_1 _ r0_2 _ xs1 hr1) (congrArg Value.bool (allocTakes_true _ _)))).mono fun e W' ⟨he, hb⟩ => ?_
  subst he
  exact ⟨_, rfl, post_true allocTakes_laid hW' rfl hpar rfl rfl Tryd.underlying4 hb⟩

theorem allocTakes_holds : Rows.AllocTakesSaid :=
  OpenClaim.holds_of_wide 3 Tryd.f3 rfl rfl rfl rfl rfl rfl rfl ⟨rfl, rfl, rfl, rfl, rfl⟩ rfl rfl rfl rfl rfl (by kernel_rfl) Tryd.func3 (by kernel_rfl)
    (of_decide_eq_true (by kernel_rfl)) (by unfold Func.isWrapper; first | (rw [if_pos (by decide +kernel)]; kernel_rfl) | (rw [if_neg (by decide +kernel)]; exact ⟨rfl, rfl⟩))
    (fun os started H enc _ => allocTakes_lifted os started H enc)

theorem allocTakes_card : Rows.AllocTakesCardSaid :=
  Claim7.holds_tied_plain_at .later [] [.data] true (true, "c812bd16461893b59ff1c9b11575473a3dd7f925cadaefe779c83152ab813434") false
    allocTakes_holds (fun _ h => by cases h) (by kernel_rfl) (fun _ h => by cases h) allocTakes_row_tie rfl ⟨rfl, rfl⟩ (by kernel_rfl) rfl
    (fun f fn hf hfn => by
      obtain rfl : f = 3 := Option.some.inj ((show Tryd.prog.funcNamed "windrose/windroselaw02.AllocTakes" = some 3 by kernel_rfl).symm.trans hf) |>.symm
      obtain rfl : fn = Tryd.f3 := (Option.some.inj (Tryd.func3.symm.trans hfn)).symm
      exact ⟨by kernel_rfl, fun j t ht => by
        rw [Tryd.params3] at ht
        have hm : t ∈ [25, 26] := by simpa using Array.mem_of_getElem? ht
        have hall : ([25, 26].all fun u => !Tryd.prog.wantsStandIn u) = true := by kernel_rfl
        exact (show Tryd.prog.wantsStandIn t = false by simpa using List.all_eq_true.1 hall t hm)⟩)
    (by kernel_rfl)
end Go.Proofs.YtmhoclmjgjopfaaDoor
