/- 'IndexTurns' answers true, whatever it is handed, and what it is handed reads behind it as it did. -/
import Derived.RangeFuncNested
import Derived.RangeFuncBound
import Derived.RangeFuncCalls
import Derived.RangeFuncLeaves
import Derived.Shelf.Abstract
import Derived.Laws.AppendOwn
import Derived.Laws.OwnMore
import Derived.KernelRfl
import Derived.IntWalk
import Derived.Laws.Append
import Derived.WideLaws
import Derived.Laws.Slices
import Derived.Laws.MakeOwn
import Derived.OrdersIn
import Derived.Laws.Cover3
import Derived.Test.YtmigaagkfglabaaGreatProg
import Derived.Laws.StructEq
import Derived.Shelf.Sort.Plain
import Derived.Sort.OwnSortedInts
import Derived.Shelf.Slices.In.SortNone
import Derived.Maps.RangeRun
import Derived.Lib.AppendZeros
import Derived.Sort.AssemblyPlain
import Derived.Shelf.Small.Bits
import Derived.Sort.Walk7a
import Derived.Laws.Bits64
import Derived.Laws.Bits64b
import Derived.Shelf.Spec.SlicesInsert
import Derived.Shelf.Spec.SlicesInsertGrow
import Derived.ProofKit
import Derived.ChangeSlices
import Derived.Carry
import Derived.Deep.Slices
import Derived.OpenShut
import Derived.Test.YtmigaagkfglabaaGreatRows
import Derived.Test.YtmigaagkfglabaaGreatKT1
set_option linter.unusedVariables false
set_option linter.unusedSimpArgs false
namespace Go.SX
open Go Go.Proofs

/-- what Kind asks -/
def kbG (x : Int) : Nat → Bool
  | 1 => k_bb x (k_4a x).1 (k_4a x).2
  | 2 => k_c8 x (k_4a x).2
  | 3 => k_cc x (k_4a x).1 (k_4a x).2
  | 4 => k_cb x (k_4a x).1 (k_4a x).2
  | _ => false
def kindG (x : Int) : Int := if kbG x 1 then 1 else if kbG x 2 then 2 else if kbG x 3 then 3 else if kbG x 4 then 4 else 0
theorem kindG_at {x : Int} {k : Nat} (h1 : 1 ≤ k) (h4 : k ≤ 4) (hk : kbG x k = true) (hlt : ∀ j, 1 ≤ j → j < k → kbG x j = false) : kindG x = k := by
  unfold kindG
  have h : k = 1 ∨ k = 2 ∨ k = 3 ∨ k = 4 := by omega
  rcases h with rfl | rfl | rfl | rfl
  · simp [hk]
  · simp [hk, hlt 1 (by omega) (by omega)]
  · simp [hk, hlt 1 (by omega) (by omega), hlt 2 (by omega) (by omega)]
  · simp [hk, hlt 1 (by omega) (by omega), hlt 2 (by omega) (by omega), hlt 3 (by omega) (by omega)]
theorem kindG_none {x : Int} (hlt : ∀ j, 1 ≤ j → j < 5 → kbG x j = false) : kindG x = 0 := by
  unfold kindG
  simp [hlt 1 (by omega) (by omega), hlt 2 (by omega) (by omega), hlt 3 (by omega) (by omega), hlt 4 (by omega) (by omega)]
set_option maxHeartbeats 1600000 in
theorem kindG_c (H : Heap) (x : Int) : Fv Tryz.prog (fnv 75) [.int .u64 x] H (.int .i64 (kindG x)) := by
 refine Fc.of_body (N := 26) Tryz.func75 rfl kA rfl rfl ?_
 intro w0
 refine sR ?_
 refine R.box rfl cA ?_
 intro b1
 refine R.asE rfl cA ?_
 refine nN ?_
 refine sR ?_
 refine R.ld Tryz.isAgg43 rfl rfl (by repeat (first | exact .hd | refine .tl ?_)) rfl ?_
 refine R.callv rfl rfl rfl (ident_halves_c _ x) ?_
 refine R.mvE rfl cA ?_
 refine R.ext rfl rfl rfl ?_
 refine R.ext rfl rfl rfl ?_
 refine R.alloc Tryz.zeroValue3 rfl ?_
 intro b3
 refine R.alloc Tryz.zeroValue3 rfl ?_
 intro b4
 refine R.st Tryz.sizeOf3 rfl rfl cA rfl (by first | exact .hd | exact .tl .hd | exact .tl (.tl .hd) | exact .tl (.tl (.tl .hd)) | exact .tl (.tl (.tl (.tl .hd))) | exact .tl (.tl (.tl (.tl (.tl .hd)))) | exact .tl (.tl (.tl (.tl (.tl (.tl .hd))))) | exact .tl (.tl (.tl (.tl (.tl (.tl (.tl .hd)))))) | exact .tl (.tl (.tl (.tl (.tl (.tl (.tl (.tl .hd))))))) | exact .tl (.tl (.tl (.tl (.tl (.tl (.tl (.tl (.tl .hd))))))))) ?_
 refine R.st Tryz.sizeOf3 rfl rfl cA rfl (by first | exact .hd | exact .tl .hd | exact .tl (.tl .hd) | exact .tl (.tl (.tl .hd)) | exact .tl (.tl (.tl (.tl .hd))) | exact .tl (.tl (.tl (.tl (.tl .hd)))) | exact .tl (.tl (.tl (.tl (.tl (.tl .hd))))) | exact .tl (.tl (.tl (.tl (.tl (.tl (.tl .hd)))))) | exact .tl (.tl (.tl (.tl (.tl (.tl (.tl (.tl .hd))))))) | exact .tl (.tl (.tl (.tl (.tl (.tl (.tl (.tl (.tl .hd))))))))) ?_
 refine nN ?_
 refine T.seq ?_
 refine T.shut .hd ?_
 intro H4 s4 q4
 refine T.shut .hd ?_
 intro H3 s3 q3
 refine T.shut .hd ?_
 intro H1 s1 q1
 have h4 : H1 b4 = some (.cells #[.int .i64 (k_4a x).2] 3) := s1 _ _ (s3 _ _ (shut1 q4))
 have h3 : H1 b3 = some (.cells #[.int .i64 (k_4a x).1] 3) := s1 _ _ (shut1 q3)
 have h1 : H1 b1 = some (.cells #[.int .u64 x] 43) := shut1 q1
 refine T.region ?_
 refine R.mkf (cs := [_, _, _]) rfl rfl ?_
 refine R.mkf (cs := [_, _]) rfl rfl ?_
 refine R.mkf (cs := [_, _, _]) rfl rfl ?_
 refine R.mkf (cs := [_, _, _]) rfl rfl ?_
 refine R.bld (cs := ([.nilFunc, .func (.func 92) #[] ([.pointer (some ⟨b1, 0, none⟩), .pointer (some ⟨b3, 0, none⟩), .pointer (some ⟨b4, 0, none⟩)] : List Value).toArray, .func (.func 93) #[] ([.pointer (some ⟨b1, 0, none⟩), .pointer (some ⟨b4, 0, none⟩)] : List Value).toArray, .func (.func 94) #[] ([.pointer (some ⟨b1, 0, none⟩), .pointer (some ⟨b3, 0, none⟩), .pointer (some ⟨b4, 0, none⟩)] : List Value).toArray, .func (.func 95) #[] ([.pointer (some ⟨b1, 0, none⟩), .pointer (some ⟨b3, 0, none⟩), .pointer (some ⟨b4, 0, none⟩)] : List Value).toArray])) rfl (fun _ => by kernel_rfl) ?_
 refine R.alloc Tryz.zeroValue101 rfl ?_
 intro b5
 refine R.stA (old := [.nilFunc, .nilFunc, .nilFunc, .nilFunc, .nilFunc]) Tryz.sizeOf101 rfl rfl rfl rfl rfl (by intro v hv; simp at hv; rcases hv with rfl | rfl | rfl | rfl | rfl <;> rfl) .hd ?_
 refine TL.shut .hd ?_
 intro H5 s5 q5
 have h5 := shut1 q5
 refine nN ?_
 refine T.seq ?_
 refine sR ?_
 refine R.asE rfl cA ?_
 refine nN ?_
 refine T.block ?_
 refine T.loop (ι := Nat) (fun k H' L' ds' => (1 ≤ k ∧ k ≤ 5) ∧ ∀ j, 1 ≤ j → j < k → kbG x j = false) (fun k => [(5, .pointer (some ⟨b5, 0, none⟩)), (6, .int .i64 (k : Nat))]) (fun k => 5 - k) (1) ?_ ?_ ?_
 ·exact ⟨⟨by omega, by omega⟩, fun j h1 h2 => absurd h2 oA⟩
 ·exact ⟨rfl, rfl, trivial⟩
 intro k σ0 H_0 L_0 ds_0 s_0 hI_0
 obtain ⟨hk, hlt⟩ := hI_0
 refine T.seq ?_
 refine sR ?_
 refine R.mvE rfl cA ?_
 refine R.leq rfl rfl rfl ?_
 refine nN ?_
 refine T.condD rfl (fun c18 => ?_) (fun c18 => ?_)
 ·obtain ⟨fv, hfv, hcall⟩ : ∃ fv, ([.nilFunc, .func (.func 92) #[] ([.pointer (some ⟨b1, 0, none⟩), .pointer (some ⟨b3, 0, none⟩), .pointer (some ⟨b4, 0, none⟩)] : List Value).toArray, .func (.func 93) #[] ([.pointer (some ⟨b1, 0, none⟩), .pointer (some ⟨b4, 0, none⟩)] : List Value).toArray, .func (.func 94) #[] ([.pointer (some ⟨b1, 0, none⟩), .pointer (some ⟨b3, 0, none⟩), .pointer (some ⟨b4, 0, none⟩)] : List Value).toArray, .func (.func 95) #[] ([.pointer (some ⟨b1, 0, none⟩), .pointer (some ⟨b3, 0, none⟩), .pointer (some ⟨b4, 0, none⟩)] : List Value).toArray] : List Value).toArray[0 + ((k : Nat) : Int).toNat * 1]? = some fv ∧ ∀ H', HLe H5 H' → Fv Tryz.prog fv [] H' (.bool (kbG x k)) := by
   have hk4 : k = 1 ∨ k = 2 ∨ k = 3 ∨ k = 4 := by omega
   rcases hk4 with rfl | rfl | rfl | rfl
   ·exact ⟨_, rfl, fun H' s => identKind1_c H' b1 x (s _ _ (s5 _ _ h1)) b3 (k_4a x).1 (s _ _ (s5 _ _ h3)) b4 (k_4a x).2 (s _ _ (s5 _ _ h4))⟩
   ·exact ⟨_, rfl, fun H' s => identKind2_c H' b1 x (s _ _ (s5 _ _ h1)) b4 (k_4a x).2 (s _ _ (s5 _ _ h4))⟩
   ·exact ⟨_, rfl, fun H' s => identKind3_c H' b1 x (s _ _ (s5 _ _ h1)) b3 (k_4a x).1 (s _ _ (s5 _ _ h3)) b4 (k_4a x).2 (s _ _ (s5 _ _ h4))⟩
   ·exact ⟨_, rfl, fun H' s => identKind4_c H' b1 x (s _ _ (s5 _ _ h1)) b3 (k_4a x).1 (s _ _ (s5 _ _ h3)) b4 (k_4a x).2 (s _ _ (s5 _ _ h4))⟩
  refine T.skip (Post.thnN ?_)
  refine T.seq ?_
  refine T.block ?_
  refine sR ?_
  refine R.mvE rfl cA ?_
  refine R.ixA Tryz.underlying101 Tryz.sizeOf27 rfl rfl rfl oA oA ?_
  refine R.ldH Tryz.isAgg27 rfl rfl (s_0 _ _ h5) (hfv) ?_
  refine R.callv rfl rfl rfl (hcall _ s_0) ?_
  refine nN ?_
  refine T.cond rfl (fun c24 => ?_) (fun c24 => ?_)
  ·refine sR ?_
   refine R.mvE rfl cA ?_
   refine R.asE rfl cA ?_
   refine nN ?_
   refine T.ret (Post.blkR (Post.thnR (Post.thnR (Post.blkR (Post.thnR ?_)))))
   -- way yy
   exact fin1 rfl rfl ⟨rfl, congrArg (Value.int .i64) (kindG_at hk.1 oA c24 hlt).symm⟩
  refine T.skip (Post.blkN ?_)
  refine id (Post.thnN ?_)
  refine T.region ?_
  refine R.mvE rfl cA ?_
  refine R.addI rfl rfl rfl oA ?_
  refine R.asE rfl cA ?_
  refine nN ?_
  -- round's end, way yn
  exact ⟨k + 1, s_0, ⟨⟨by omega, by omega⟩, fun j j1 j2 => if e : j = k then by rw [e]; exact c24 else hlt j j1 oA⟩, by omega, ⟨rfl, rfl, trivial⟩⟩
 refine T.exit (Post.thnE (Post.thnE (Post.blkX ?_)))
 refine id (Post.thnN ?_)
 refine sR ?_
 refine R.asE rfl cA ?_
 refine nN ?_
 refine T.ret ?_
 -- way n
 exact fin1 rfl rfl ⟨rfl, congrArg (Value.int .i64) (kindG_none (fun j j1 j2 => hlt j j1 oA)).symm⟩
def k_40 (a0 : Int) : Int × Int :=
  LR.seq (k_4a a0) (fun r8 => LR.seq (if ((kindG a0) : Int) = 1 then true else ((decide (((kindG a0) : Int) = 2))) : Bool) (fun sc1 => if sc1 = true then ((r8.2, r8.1)) else (LR.seq (if ((kindG a0) : Int) = 3 then true else ((decide (((kindG a0) : Int) = 4))) : Bool) (fun sc2 => if sc2 = true then ((r8.1, r8.2)) else ((0, 0))))))
set_option maxHeartbeats 3200000 in
theorem ident_Parts_c (H : Heap) (a0 : Int) : Fv Tryz.prog (fnv 83) [.int .u64 a0] H (.tuple #[.int .i64 (k_40 a0).1, .int .i64 (k_40 a0).2]) := by
 refine Fc.of_body (N := 23) Tryz.func83 rfl kA rfl rfl ?_
 intro w0
 refine sR ?_
 refine R.asE rfl cA ?_
 refine R.asE rfl cA ?_
 refine nN ?_
 refine sR ?_
 refine R.mvE rfl cA ?_
 obtain ⟨r8, er8⟩ : ∃ r, r = (k_4a a0) := ⟨_, rfl⟩
 refine R.callv (v := .tuple #[.int .i64 r8.1, .int .i64 r8.2]) rfl rfl rfl (by rw [er8]; exact ident_halves_c _ (a0)) ?_
 refine R.mvE rfl cA ?_
 refine R.ext rfl rfl rfl ?_
 refine R.ext rfl rfl rfl ?_
 refine R.asE rfl cA ?_
 refine R.asE rfl cA ?_
 refine nN ?_
 refine T.seq ?_
 refine sR ?_
 refine R.mvE rfl cA ?_
 refine R.callv rfl rfl rfl (kindG_c _ a0) ?_
 refine nN ?_
 refine T.block ?_
 refine T.seq ?_
 refine sR ?_
 refine R.eql rfl rfl rfl ?_
 refine R.asE rfl cA ?_
 refine nN ?_
 refine T.cutK (ι := Bool) (fun b13c1 H' L' ds' => Has L' [] ∧ (if ((kindG a0) : Int) = 1 then true else ((decide (((kindG a0) : Int) = 2))) : Bool) = b13c1) (fun b13c1 => [(4, .int .i64 (r8.1)), (5, .int .i64 (r8.2)), (12, .int .i64 (kindG a0)), (13, .bool (b13c1))]) ?_ ?_
 ·refine T.condD rfl (fun c13 => ?_) (fun c13 => ?_)
  ·refine T.set 13 (.bool true) (congrArg Value.bool (decide_eq_true c13)) ?_
   refine T.skip (Post.thnN ?_)
   exact ⟨true, HLe.refl _, ⟨Has.nil, (by rw [if_pos c13])⟩, rfl, rfl, rfl, rfl, trivial⟩
  refine T.set 13 (.bool false) (congrArg Value.bool (decide_eq_false c13)) ?_
  refine T.region ?_
  refine R.eql rfl rfl rfl ?_
  refine R.asE rfl cA ?_
  refine nN ?_
  exact ⟨(decide (((kindG a0) : Int) = 2)), HLe.refl _, ⟨Has.nil, (by rw [if_neg c13])⟩, rfl, rfl, rfl, rfl, trivial⟩
 intro b13c1 σ_c1 H_c1 L_c1 ds_c1 s_c1 hI_c1
 obtain ⟨hLc1, hTc1⟩ := hI_c1
 refine T.has hLc1 ?_
 refine T.cond rfl (fun c13 => ?_) (fun c13 => ?_)
 ·refine T.set 13 (.bool true) (congrArg Value.bool c13) ?_
  have hZ13 := hTc1.trans c13
  try simp only [or_f, or_t, k_bf, k_c0, decide_eq_true_eq, decide_eq_false_iff_not, Bool.not_eq_true'] at hZ13
  refine sR ?_
  refine R.mvE rfl cA ?_
  refine R.mvE rfl cA ?_
  refine R.asE rfl cA ?_
  refine R.asE rfl cA ?_
  refine nN ?_
  refine T.has Has.nil ?_
  refine T.ret (Post.blkR (Post.thnR ?_))
  have hM : k_40 a0 = (r8.2, r8.1) := by subst er8; rw [k_40, LR.seq_go, hTc1, LR.seq_go, if_t c13]
  exact fin2L (v := .int .i64 (r8.2)) (v' := .int .i64 (r8.1)) [] rfl rfl rfl (List.Sublist.refl _) ⟨rfl, by first | rw [hM] | rfl⟩
 refine T.set 13 (.bool false) (congrArg Value.bool c13) ?_
 have hZ13 := hTc1.trans c13
 try simp only [or_f, or_t, k_bf, k_c0, decide_eq_true_eq, decide_eq_false_iff_not, Bool.not_eq_true'] at hZ13
 refine T.seq ?_
 refine sR ?_
 refine R.eql rfl rfl rfl ?_
 refine R.asE rfl cA ?_
 refine nN ?_
 refine T.cutK (ι := Bool) (fun b18c2 H' L' ds' => Has L' [] ∧ (if ((kindG a0) : Int) = 3 then true else ((decide (((kindG a0) : Int) = 4))) : Bool) = b18c2) (fun b18c2 => [(4, .int .i64 (r8.1)), (5, .int .i64 (r8.2)), (18, .bool (b18c2))]) ?_ ?_
 ·refine T.condD rfl (fun c18 => ?_) (fun c18 => ?_)
  ·refine T.set 18 (.bool true) (congrArg Value.bool (decide_eq_true c18)) ?_
   refine T.skip (Post.thnN ?_)
   exact ⟨true, HLe.refl _, ⟨Has.nil, (by rw [if_pos c18])⟩, rfl, rfl, rfl, trivial⟩
  refine T.set 18 (.bool false) (congrArg Value.bool (decide_eq_false c18)) ?_
  refine T.region ?_
  refine R.eql rfl rfl rfl ?_
  refine R.asE rfl cA ?_
  refine nN ?_
  exact ⟨(decide (((kindG a0) : Int) = 4)), HLe.refl _, ⟨Has.nil, (by rw [if_neg c18])⟩, rfl, rfl, rfl, trivial⟩
 intro b18c2 σ_c2 H_c2 L_c2 ds_c2 s_c2 hI_c2
 obtain ⟨hLc2, hTc2⟩ := hI_c2
 refine T.has hLc2 ?_
 refine T.cond rfl (fun c18 => ?_) (fun c18 => ?_)
 ·refine T.set 18 (.bool true) (congrArg Value.bool c18) ?_
  have hZ18 := hTc2.trans c18
  try simp only [or_f, or_t, k_bf, k_c0, decide_eq_true_eq, decide_eq_false_iff_not, Bool.not_eq_true'] at hZ18
  refine sR ?_
  refine R.mvE rfl cA ?_
  refine R.mvE rfl cA ?_
  refine R.asE rfl cA ?_
  refine R.asE rfl cA ?_
  refine nN ?_
  refine T.has Has.nil ?_
  refine T.ret (Post.blkR (Post.thnR ?_))
  have hM : k_40 a0 = (r8.1, r8.2) := by subst er8; rw [k_40, LR.seq_go, hTc1, LR.seq_go, if_f c13, hTc2, LR.seq_go, if_t c18]
  exact fin2L (v := .int .i64 (r8.1)) (v' := .int .i64 (r8.2)) [] rfl rfl rfl (List.Sublist.refl _) ⟨rfl, by first | rw [hM] | rfl⟩
 refine T.set 18 (.bool false) (congrArg Value.bool c18) ?_
 have hZ18 := hTc2.trans c18
 try simp only [or_f, or_t, k_bf, k_c0, decide_eq_true_eq, decide_eq_false_iff_not, Bool.not_eq_true'] at hZ18
 refine T.skip (Post.blkN ?_)
 refine id (Post.thnN ?_)
 refine sR ?_
 refine R.asE rfl cA ?_
 refine R.asE rfl cA ?_
 refine nN ?_
 refine T.has Has.nil ?_
 refine T.ret ?_
 have hM : k_40 a0 = (0, 0) := by subst er8; rw [k_40, LR.seq_go, hTc1, LR.seq_go, if_f c13, hTc2, LR.seq_go, if_f c18]
 exact fin2L (v := .int .i64 0) (v' := .int .i64 0) [] rfl rfl rfl (List.Sublist.refl _) ⟨rfl, by first | rw [hM] | rfl⟩
def k_9e (a0 : Int) : Int × Int :=
  if (!(k_5a 1 24 [a0])) = true then ((0, 2)) else (((k_8b 4611686018427387904 0 a0), 0))
set_option maxHeartbeats 3200000 in
theorem ident_Component_c (H : Heap) (a0 : Int) : Fv Tryz.prog (fnv 60) [.int .i64 a0] H (.tuple #[.int .u64 (k_9e a0).1, .int .i64 (k_9e a0).2]) := by
 refine Fc.of_body (N := 10) Tryz.func60 rfl kA rfl rfl ?_
 intro w0
 refine sR ?_
 refine R.asE rfl cA ?_
 refine R.asE rfl cA ?_
 refine nN ?_
 refine T.seq ?_
 refine sR ?_
 refine R.mvE rfl cA ?_
 refine R.bs rfl (k_3f Tryz.underlying25 Tryz.sizeOf3 Tryz.zeroValue3 rfl rfl) ?_
 intro b5
 have w5 : OwnS (intE .i64) 3 H (.slice (some ⟨b5, 0, none⟩) 1 1) [a0] [(b5, .cells #[.int .i64 a0] 3)] := OwnS.lit (xs := [a0]) (k_2a (a := [.int .i64 a0]) rfl k_4d) (by show 1 ≤ maxLen; decide)
 refine TL.shut .hd ?_
 intro HF5_1 sF5_1 qF5_1
 have fF5_1 := OwnS.read w5 sF5_1 qF5_1
 refine R.callv rfl rfl rfl (k_bc _ (1) (24) _ [a0] fF5_1) ?_
 refine R.not rfl rfl ?_
 refine nN ?_
 refine T.cond rfl (fun c7 => ?_) (fun c7 => ?_)
 ·refine T.set 7 (.bool true) (congrArg Value.bool c7) ?_
  refine sR ?_
  refine R.asE rfl cA ?_
  refine R.asE rfl cA ?_
  refine nN ?_
  refine T.has Has.nil ?_
  refine T.ret (Post.thnR ?_)
  have hM : k_9e a0 = (0, 2) := by rw [k_9e, if_t c7]
  exact fin2L (v := .int .u64 0) (v' := .int .i64 2) [] rfl rfl rfl (List.Sublist.refl _) ⟨rfl, by first | rw [hM] | rfl⟩
 refine T.set 7 (.bool false) (congrArg Value.bool c7) ?_
 refine T.skip (Post.thnN ?_)
 refine sR ?_
 refine R.mvE rfl cA ?_
 refine R.callv rfl rfl rfl (k_c3 _ (4611686018427387904) (0) (a0)) ?_
 refine R.asE rfl cA ?_
 refine R.asE rfl cA ?_
 refine nN ?_
 refine T.has Has.nil ?_
 refine T.ret ?_
 have hM : k_9e a0 = ((k_8b 4611686018427387904 0 a0), 0) := by rw [k_9e, if_f c7]
 exact fin2L (v := .int .u64 (k_8b 4611686018427387904 0 a0)) (v' := .int .i64 0) [] rfl rfl rfl (List.Sublist.refl _) ⟨rfl, by first | rw [hM] | rfl⟩
def k_67 (a0 : Int) (a1 : Int) : Int × Int :=
  if (!(k_5a 0 1048578 ([a0, a1]))) = true then ((0, 2)) else (((k_8b 9223372036854775808 a0 a1), 0))
set_option maxHeartbeats 3200000 in
theorem ident_Pair_c (H : Heap) (a0 : Int) (a1 : Int) : Fv Tryz.prog (fnv 22) [.int .i64 a0, .int .i64 a1] H (.tuple #[.int .u64 (k_67 a0 a1).1, .int .i64 (k_67 a0 a1).2]) := by
 refine Fc.of_body (N := 14) Tryz.func22 rfl kA rfl rfl ?_
 intro w0
 refine sR ?_
 refine R.asE rfl cA ?_
 refine R.asE rfl cA ?_
 refine nN ?_
 refine T.seq ?_
 refine sR ?_
 refine R.mvE rfl cA ?_
 refine R.mvE rfl cA ?_
 refine R.bsN [.int .i64 a0, .int .i64 a1] rfl Tryz.underlying25 Tryz.sizeOf3 Tryz.zeroValue3 rfl rfl rfl rfl rfl rfl ?_
 intro b8
 have w8 : OwnS (intE .i64) 3 H (.slice (some ⟨b8, 0, none⟩) 2 2) [a0, a1] [(b8, .cells #[.int .i64 a0, .int .i64 a1] 3)] := OwnS.lit (xs := [a0, a1]) (k_2a (a := [.int .i64 a0]) rfl (k_2a (a := [.int .i64 a1]) rfl k_4d)) (by show 2 ≤ maxLen; decide)
 refine TL.shut .hd ?_
 intro HF8_1 sF8_1 qF8_1
 have fF8_1 := OwnS.read w8 sF8_1 qF8_1
 refine R.callv rfl rfl rfl (k_bc _ (0) (1048578) _ ([a0, a1]) fF8_1) ?_
 refine R.not rfl rfl ?_
 refine nN ?_
 refine T.cond rfl (fun c10 => ?_) (fun c10 => ?_)
 ·refine T.set 10 (.bool true) (congrArg Value.bool c10) ?_
  refine sR ?_
  refine R.asE rfl cA ?_
  refine R.asE rfl cA ?_
  refine nN ?_
  refine T.has Has.nil ?_
  refine T.ret (Post.thnR ?_)
  have hM : k_67 a0 a1 = (0, 2) := by rw [k_67, if_t c10]
  exact fin2L (v := .int .u64 0) (v' := .int .i64 2) [] rfl rfl rfl (List.Sublist.refl _) ⟨rfl, by first | rw [hM] | rfl⟩
 refine T.set 10 (.bool false) (congrArg Value.bool c10) ?_
 refine T.skip (Post.thnN ?_)
 refine sR ?_
 refine R.mvE rfl cA ?_
 refine R.mvE rfl cA ?_
 refine R.callv rfl rfl rfl (k_c3 _ (9223372036854775808) (a0) (a1)) ?_
 refine R.asE rfl cA ?_
 refine R.asE rfl cA ?_
 refine nN ?_
 refine T.has Has.nil ?_
 refine T.ret ?_
 have hM : k_67 a0 a1 = ((k_8b 9223372036854775808 a0 a1), 0) := by rw [k_67, if_f c10]
 exact fin2L (v := .int .u64 (k_8b 9223372036854775808 a0 a1)) (v' := .int .i64 0) [] rfl rfl rfl (List.Sublist.refl _) ⟨rfl, by first | rw [hM] | rfl⟩
def k_6a (a0 : Int) : Int × Int :=
  ((IntKind.i64.wrap (Int.tmod (IntKind.u64.wrap (Int.tdiv a0 4294967296)) 1073741824)), (IntKind.i64.wrap (Int.tmod a0 1073741824)))
set_option maxHeartbeats 3200000 in
theorem windroseref01_Halves_c (H : Heap) (a0 : Int) : Fv Tryz.prog (fnv 72) [.int .u64 a0] H (.tuple #[.int .i64 (k_6a a0).1, .int .i64 (k_6a a0).2]) := by
 refine Fc.of_body (N := 11) Tryz.func72 rfl kA rfl rfl ?_
 intro w0
 refine sR ?_
 refine R.asE rfl cA ?_
 refine R.asE rfl cA ?_
 refine nN ?_
 refine sR ?_
 refine R.mvE rfl cA ?_
 refine R.quo rfl rfl rfl oA ?_
 refine R.rem rfl rfl rfl oA ?_
 refine R.conv Tryz.underlying42 Tryz.underlying3 rfl rfl ?_
 refine R.mvE rfl cA ?_
 refine R.rem rfl rfl rfl oA ?_
 refine R.conv Tryz.underlying42 Tryz.underlying3 rfl rfl ?_
 refine R.asE rfl cA ?_
 refine R.asE rfl cA ?_
 refine nN ?_
 refine T.has Has.nil ?_
 refine T.ret ?_
 have hM : k_6a a0 = ((IntKind.i64.wrap (Int.tmod (IntKind.u64.wrap (Int.tdiv a0 4294967296)) 1073741824)), (IntKind.i64.wrap (Int.tmod a0 1073741824))) := by rw [k_6a]
 exact fin2L (v := .int .i64 (IntKind.i64.wrap (Int.tmod (IntKind.u64.wrap (Int.tdiv a0 4294967296)) 1073741824))) (v' := .int .i64 (IntKind.i64.wrap (Int.tmod a0 1073741824))) [] rfl rfl rfl (List.Sublist.refl _) ⟨rfl, by first | rw [hM] | rfl⟩
def k_c (a0 : Int) (a1 : Int) (a2 : Int) : Int :=
  (IntKind.u64.wrap ((IntKind.u64.wrap (a0 + (IntKind.u64.wrap ((IntKind.u64.wrap a1) * 4294967296)))) + (IntKind.u64.wrap a2)))
set_option maxHeartbeats 3200000 in
theorem k_98 (H : Heap) (a0 : Int) (a1 : Int) (a2 : Int) : Fv Tryz.prog (fnv 50) [.int .u64 a0, .int .i64 a1, .int .i64 a2] H (.int .u64 (k_c a0 a1 a2)) := by
 refine Fc.of_body (N := 15) Tryz.func50 rfl kA rfl rfl ?_
 intro w0
 refine sR ?_
 refine R.asE rfl cA ?_
 refine nN ?_
 refine sR ?_
 refine R.mvE rfl cA ?_
 refine R.mvE rfl cA ?_
 refine R.conv Tryz.underlying3 Tryz.underlying42 rfl rfl ?_
 refine R.mul rfl rfl rfl ?_
 refine R.add rfl rfl rfl ?_
 refine R.mvE rfl cA ?_
 refine R.conv Tryz.underlying3 Tryz.underlying42 rfl rfl ?_
 refine R.add rfl rfl rfl ?_
 refine R.asE rfl cA ?_
 refine nN ?_
 refine T.has Has.nil ?_
 refine T.ret ?_
 have hM : k_c a0 a1 a2 = (IntKind.u64.wrap ((IntKind.u64.wrap (a0 + (IntKind.u64.wrap ((IntKind.u64.wrap a1) * 4294967296)))) + (IntKind.u64.wrap a2))) := by rw [k_c]
 exact fin1L (v := .int .u64 (IntKind.u64.wrap ((IntKind.u64.wrap (a0 + (IntKind.u64.wrap ((IntKind.u64.wrap a1) * 4294967296)))) + (IntKind.u64.wrap a2)))) [] rfl rfl (List.Sublist.refl _) ⟨rfl, by first | rw [hM] | rfl⟩
def k_18 (a0 : Int) (a1 : Int) (a2 : Int) : Bool :=
  if a1 ≤ a0 then ((decide (a0 ≤ a2))) else false
set_option maxHeartbeats 3200000 in
theorem k_a1 (H : Heap) (a0 : Int) (a1 : Int) (a2 : Int) : Fv Tryz.prog (fnv 73) [.int .i64 a0, .int .i64 a1, .int .i64 a2] H (.bool (k_18 a0 a1 a2)) := by
 refine Fc.of_body (N := 15) Tryz.func73 rfl kA rfl rfl ?_
 intro w0
 refine sR ?_
 refine R.asE rfl cA ?_
 refine nN ?_
 refine sR ?_
 refine R.mvE rfl cA ?_
 refine R.mvE rfl cA ?_
 refine R.geq rfl rfl rfl ?_
 refine R.mvE rfl cA ?_
 refine TL.gsplitD 10 rfl (fun g10 => ?_) (fun g10 => ?_)
 ·refine R.mvE rfl cA ?_
  refine R.mvE rfl cA ?_
  refine R.leq rfl rfl rfl ?_
  refine R.pkTE rfl rfl cA ?_
  refine R.asE rfl cA ?_
  refine nN ?_
  refine T.has Has.nil ?_
  refine T.ret ?_
  have hM : k_18 a0 a1 a2 = (decide (a0 ≤ a2)) := by rw [k_18, if_pos g10]
  exact fin1L (v := .bool (decide (a0 ≤ a2))) [] rfl rfl (List.Sublist.refl _) ⟨rfl, by first | rw [hM] | rfl⟩
 refine TL.off rfl rfl rfl ?_
 refine TL.off rfl rfl rfl ?_
 refine TL.off rfl rfl rfl ?_
 refine R.pkFE rfl rfl cA ?_
 refine R.asE rfl cA ?_
 refine nN ?_
 refine T.has Has.nil ?_
 refine T.ret ?_
 have hM : k_18 a0 a1 a2 = false := by rw [k_18, if_neg g10]
 exact fin1L (v := .bool false) [] rfl rfl (List.Sublist.refl _) ⟨rfl, by first | rw [hM] | rfl⟩
def k_7 (a0 : Int) : Int :=
  LR.seq (k_6a a0) (fun r7 => LR.seq (if a0 = (k_c 0 r7.1 r7.2) then (if (k_18 r7.2 1 1048578) = true then ((k_18 r7.1 0 7)) else false) else false : Bool) (fun sc1 => if sc1 = true then 1 else (LR.seq (if a0 = (k_c 4611686018427387904 0 r7.2) then ((k_18 r7.2 1 24)) else false : Bool) (fun sc2 => if sc2 = true then 2 else (LR.seq (if a0 = (k_c 9223372036854775808 r7.1 r7.2) then (if (k_18 r7.1 1 1048578) = true then ((k_18 r7.2 1 1048578)) else false) else false : Bool) (fun sc3 => if sc3 = true then 3 else (LR.seq (if a0 = (k_c 9223372036854775808 r7.1 r7.2) then (if (k_18 r7.1 0 1048578) = true then ((k_18 r7.2 0 1048578)) else false) else false : Bool) (fun sc4 => if sc4 = true then 4 else 0))))))))
set_option maxHeartbeats 3200000 in
theorem k_a4 (H : Heap) (a0 : Int) : Fv Tryz.prog (fnv 48) [.int .u64 a0] H (.int .i64 (k_7 a0)) := by
 refine Fc.of_body (N := 61) Tryz.func48 rfl kA rfl rfl ?_
 intro w0
 refine sR ?_
 refine R.asE rfl cA ?_
 refine nN ?_
 refine sR ?_
 refine R.mvE rfl cA ?_
 obtain ⟨r7, er7⟩ : ∃ r, r = (k_6a a0) := ⟨_, rfl⟩
 refine R.callv (v := .tuple #[.int .i64 r7.1, .int .i64 r7.2]) rfl rfl rfl (by rw [er7]; exact windroseref01_Halves_c _ (a0)) ?_
 refine R.mvE rfl cA ?_
 refine R.ext rfl rfl rfl ?_
 refine R.ext rfl rfl rfl ?_
 refine R.asE rfl cA ?_
 refine R.asE rfl cA ?_
 refine nN ?_
 refine T.seq ?_
 refine T.block ?_
 refine T.seq ?_
 refine T.cutK (ι := Bool) (fun b10c1 H' L' ds' => Has L' [] ∧ (if a0 = (k_c 0 r7.1 r7.2) then (if (k_18 r7.2 1 1048578) = true then ((k_18 r7.1 0 7)) else false) else false : Bool) = b10c1) (fun b10c1 => [(0, .int .u64 a0), (3, .int .i64 (r7.1)), (4, .int .i64 (r7.2)), (10, .bool (b10c1))]) ?_ ?_
 ·refine T.region ?_
  refine R.mvE rfl cA ?_
  refine R.mvE rfl cA ?_
  refine R.mvE rfl cA ?_
  refine R.callv rfl rfl rfl (k_98 _ (0) (r7.1) (r7.2)) ?_
  refine R.eql rfl rfl rfl ?_
  refine R.mvE rfl cA ?_
  refine TL.gsplitD 16 rfl (fun g16 => ?_) (fun g16 => ?_)
  ·refine R.mvE rfl cA ?_
   refine R.callv rfl rfl rfl (k_a1 _ (r7.2) (1) (1048578)) ?_
   refine R.pkTE rfl rfl cA ?_
   refine R.mvE rfl cA ?_
   refine TL.gsplit 20 rfl (fun g20 => ?_) (fun g20 => ?_)
   ·refine R.mvE rfl cA ?_
    refine R.callv rfl rfl rfl (k_a1 _ (r7.1) (0) (7)) ?_
    refine R.pkTE rfl rfl cA ?_
    refine R.asE rfl cA ?_
    refine nN ?_
    exact ⟨(k_18 r7.1 0 7), HLe.refl _, ⟨Has.nil, (by rw [if_pos g16, if_t g20])⟩, rfl, rfl, rfl, rfl, trivial⟩
   refine TL.off rfl rfl rfl ?_
   refine TL.off rfl rfl rfl ?_
   refine R.pkFE rfl rfl cA ?_
   refine R.asE rfl cA ?_
   refine nN ?_
   exact ⟨false, HLe.refl _, ⟨Has.nil, (by rw [if_pos g16, if_f g20])⟩, rfl, rfl, rfl, rfl, trivial⟩
  refine TL.off rfl rfl rfl ?_
  refine TL.off rfl rfl rfl ?_
  refine R.pkFE rfl rfl cA ?_
  refine R.mvE rfl cA ?_
  refine TL.off rfl rfl rfl ?_
  refine TL.off rfl rfl rfl ?_
  refine R.pkFE rfl rfl cA ?_
  refine R.asE rfl cA ?_
  refine nN ?_
  exact ⟨false, HLe.refl _, ⟨Has.nil, (by rw [if_neg g16])⟩, rfl, rfl, rfl, rfl, trivial⟩
 intro b10c1 σ_c1 H_c1 L_c1 ds_c1 s_c1 hI_c1
 obtain ⟨hLc1, hTc1⟩ := hI_c1
 refine T.has hLc1 ?_
 refine T.cond rfl (fun c10 => ?_) (fun c10 => ?_)
 ·refine T.set 10 (.bool true) (congrArg Value.bool c10) ?_
  have hZ10 := hTc1.trans c10
  try simp only [or_f, or_t, k_bf, k_c0, decide_eq_true_eq, decide_eq_false_iff_not, Bool.not_eq_true'] at hZ10
  refine sR ?_
  refine R.asE rfl cA ?_
  refine nN ?_
  refine T.has Has.nil ?_
  refine T.ret (Post.blkR (Post.thnR ?_))
  have hM : k_7 a0 = 1 := by subst er7; rw [k_7, LR.seq_go, hTc1, LR.seq_go, if_t c10]
  exact fin1L (v := .int .i64 1) [] rfl rfl (List.Sublist.refl _) ⟨rfl, by first | rw [hM] | rfl⟩
 refine T.set 10 (.bool false) (congrArg Value.bool c10) ?_
 have hZ10 := hTc1.trans c10
 try simp only [or_f, or_t, k_bf, k_c0, decide_eq_true_eq, decide_eq_false_iff_not, Bool.not_eq_true'] at hZ10
 refine T.seq ?_
 refine T.cutK (ι := Bool) (fun b24c2 H' L' ds' => Has L' [] ∧ (if a0 = (k_c 4611686018427387904 0 r7.2) then ((k_18 r7.2 1 24)) else false : Bool) = b24c2) (fun b24c2 => [(0, .int .u64 a0), (3, .int .i64 (r7.1)), (4, .int .i64 (r7.2)), (24, .bool (b24c2))]) ?_ ?_
 ·refine T.region ?_
  refine R.mvE rfl cA ?_
  refine R.mvE rfl cA ?_
  refine R.callv rfl rfl rfl (k_98 _ (4611686018427387904) (0) (r7.2)) ?_
  refine R.eql rfl rfl rfl ?_
  refine R.mvE rfl cA ?_
  refine TL.gsplitD 29 rfl (fun g29 => ?_) (fun g29 => ?_)
  ·refine R.mvE rfl cA ?_
   refine R.callv rfl rfl rfl (k_a1 _ (r7.2) (1) (24)) ?_
   refine R.pkTE rfl rfl cA ?_
   refine R.asE rfl cA ?_
   refine nN ?_
   exact ⟨(k_18 r7.2 1 24), HLe.refl _, ⟨Has.nil, (by rw [if_pos g29])⟩, rfl, rfl, rfl, rfl, trivial⟩
  refine TL.off rfl rfl rfl ?_
  refine TL.off rfl rfl rfl ?_
  refine R.pkFE rfl rfl cA ?_
  refine R.asE rfl cA ?_
  refine nN ?_
  exact ⟨false, HLe.refl _, ⟨Has.nil, (by rw [if_neg g29])⟩, rfl, rfl, rfl, rfl, trivial⟩
 intro b24c2 σ_c2 H_c2 L_c2 ds_c2 s_c2 hI_c2
 obtain ⟨hLc2, hTc2⟩ := hI_c2
 refine T.has hLc2 ?_
 refine T.cond rfl (fun c24 => ?_) (fun c24 => ?_)
 ·refine T.set 24 (.bool true) (congrArg Value.bool c24) ?_
  have hZ24 := hTc2.trans c24
  try simp only [or_f, or_t, k_bf, k_c0, decide_eq_true_eq, decide_eq_false_iff_not, Bool.not_eq_true'] at hZ24
  refine sR ?_
  refine R.asE rfl cA ?_
  refine nN ?_
  refine T.has Has.nil ?_
  refine T.ret (Post.blkR (Post.thnR ?_))
  have hM : k_7 a0 = 2 := by subst er7; rw [k_7, LR.seq_go, hTc1, LR.seq_go, if_f c10, hTc2, LR.seq_go, if_t c24]
  exact fin1L (v := .int .i64 2) [] rfl rfl (List.Sublist.refl _) ⟨rfl, by first | rw [hM] | rfl⟩
 refine T.set 24 (.bool false) (congrArg Value.bool c24) ?_
 have hZ24 := hTc2.trans c24
 try simp only [or_f, or_t, k_bf, k_c0, decide_eq_true_eq, decide_eq_false_iff_not, Bool.not_eq_true'] at hZ24
 refine T.seq ?_
 refine T.cutK (ι := Bool) (fun b33c3 H' L' ds' => Has L' [] ∧ (if a0 = (k_c 9223372036854775808 r7.1 r7.2) then (if (k_18 r7.1 1 1048578) = true then ((k_18 r7.2 1 1048578)) else false) else false : Bool) = b33c3) (fun b33c3 => [(0, .int .u64 a0), (3, .int .i64 (r7.1)), (4, .int .i64 (r7.2)), (33, .bool (b33c3))]) ?_ ?_
 ·refine T.region ?_
  refine R.mvE rfl cA ?_
  refine R.mvE rfl cA ?_
  refine R.mvE rfl cA ?_
  refine R.callv rfl rfl rfl (k_98 _ (9223372036854775808) (r7.1) (r7.2)) ?_
  refine R.eql rfl rfl rfl ?_
  refine R.mvE rfl cA ?_
  refine TL.gsplitD 39 rfl (fun g39 => ?_) (fun g39 => ?_)
  ·refine R.mvE rfl cA ?_
   refine R.callv rfl rfl rfl (k_a1 _ (r7.1) (1) (1048578)) ?_
   refine R.pkTE rfl rfl cA ?_
   refine R.mvE rfl cA ?_
   refine TL.gsplit 43 rfl (fun g43 => ?_) (fun g43 => ?_)
   ·refine R.mvE rfl cA ?_
    refine R.callv rfl rfl rfl (k_a1 _ (r7.2) (1) (1048578)) ?_
    refine R.pkTE rfl rfl cA ?_
    refine R.asE rfl cA ?_
    refine nN ?_
    exact ⟨(k_18 r7.2 1 1048578), HLe.refl _, ⟨Has.nil, (by rw [if_pos g39, if_t g43])⟩, rfl, rfl, rfl, rfl, trivial⟩
   refine TL.off rfl rfl rfl ?_
   refine TL.off rfl rfl rfl ?_
   refine R.pkFE rfl rfl cA ?_
   refine R.asE rfl cA ?_
   refine nN ?_
   exact ⟨false, HLe.refl _, ⟨Has.nil, (by rw [if_pos g39, if_f g43])⟩, rfl, rfl, rfl, rfl, trivial⟩
  refine TL.off rfl rfl rfl ?_
  refine TL.off rfl rfl rfl ?_
  refine R.pkFE rfl rfl cA ?_
  refine R.mvE rfl cA ?_
  refine TL.off rfl rfl rfl ?_
  refine TL.off rfl rfl rfl ?_
  refine R.pkFE rfl rfl cA ?_
  refine R.asE rfl cA ?_
  refine nN ?_
  exact ⟨false, HLe.refl _, ⟨Has.nil, (by rw [if_neg g39])⟩, rfl, rfl, rfl, rfl, trivial⟩
 intro b33c3 σ_c3 H_c3 L_c3 ds_c3 s_c3 hI_c3
 obtain ⟨hLc3, hTc3⟩ := hI_c3
 refine T.has hLc3 ?_
 refine T.cond rfl (fun c33 => ?_) (fun c33 => ?_)
 ·refine T.set 33 (.bool true) (congrArg Value.bool c33) ?_
  have hZ33 := hTc3.trans c33
  try simp only [or_f, or_t, k_bf, k_c0, decide_eq_true_eq, decide_eq_false_iff_not, Bool.not_eq_true'] at hZ33
  refine sR ?_
  refine R.asE rfl cA ?_
  refine nN ?_
  refine T.has Has.nil ?_
  refine T.ret (Post.blkR (Post.thnR ?_))
  have hM : k_7 a0 = 3 := by subst er7; rw [k_7, LR.seq_go, hTc1, LR.seq_go, if_f c10, hTc2, LR.seq_go, if_f c24, hTc3, LR.seq_go, if_t c33]
  exact fin1L (v := .int .i64 3) [] rfl rfl (List.Sublist.refl _) ⟨rfl, by first | rw [hM] | rfl⟩
 refine T.set 33 (.bool false) (congrArg Value.bool c33) ?_
 have hZ33 := hTc3.trans c33
 try simp only [or_f, or_t, k_bf, k_c0, decide_eq_true_eq, decide_eq_false_iff_not, Bool.not_eq_true'] at hZ33
 refine T.seq ?_
 refine T.cutK (ι := Bool) (fun b47c4 H' L' ds' => Has L' [] ∧ (if a0 = (k_c 9223372036854775808 r7.1 r7.2) then (if (k_18 r7.1 0 1048578) = true then ((k_18 r7.2 0 1048578)) else false) else false : Bool) = b47c4) (fun b47c4 => [(47, .bool (b47c4))]) ?_ ?_
 ·refine T.region ?_
  refine R.mvE rfl cA ?_
  refine R.mvE rfl cA ?_
  refine R.mvE rfl cA ?_
  refine R.callv rfl rfl rfl (k_98 _ (9223372036854775808) (r7.1) (r7.2)) ?_
  refine R.eql rfl rfl rfl ?_
  refine R.mvE rfl cA ?_
  refine TL.gsplitD 53 rfl (fun g53 => ?_) (fun g53 => ?_)
  ·refine R.mvE rfl cA ?_
   refine R.callv rfl rfl rfl (k_a1 _ (r7.1) (0) (1048578)) ?_
   refine R.pkTE rfl rfl cA ?_
   refine R.mvE rfl cA ?_
   refine TL.gsplit 57 rfl (fun g57 => ?_) (fun g57 => ?_)
   ·refine R.mvE rfl cA ?_
    refine R.callv rfl rfl rfl (k_a1 _ (r7.2) (0) (1048578)) ?_
    refine R.pkTE rfl rfl cA ?_
    refine R.asE rfl cA ?_
    refine nN ?_
    exact ⟨(k_18 r7.2 0 1048578), HLe.refl _, ⟨Has.nil, (by rw [if_pos g53, if_t g57])⟩, rfl, trivial⟩
   refine TL.off rfl rfl rfl ?_
   refine TL.off rfl rfl rfl ?_
   refine R.pkFE rfl rfl cA ?_
   refine R.asE rfl cA ?_
   refine nN ?_
   exact ⟨false, HLe.refl _, ⟨Has.nil, (by rw [if_pos g53, if_f g57])⟩, rfl, trivial⟩
  refine TL.off rfl rfl rfl ?_
  refine TL.off rfl rfl rfl ?_
  refine R.pkFE rfl rfl cA ?_
  refine R.mvE rfl cA ?_
  refine TL.off rfl rfl rfl ?_
  refine TL.off rfl rfl rfl ?_
  refine R.pkFE rfl rfl cA ?_
  refine R.asE rfl cA ?_
  refine nN ?_
  exact ⟨false, HLe.refl _, ⟨Has.nil, (by rw [if_neg g53])⟩, rfl, trivial⟩
 intro b47c4 σ_c4 H_c4 L_c4 ds_c4 s_c4 hI_c4
 obtain ⟨hLc4, hTc4⟩ := hI_c4
 refine T.has hLc4 ?_
 refine T.cond rfl (fun c47 => ?_) (fun c47 => ?_)
 ·refine T.set 47 (.bool true) (congrArg Value.bool c47) ?_
  have hZ47 := hTc4.trans c47
  try simp only [or_f, or_t, k_bf, k_c0, decide_eq_true_eq, decide_eq_false_iff_not, Bool.not_eq_true'] at hZ47
  refine sR ?_
  refine R.asE rfl cA ?_
  refine nN ?_
  refine T.has Has.nil ?_
  refine T.ret (Post.blkR (Post.thnR ?_))
  have hM : k_7 a0 = 4 := by subst er7; rw [k_7, LR.seq_go, hTc1, LR.seq_go, if_f c10, hTc2, LR.seq_go, if_f c24, hTc3, LR.seq_go, if_f c33, hTc4, LR.seq_go, if_t c47]
  exact fin1L (v := .int .i64 4) [] rfl rfl (List.Sublist.refl _) ⟨rfl, by first | rw [hM] | rfl⟩
 refine T.set 47 (.bool false) (congrArg Value.bool c47) ?_
 have hZ47 := hTc4.trans c47
 try simp only [or_f, or_t, k_bf, k_c0, decide_eq_true_eq, decide_eq_false_iff_not, Bool.not_eq_true'] at hZ47
 refine T.skip (Post.blkN ?_)
 refine id (Post.thnN ?_)
 refine sR ?_
 refine R.asE rfl cA ?_
 refine nN ?_
 refine T.has Has.nil ?_
 refine T.ret ?_
 have hM : k_7 a0 = 0 := by subst er7; rw [k_7, LR.seq_go, hTc1, LR.seq_go, if_f c10, hTc2, LR.seq_go, if_f c24, hTc3, LR.seq_go, if_f c33, hTc4, LR.seq_go, if_f c47]
 exact fin1L (v := .int .i64 0) [] rfl rfl (List.Sublist.refl _) ⟨rfl, by first | rw [hM] | rfl⟩
def k_1b (a0 : Int) : Int × Int :=
  LR.seq (k_6a a0) (fun r8 => LR.on (if ((k_7 a0) : Int) = 0 then (.ret ((0, 0))) else (LR.seq (if ((k_7 a0) : Int) = 1 then true else ((decide (((k_7 a0) : Int) = 2))) : Bool) (fun sc2 => if sc2 = true then (.ret ((r8.2, r8.1))) else (.go ()))) : LR (Int × Int) (Unit)) (fun r => r) (fun sc1 => (r8.1, r8.2)))
set_option maxHeartbeats 3200000 in
theorem windroseref01_Parts_c (H : Heap) (a0 : Int) : Fv Tryz.prog (fnv 49) [.int .u64 a0] H (.tuple #[.int .i64 (k_1b a0).1, .int .i64 (k_1b a0).2]) := by
 refine Fc.of_body (N := 22) Tryz.func49 rfl kA rfl rfl ?_
 intro w0
 refine sR ?_
 refine R.asE rfl cA ?_
 refine R.asE rfl cA ?_
 refine nN ?_
 refine sR ?_
 refine R.mvE rfl cA ?_
 obtain ⟨r8, er8⟩ : ∃ r, r = (k_6a a0) := ⟨_, rfl⟩
 refine R.callv (v := .tuple #[.int .i64 r8.1, .int .i64 r8.2]) rfl rfl rfl (by rw [er8]; exact windroseref01_Halves_c _ (a0)) ?_
 refine R.mvE rfl cA ?_
 refine R.ext rfl rfl rfl ?_
 refine R.ext rfl rfl rfl ?_
 refine R.asE rfl cA ?_
 refine R.asE rfl cA ?_
 refine nN ?_
 refine T.seq ?_
 refine sR ?_
 refine R.mvE rfl cA ?_
 refine R.callv rfl rfl rfl (k_a4 _ (a0)) ?_
 refine nN ?_
 refine T.cutK (ι := Unit) (fun _ H' L' ds' => Has L' [] ∧ (if ((k_7 a0) : Int) = 0 then (.ret ((0, 0))) else (LR.seq (if ((k_7 a0) : Int) = 1 then true else ((decide (((k_7 a0) : Int) = 2))) : Bool) (fun sc2 => if sc2 = true then (.ret ((r8.2, r8.1))) else (.go ()))) : LR (Int × Int) (Unit)) = .go ()) (fun _ => [(4, .int .i64 (r8.1)), (5, .int .i64 (r8.2))]) ?_ ?_
 ·refine T.block ?_
  refine sR ?_
  refine R.eql rfl rfl rfl ?_
  refine R.asE rfl cA ?_
  refine nN ?_
  refine T.condD rfl (fun c13 => ?_) (fun c13 => ?_)
  ·refine T.set 13 (.bool true) (congrArg Value.bool (decide_eq_true c13)) ?_
   refine sR ?_
   refine R.asE rfl cA ?_
   refine R.asE rfl cA ?_
   refine nN ?_
   refine T.has Has.nil ?_
   refine T.ret (Post.blkR (Post.thnR ?_))
   have hM : k_1b a0 = (0, 0) := by subst er8; rw [k_1b, LR.seq_go, if_pos c13, LR.on_ret]
   exact fin2L (v := .int .i64 0) (v' := .int .i64 0) [] rfl rfl rfl (List.Sublist.refl _) ⟨rfl, by first | rw [hM] | rfl⟩
  refine T.set 13 (.bool false) (congrArg Value.bool (decide_eq_false c13)) ?_
  refine T.seq ?_
  refine sR ?_
  refine R.eql rfl rfl rfl ?_
  refine R.asE rfl cA ?_
  refine nN ?_
  refine T.cutK (ι := Bool) (fun b15c2 H' L' ds' => Has L' [] ∧ (if ((k_7 a0) : Int) = 1 then true else ((decide (((k_7 a0) : Int) = 2))) : Bool) = b15c2) (fun b15c2 => [(4, .int .i64 (r8.1)), (5, .int .i64 (r8.2)), (15, .bool (b15c2))]) ?_ ?_
  ·refine T.condD rfl (fun c15 => ?_) (fun c15 => ?_)
   ·refine T.set 15 (.bool true) (congrArg Value.bool (decide_eq_true c15)) ?_
    refine T.skip (Post.thnN ?_)
    exact ⟨true, HLe.refl _, ⟨Has.nil, (by rw [if_pos c15])⟩, rfl, rfl, rfl, trivial⟩
   refine T.set 15 (.bool false) (congrArg Value.bool (decide_eq_false c15)) ?_
   refine T.region ?_
   refine R.eql rfl rfl rfl ?_
   refine R.asE rfl cA ?_
   refine nN ?_
   exact ⟨(decide (((k_7 a0) : Int) = 2)), HLe.refl _, ⟨Has.nil, (by rw [if_neg c15])⟩, rfl, rfl, rfl, trivial⟩
  intro b15c2 σ_c2 H_c2 L_c2 ds_c2 s_c2 hI_c2
  obtain ⟨hLc2, hTc2⟩ := hI_c2
  refine T.has hLc2 ?_
  refine T.cond rfl (fun c15 => ?_) (fun c15 => ?_)
  ·refine T.set 15 (.bool true) (congrArg Value.bool c15) ?_
   have hZ15 := hTc2.trans c15
   try simp only [or_f, or_t, k_bf, k_c0, decide_eq_true_eq, decide_eq_false_iff_not, Bool.not_eq_true'] at hZ15
   refine sR ?_
   refine R.mvE rfl cA ?_
   refine R.mvE rfl cA ?_
   refine R.asE rfl cA ?_
   refine R.asE rfl cA ?_
   refine nN ?_
   refine T.has Has.nil ?_
   refine T.ret (Post.blkR (Post.thnR ?_))
   have hM : k_1b a0 = (r8.2, r8.1) := by subst er8; rw [k_1b, LR.seq_go, if_neg c13, hTc2, LR.seq_go, if_t c15, LR.on_ret]
   exact fin2L (v := .int .i64 (r8.2)) (v' := .int .i64 (r8.1)) [] rfl rfl rfl (List.Sublist.refl _) ⟨rfl, by first | rw [hM] | rfl⟩
  refine T.set 15 (.bool false) (congrArg Value.bool c15) ?_
  have hZ15 := hTc2.trans c15
  try simp only [or_f, or_t, k_bf, k_c0, decide_eq_true_eq, decide_eq_false_iff_not, Bool.not_eq_true'] at hZ15
  refine T.skip (Post.blkN ?_)
  refine id (Post.thnN ?_)
  exact ⟨(), s_c2, ⟨Has.nil, (by rw [if_neg c13, hTc2, LR.seq_go, if_f c15])⟩, rfl, rfl, trivial⟩
 intro _ σ_c1 H_c1 L_c1 ds_c1 s_c1 hI_c1
 obtain ⟨hLc1, hTc1⟩ := hI_c1
 refine T.has hLc1 ?_
 refine sR ?_
 refine R.mvE rfl cA ?_
 refine R.mvE rfl cA ?_
 refine R.asE rfl cA ?_
 refine R.asE rfl cA ?_
 refine nN ?_
 refine T.has Has.nil ?_
 refine T.ret ?_
 have hM : k_1b a0 = (r8.1, r8.2) := by subst er8; rw [k_1b, LR.seq_go, hTc1, LR.on_go]
 exact fin2L (v := .int .i64 (r8.1)) (v' := .int .i64 (r8.2)) [] rfl rfl rfl (List.Sublist.refl _) ⟨rfl, by first | rw [hM] | rfl⟩
end Go.SX

set_option linter.unusedVariables false
set_option linter.unusedSimpArgs false
namespace Go.SX
open Go
attribute [local semireducible] T TL
section
variable {fr : Fr} {x : Cx} {Q : Post} {σ : Env} {H : Heap} {L : Own} {ds : List Nat} {ol rest : List Oper} {d : Nat} {ty : TypeId} {p : String} {af : Array Edge} {g : Option (Nat × Bool)}
end
end Go.SX

set_option linter.unusedVariables false
set_option linter.unusedSimpArgs false
namespace Go.SX
open Go
attribute [local semireducible] T TL
section
variable {fr : Fr} {x : Cx} {Q : Post} {σ : Env} {H : Heap} {L : Own} {ds : List Nat} {ol rest : List Oper} {d : Nat} {ty : TypeId} {p : String} {af : Array Edge} {g : Option (Nat × Bool)}
/-- A store of several cells into an element of a row of one's own. -/
theorem R.stEF {α : Type} {E : ER α} {te e : TypeId} {Ad V : Operand} {v u : Value} {m : List Value} {xs : List α} {y y' : α} {ch : Chunk} {R : Own} {j b o : Nat} (hsz : ∀ w, (sizeOf te).run fr.P w = .ok m.length w) (hw : wants ol σ g = true)
    (hown : OwnS E e H v xs ch) (hdel : Del L ch R) (hix : IxAt v E.size j b (j * E.size)) (ha : ev σ Ad = .pointer (some ⟨b, j * E.size + o, none⟩)) (hv : ev σ V = u) (hu : u.cells = m.toArray) (h1 : ∀ v ∈ m, v.oneCell' = true)
    (hj : xs[j]? = some y) (ho : o + m.length ≤ E.size) (hy : ∀ l, E.R H l y → E.R H (l.take o ++ m ++ l.drop (o + m.length)) y')
    (hk : ∀ c', OwnS E e H v (xs.set j y') c' → TL fr x ol rest Q σ H (c' :: R) ds) :
    TL fr x ol (⟨none, .store te Ad V, ty, p, af, g⟩ :: rest) Q σ H L ds := by
  intro a w hs hd hst
  have hst1 : St x H (ch ++ (R.flatten ++ hid fr.rd ds)) w := hst.perm (by rw [← List.append_assoc]; exact hdel.perm.append_right _)
  obtain ⟨o0, n0, c0, hv0, hjn, _⟩ := hix
  rcases hown with ⟨rfl, rfl, rfl⟩ | ⟨b', cap, cs, rfl, rfl, h3, h4, h5, h6⟩
  · cases hv0
  · cases hv0
    obtain ⟨l0, hl0, hl0c⟩ := h6 j y hj
    have hl0l := E.len hl0
    have hb := hst1.sat.l (b, .cells cs e) (List.mem_append_left _ (List.mem_singleton.2 rfl))
    simp only at hb
    have hfitE : j * E.size + E.size ≤ cs.size := by
      calc j * E.size + E.size = (j + 1) * E.size := by rw [Nat.add_mul, Nat.one_mul]
        _ ≤ c0 * E.size := Nat.mul_le_mul_right _ (by omega)
        _ ≤ cs.size := h5
    have hfit : j * E.size + o + m.length ≤ cs.size := by omega
    have hstore := run_storeCells_at fr.P b (j * E.size + o) e m 0 cs w hb (by omega) h1
    rw [Nat.add_zero] at hstore
    generalize hnew : cs.toList.take (j * E.size + o) ++ m ++ cs.toList.drop (j * E.size + o + m.length) = new at hstore
    have hst2 := hst1.turn (w' := w.setRow b new.toArray) (o' := .cells new.toArray e) rfl rfl rfl (by simp [World.setRow]) (by simp only [World.setRow]; rw [Array.getElem?_modify, if_pos rfl, hb]; rfl) (fun c hc => by
      simp only [World.setRow, Array.getElem?_modify]
      rw [if_neg (fun e => hc e.symm)])
    unfold wpLo
    rw [if_pos (k_cf hs hw)]
    refine ⟨fun f _ => fenceFn _ f, ?_⟩
    rw [semAt_of rfl, hs.eval]
    have hrun : (execOp (ev σ) ⟨none, .store te Ad V, ty, p, af, g⟩).run fr.P w = .ok .skip (w.setRow b new.toArray) := by
      simp [execOp, Instr.storeAt, Instr.sureAddr, storeVar, ha, hv, hu, hsz, hstore]
    rw [hrun]
    have hcl : cs.toList.length = cs.size := Array.length_toList
    have htl : (cs.toList.take (j * E.size + o)).length = j * E.size + o := by rw [List.length_take, hcl]; omega
    have hszs : new.length = cs.size := by
      rw [← hnew, List.length_append, List.length_append, List.length_drop, htl, hcl]; omega
    -- what stands where
    have hget : ∀ q, new[q]? = if q < j * E.size + o then cs[q]? else if q < j * E.size + o + m.length then m[q - (j * E.size + o)]? else cs[q]? := by
      intro q
      rw [← hnew]
      by_cases hq : q < j * E.size + o
      · rw [if_pos hq, List.append_assoc, List.getElem?_append_left (by rw [htl]; exact hq), List.getElem?_take_of_lt hq]
        simp
      · rw [if_neg hq]
        by_cases hq2 : q < j * E.size + o + m.length
        · rw [if_pos hq2, List.getElem?_append_left (by rw [List.length_append, htl]; exact hq2), List.getElem?_append_right (by rw [htl]; omega), htl]
        · rw [if_neg hq2, List.getElem?_append_right (by rw [List.length_append, htl]; omega), List.length_append, htl, List.getElem?_drop, show j * E.size + o + m.length + (q - (j * E.size + o + m.length)) = q by omega]
          simp
    refine hk [(b, .cells new.toArray e)] (Or.inr ?_) _ _ hs hd (by simpa using hst2)
    refine ⟨b, c0, _, by rw [List.length_set], rfl, by rw [List.length_set]; exact h3, h4, by rw [List.size_toArray, hszs]; exact h5, fun k q hq => ?_⟩
    by_cases hkj : k = j
    · subst hkj
      rw [List.getElem?_set_self hjn] at hq
      injection hq with hq
      subst hq
      refine ⟨_, hy l0 hl0, fun r u hr => ?_⟩
      rw [List.getElem?_toArray, hget]
      have hlt0 : (l0.take o).length = o := by rw [List.length_take]; omega
      by_cases hro : r < o
      · rw [if_pos (by omega)]
        rw [List.append_assoc, List.getElem?_append_left (by rw [hlt0]; exact hro), List.getElem?_take_of_lt hro] at hr
        exact hl0c r u hr
      · rw [if_neg (by omega)]
        by_cases hro2 : r < o + m.length
        · rw [if_pos (by omega)]
          rw [List.getElem?_append_left (by rw [List.length_append, hlt0]; exact hro2), List.getElem?_append_right (by rw [hlt0]; omega), hlt0] at hr
          rw [show k * E.size + r - (k * E.size + o) = r - o by omega]; exact hr
        · rw [if_neg (by omega)]
          rw [List.getElem?_append_right (by rw [List.length_append, hlt0]; omega), List.length_append, hlt0, List.getElem?_drop, show o + m.length + (r - (o + m.length)) = r by omega] at hr
          exact hl0c r u hr
    · rw [List.getElem?_set_ne (fun e => hkj e.symm)] at hq
      obtain ⟨l2, h7, h8⟩ := h6 k q hq
      refine ⟨l2, h7, fun r u hr => ?_⟩
      have h9 := h8 r u hr
      have hrl : r < E.size := by rw [← E.len h7]; exact (List.getElem?_eq_some_iff.1 hr).1
      rw [List.getElem?_toArray, hget]
      rcases Nat.lt_or_ge k j with hlt | hge
      · have h10 : k * E.size + r < j * E.size := by
          calc k * E.size + r < k * E.size + E.size := by omega
            _ = (k + 1) * E.size := by rw [Nat.add_mul, Nat.one_mul]
            _ ≤ j * E.size := Nat.mul_le_mul_right _ (by omega)
        rw [if_pos (by omega)]; exact h9
      · have h10 : j * E.size + E.size ≤ k * E.size + r := by
          calc j * E.size + E.size = (j + 1) * E.size := by rw [Nat.add_mul, Nat.one_mul]
            _ ≤ k * E.size := Nat.mul_le_mul_right _ (by omega)
            _ ≤ k * E.size + r := by omega
        rw [if_neg (by omega), if_neg (by omega)]; exact h9
end
/-- What a result's variable yields. -/
inductive ResAt (P : Program) (σ : Env) (H : Heap) (L : Own) : ResultVar → Value → Prop
  | tmp {t : Nat} {v : Value} (h : σ t = v) : ResAt P σ H L (.tmp t) v
  | cell1 {t ty b o : Nat} {cs : Array Value} {et : TypeId} {v : Value} (hagg : ∀ w, (isAgg ty).run P w = .ok false w) (ha : σ t = .pointer (some ⟨b, o, none⟩)) (hin : In L [(b, .cells cs et)]) (hv : cs[o]? = some v) : ResAt P σ H L (.cell t ty) v
  | cellA {t ty b o n : Nat} {cs l : List Value} {et : TypeId} (hagg : ∀ w, (isAgg ty).run P w = .ok true w) (hsz : ∀ w, (sizeOf ty).run P w = .ok n w) (ha : σ t = .pointer (some ⟨b, o, none⟩)) (hin : In L [(b, .cells cs.toArray et)]) (hl : (cs.drop o).take n = l) (hn : l.length = n) : ResAt P σ H L (.cell t ty) (.agg l.toArray)
  | cell1H {t ty b o : Nat} {cs : Array Value} {et : TypeId} {v : Value} (hagg : ∀ w, (isAgg ty).run P w = .ok false w) (ha : σ t = .pointer (some ⟨b, o, none⟩)) (hin : H b = some (.cells cs et)) (hv : cs[o]? = some v) : ResAt P σ H L (.cell t ty) v
  | cellAH {t ty b o n : Nat} {cs l : List Value} {et : TypeId} (hagg : ∀ w, (isAgg ty).run P w = .ok true w) (hsz : ∀ w, (sizeOf ty).run P w = .ok n w) (ha : σ t = .pointer (some ⟨b, o, none⟩)) (hin : H b = some (.cells cs.toArray et)) (hl : (cs.drop o).take n = l) (hn : l.length = n) : ResAt P σ H L (.cell t ty) (.agg l.toArray)
theorem take_drop_get {cs l : List Value} {o n : Nat} (hl : (cs.drop o).take n = l) {j : Nat} {u : Value} (hj : l[j]? = some u) : cs[o + j]? = some u := by
  rw [← hl, List.getElem?_take] at hj
  split at hj
  · rw [List.getElem?_drop] at hj; exact hj
  · cases hj
def resOne (tmps : Array Value) : ResultVar → Sem Value
  | .tmp t => pure (tmps.getD t undef)
  | .cell a t => do loadVar t (← asAddr (tmps.getD a undef))
theorem results_eq {fn : Func} {tmps : Array Value} : results fn tmps = (do
  let vs ← fn.results.mapM (resOne tmps)
  pure (if h : vs.size = 1 then vs[0] else .tuple vs)) := by
  unfold results
  congr 1
theorem ResAt.run {P : Program} {N : Nat} {σ : Env} {H : Heap} {L : Own} {r : ResultVar} {v : Value} (h : ResAt P σ H L r v) {tmps : Array Value} {w : World} (hs : Sim N σ tmps) (hsat : Sat H L.flatten w) : (resOne tmps r).run P w = .ok v w := by
  cases h with
  | tmp h => simp [resOne, hs.val, h]
  | cell1 hagg ha hin hv =>
    have hb := hsat.l _ (hin.mem (List.mem_singleton.2 rfl))
    have hc := k_a2 hb hv
    simp [resOne, hs.val, ha, asAddr, loadVar, hagg, hc]
  | cellA hagg hsz ha hin hl hn =>
    have hb := hsat.l _ (hin.mem (List.mem_singleton.2 rfl))
    have hl2 := run_loadCells_list (P := P) w _ _ (fun j u hj => by rw [Addr.add_lit]; exact k_a2 hb (by simpa using take_drop_get hl hj))
    rw [hn] at hl2
    simp [resOne, hs.val, ha, asAddr, loadVar, hagg, hsz, hl2]
  | cell1H hagg ha hin hv =>
    have hc := k_a2 (hsat.h _ _ hin) hv
    simp [resOne, hs.val, ha, asAddr, loadVar, hagg, hc]
  | cellAH hagg hsz ha hin hl hn =>
    have hb := hsat.h _ _ hin
    have hl2 := run_loadCells_list (P := P) w _ _ (fun j u hj => by rw [Addr.add_lit]; exact k_a2 hb (by simpa using take_drop_get hl hj))
    rw [hn] at hl2
    simp [resOne, hs.val, ha, asAddr, loadVar, hagg, hsz, hl2]
section
variable {P : Program} {fn : Func} {N : Nat} {post : Value → Heap → Own → Prop} {σ : Env} {H : Heap} {L : Own} {ds : List Nat} {r r' r'' : ResultVar} {v v' v'' : Value}
theorem finR1 (L' : Own) (hr : fn.results = #[r]) (h1 : ResAt P σ H L r v) (hL : List.Sublist L' L) (h : post v H L') : fnPost P fn N post .ret σ H L ds :=
  ⟨v, L', hL, fun tmps w hs hsat => by
    rw [results_eq, hr]
    simp [h1.run hs hsat], h⟩
theorem finR2 (L' : Own) (hr : fn.results = #[r, r']) (h1 : ResAt P σ H L r v) (h2 : ResAt P σ H L r' v') (hL : List.Sublist L' L) (h : post (.tuple #[v, v']) H L') : fnPost P fn N post .ret σ H L ds :=
  ⟨_, L', hL, fun tmps w hs hsat => by
    rw [results_eq, hr]
    simp [h1.run hs hsat, h2.run hs hsat], h⟩
end
end Go.SX
namespace Go.SX
theorem k_6 {α : Type} {xs : List α} {k : Nat} {z : α} (h : k < xs.length) : xs[k]? = some (xs.getD k z) := by
  rw [List.getD_eq_getElem?_getD, List.getElem?_eq_getElem h]; rfl
end Go.SX
namespace Go.SX
open Go
/-- v[:i:m] of a row of one's own. -/
theorem OwnS.takeM {α : Type} {E : ER α} {e : TypeId} {H : Heap} {A : Option Addr} {n cap : Nat} {xs : List α} {c : Chunk} (h : OwnS E e H (.slice A n cap) xs c) {i m : Nat} (hi : i ≤ xs.length) (h1 : i ≤ m) (h2 : m ≤ cap) : OwnS E e H (slcV (.slice A n cap) 0 i m E.size) (xs.take i) c := by
  have hlen : (xs.take i).length = i := by rw [List.length_take]; omega
  rcases h with ⟨hv, rfl, rfl⟩ | ⟨b, cap', cs, hv, rfl, h3, h4, h5, h6⟩
  · cases hv
    have hi0 : i = 0 := by simpa using hi
    have hm0 : m = 0 := by omega
    subst hi0 hm0
    exact .inl ⟨by simp [slcV], by simp, rfl⟩
  · cases hv
    refine .inr ⟨b, m, cs, by simp only [slcV, Nat.zero_mul]; rw [hlen]; split <;> simp [Addr.add], rfl, by rw [hlen]; omega, by omega, Nat.le_trans (Nat.mul_le_mul_right _ h2) h5, fun k y hy => ?_⟩
    rw [List.getElem?_take] at hy
    split at hy
    · exact h6 k y hy
    · cases hy
end Go.SX

set_option linter.unusedVariables false
set_option linter.unusedSimpArgs false
namespace Go.SX
open Go
attribute [local semireducible] T TL
section
variable {fr : Fr} {x : Cx} {Q : Post} {σ : Env} {H : Heap} {L : Own} {ds : List Nat} {ol rest : List Oper}
variable {d : Nat} {ty : TypeId} {p : String} {af : Array Edge} {g : Option (Nat × Bool)}
/-- A call that reads all that is owned here, and leaves it owned. -/
theorem TL.callB {F : Operand} {ag : List Operand} {ats : Array TypeId} {fv : Value} {vs : List Value} {post : Value → Own → Prop} (hw : wan fr.N ol σ d g = true)
    (hf : ev σ F = fv) (ha : ag.map (ev σ) = vs) (hc : ∀ H', HLe H H' → (∀ q ∈ L.flatten, H' q.1 = some q.2) → Fc fr.P fv vs H' [] (fun v _ L' => post v L'))
    (h : ∀ v L', post v L' → TL fr x ol rest Q (upd σ d v) H (L' ++ L) ds) :
    TL fr x ol (⟨some d, .call { callee := .value F, args := ag.toArray, argTypes := ats }, ty, p, af, g⟩ :: rest) Q σ H L ds := by
  intro a w hs hd hst
  obtain ⟨hdN, hwn⟩ := wan_lt hw
  obtain ⟨H2, hle, hq, hst2⟩ := St.shut (L := [L.flatten]) (R := []) (c := L.flatten) (hd := hid fr.rd ds) (by simpa using hst) .hd
  have hsub : Sat H2 [] w := hst2.sat.sub (List.nil_sublist _)
  obtain ⟨nx, w1, hrun, hnx⟩ := hc H2 hle hq w hsub
  unfold wpLo
  rw [if_pos (k_cf hs hwn)]
  refine ⟨fun f _ => fenceFn _ f, ?_⟩
  rw [semAt_of rfl, hs.eval]
  simp only [execOp]
  rw [resolve_value, hf, ha, hrun]
  have fin : ∀ (e : Ending) w', (∃ v H' L', e = .returned v ∧ St ⟨w, H2, List.flatten []⟩ H' (List.flatten L') w' ∧ post v L') →
      (match e with
        | .returned v => wpLo (fence fr.rd) fr.P ol.toArray (lift fr x Q) rest (a.put (some d) v) w'
        | .panicked chain => lift fr x Q (.panic chain) a w'
        | .outgrown => LetsOut (lift fr x Q)) := by
    rintro e w' ⟨v, H', L', rfl, h2, h3⟩
    have k2 : St ⟨w, H, []⟩ H (List.flatten L') w' := ⟨h2.sat.weak (hle.trans h2.le), h2.chg, HLe.refl _, (fun b o h4 h5 => by have h6 : H b = none := h5; rw [h6] at h4; cases h4), h2.ln⟩
    have hj : St x H (L'.flatten ++ (L.flatten ++ hid fr.rd ds)) w' := St.join (Lp := []) hst k2
    rw [← List.append_assoc, ← List.flatten_append] at hj
    exact h v L' h3 _ w' (hs.putA d v hdN) hd hj
  cases nx with
  | enter f ag' => exact ⟨(fun h => by cases h), CallsIn.mono (calls_fence hnx) (fun e w' q => by have := fin e w' q; cases e <;> exact this)⟩
  | round l fn tmps ag' body => exact ⟨(fun h => by cases h), RoundIn.mono (round_fence hnx) (fun e w' q => by have := fin e w' q; cases e <;> exact this)⟩
  | _ => exact hnx.elim
theorem R.callvB {F : Operand} {ag : List Operand} {ats : Array TypeId} {fv : Value} {vs : List Value} {v : Value} (hw : wan fr.N ol σ d g = true)
    (hf : ev σ F = fv) (ha : ag.map (ev σ) = vs) (hc : ∀ H', HLe H H' → (∀ q ∈ L.flatten, H' q.1 = some q.2) → Fv fr.P fv vs H' v) (h : TL fr x ol rest Q (upd σ d v) H L ds) :
    TL fr x ol (⟨some d, .call { callee := .value F, args := ag.toArray, argTypes := ats }, ty, p, af, g⟩ :: rest) Q σ H L ds :=
  TL.callB (post := fun v' L' => L' = [] ∧ v' = v) hw hf ha (fun H' h1 h2 => hc H' h1 h2) (fun v' L' ⟨h1, h2⟩ => by subst h1; subst h2; exact h)
/-- An element's relation that asks no heap. -/
def ER.Flat {α : Type} (E : ER α) : Prop := ∀ H H' l x, E.R H l x → E.R H' l x
/-- A chunk among those that are owned can be read where all of them can. -/
theorem In.all {c : Chunk} (h : In L c) {H' : Heap} (hq : ∀ q ∈ L.flatten, H' q.1 = some q.2) : ∀ q ∈ c, H' q.1 = some q.2 := fun q k => hq q (h.mem k)
/-- copy, with a result. -/
theorem R.copyD {α : Type} {E : ER α} {bytes : Nat} {t t2 e : TypeId} {S X : Operand} {v xv : Value} {xs ys : List α} {ch : Chunk} {R : Own} {cells : List Value} (hty : TyE fr.P t e E bytes) (hw : wan fr.N ol σ d g = true)
    (hs : ev σ S = v) (hx : ev σ X = xv) (hown : OwnS E e H v xs ch) (hdel : Del L ch R) (hsrc : Src H L xv ys.length cells) (hys : CellsOf E H cells ys) (hlen : ys.length = xs.length)
    (hk : ∀ c', OwnS E e H v ys c' → TL fr x ol rest Q (upd σ d (.int .i64 xs.length)) H (c' :: R) ds) :
    TL fr x ol (⟨some d, .call { callee := .builtin .copy, args := #[S, X], argTypes := #[t, t2] }, ty, p, af, g⟩ :: rest) Q σ H L ds :=
  Go.SX.R.copy (dd := some d) hty (wan_lt hw).2 (fun q h => by cases h; exact (wan_lt hw).1) hs hx hown hdel hsrc hys hlen hk
end
end Go.SX
namespace Go.SX
theorem or_f {p : Prop} [Decidable p] {b : Bool} : ((if p then true else b) = false) ↔ (¬p ∧ b = false) := by by_cases h : p <;> simp [h]
theorem or_t {p : Prop} [Decidable p] {b : Bool} : ((if p then true else b) = true) ↔ (p ∨ b = true) := by by_cases h : p <;> simp [h]
theorem k_c0 {p : Prop} [Decidable p] {b : Bool} : ((if p then b else false) = true) ↔ (p ∧ b = true) := by by_cases h : p <;> simp [h]
theorem k_bf {p : Prop} [Decidable p] {b : Bool} : ((if p then b else false) = false) ↔ (¬p ∨ b = false) := by by_cases h : p <;> simp [h]
end Go.SX

set_option linter.unusedVariables false
set_option linter.unusedSimpArgs false
namespace Go.SX
open Go Go.Proofs
theorem k_b3 : TyE Tryz.prog 30 43 (intE .u64) 8 := TyE.mk' (z := .int .u64 0) Tryz.underlying30 (by kernel_rfl) rfl (by decide)

set_option maxHeartbeats 1600000 in
theorem clone25_c (H : Heap) (v : Value) (xs : List (Int)) (hr : RdS (intE .i64) H v xs) (hl : xs.length ≤ 4000000) : Fc Tryz.prog (fnv 26) [v] H [] (fun v' H' L' => ∃ c, L' = [c] ∧ OwnS (intE .i64) 3 H' v' xs c) := by
 refine Fc.of_body (N := 8) Tryz.func26 rfl kA rfl rfl ?_
 intro w0
 obtain ⟨A, c, rfl, hc1, hc2, hr⟩ := hr.shape
 refine sR ?_
 refine R.asE rfl cA ?_
 refine nN ?_
 refine T.seq ?_
 refine sR ?_
 refine R.mvE rfl cA ?_
 refine R.nilS Tryz.underlying25 rfl rfl rfl ?_
 refine nN ?_
 refine T.cond rfl (fun c4 => ?_) (fun c4 => ?_)
 ·refine T.seq ?_
  refine T.nilc ?_
  refine T.region ?_
  refine R.asE rfl cA ?_
  refine nN ?_
  refine T.ret (Post.thnR ?_)
  -- way y
  exact fin1L [[]] rfl rfl (List.Sublist.refl _) ⟨_, rfl, .inl ⟨rfl, RdS.none_nil (by cases A with | none => exact hr | some _ => cases c4), rfl⟩⟩
 refine T.skip (Post.thnN ?_)
 refine sR ?_
 refine R.bs0 (E := (intE .i64)) rfl Tryz.underlying25 Tryz.sizeOf3 ?_
 intro v5 c5 w5
 refine R.mvE rfl cA ?_
 obtain ⟨cs7, y7, r7⟩ := Src.rd (L := [c5]) hr
 refine R.app Tryz_ty25 rfl rfl rfl w5 .hd r7 y7 (by simp; omega) (by simp; omega) ?_
 intro v7 c7 w7
 rw [List.nil_append] at w7
 refine R.asE rfl cA ?_
 refine nN ?_
 refine T.ret ?_
 -- way n
 exact fin1L [c7] rfl rfl (List.Sublist.refl _) ⟨_, rfl, w7⟩
set_option maxHeartbeats 1600000 in
theorem clone30_c (H : Heap) (v : Value) (xs : List (Int)) (hr : RdS (intE .u64) H v xs) (hl : xs.length ≤ 4000000) : Fc Tryz.prog (fnv 31) [v] H [] (fun v' H' L' => ∃ c, L' = [c] ∧ OwnS (intE .u64) 43 H' v' xs c) := by
 refine Fc.of_body (N := 8) Tryz.func31 rfl kA rfl rfl ?_
 intro w0
 obtain ⟨A, c, rfl, hc1, hc2, hr⟩ := hr.shape
 refine sR ?_
 refine R.asE rfl cA ?_
 refine nN ?_
 refine T.seq ?_
 refine sR ?_
 refine R.mvE rfl cA ?_
 refine R.nilS Tryz.underlying30 rfl rfl rfl ?_
 refine nN ?_
 refine T.cond rfl (fun c4 => ?_) (fun c4 => ?_)
 ·refine T.seq ?_
  refine T.nilc ?_
  refine T.region ?_
  refine R.asE rfl cA ?_
  refine nN ?_
  refine T.ret (Post.thnR ?_)
  -- way y
  exact fin1L [[]] rfl rfl (List.Sublist.refl _) ⟨_, rfl, .inl ⟨rfl, RdS.none_nil (by cases A with | none => exact hr | some _ => cases c4), rfl⟩⟩
 refine T.skip (Post.thnN ?_)
 refine sR ?_
 refine R.bs0 (E := (intE .u64)) rfl Tryz.underlying30 Tryz.sizeOf43 ?_
 intro v5 c5 w5
 refine R.mvE rfl cA ?_
 obtain ⟨cs7, y7, r7⟩ := Src.rd (L := [c5]) hr
 refine R.app k_b3 rfl rfl rfl w5 .hd r7 y7 (by simp; omega) (by simp; omega) ?_
 intro v7 c7 w7
 rw [List.nil_append] at w7
 refine R.asE rfl cA ?_
 refine nN ?_
 refine T.ret ?_
 -- way n
 exact fin1L [c7] rfl rfl (List.Sublist.refl _) ⟨_, rfl, w7⟩
def k_77 (a1 : List Int) : List Int → Nat → Unit → LR (Bool) (Unit)
  | [], kl1, sl1 => .go ()
  | yl1 :: ysl1, kl1, sl1 => if yl1 ≠ (a1.getD kl1 (0 : Int)) then (.ret false) else (k_77 a1 ysl1 (kl1 + 1) ())
def k_96 (a0 : List Int) (a1 : List Int) : Bool :=
  if (a0.length : Int) ≠ (a1.length : Int) then false else (LR.on (k_77 a1 a0 0 ()) (fun r => r) (fun ol1 => true))
set_option maxHeartbeats 3200000 in
theorem slices_Equal_Id_c (H : Heap) (va0 : Value) (a0 : List Int) (ha0 : RdS (intE .u64) H va0 a0) (va1 : Value) (a1 : List Int) (ha1 : RdS (intE .u64) H va1 a1) : Fv Tryz.prog (fnv 19) [va0, va1] H (.bool (k_96 a0 a1)) := by
 refine Fc.of_body (N := 26) Tryz.func19 rfl kA rfl rfl ?_
 intro w0
 obtain ⟨Aa0, ca0, rfl, hca0, hda0, ha0⟩ := ha0.shape
 obtain ⟨Aa1, ca1, rfl, hca1, hda1, ha1⟩ := ha1.shape
 refine sR ?_
 refine R.asE rfl cA ?_
 refine nN ?_
 refine T.seq ?_
 refine sR ?_
 refine R.mvE rfl cA ?_
 refine R.len Tryz.underlying30 rfl rfl ?_
 refine R.mvE rfl cA ?_
 refine R.len Tryz.underlying30 rfl rfl ?_
 refine R.neq rfl rfl rfl ?_
 refine nN ?_
 refine T.condD rfl (fun c10 => ?_) (fun c10 => ?_)
 ·refine T.set 10 (.bool true) (congrArg Value.bool (decide_eq_true c10)) ?_
  refine sR ?_
  refine R.asE rfl cA ?_
  refine nN ?_
  refine T.has Has.nil ?_
  refine T.ret (Post.thnR ?_)
  have hM : k_96 a0 a1 = false := by rw [k_96, if_pos c10]
  exact fin1L (v := .bool false) [] rfl rfl (List.Sublist.refl _) ⟨rfl, by first | rw [hM] | rfl⟩
 refine T.set 10 (.bool false) (congrArg Value.bool (decide_eq_false c10)) ?_
 refine T.skip (Post.thnN ?_)
 refine T.seq ?_
 refine sR ?_
 refine R.mvE rfl cA ?_
 refine R.len Tryz.underlying30 rfl rfl ?_
 refine R.mvE rfl cA ?_
 refine nN ?_
 refine T.block ?_
 refine T.loop (ι := Nat) (fun kl1 H' L' ds' => kl1 ≤ a0.length ∧ Has L' [] ∧ k_77 a1 (a0.drop kl1) kl1 () = k_77 a1 a0 0 ()) (fun kl1 => [(13, .int .i64 (kl1 : Int)), (0, .slice Aa0 a0.length ca0), (1, .slice Aa1 a1.length ca1), (12, .int .i64 (a0.length : Int))]) (fun kl1 => a0.length - kl1) 0 ?_ ?_ ?_
 ·exact ⟨oA, Has.nil, (by rfl)⟩
 ·exact ⟨rfl, rfl, rfl, rfl, trivial⟩
 intro kl1 σ_l1 H_l1 L_l1 ds_l1 s_l1 hI_l1
 obtain ⟨hkl1, hI_l1⟩ := hI_l1
 obtain ⟨hLl1, hQl1⟩ := hI_l1
 refine T.has hLl1 ?_
 refine sR ?_
 refine R.lss rfl rfl rfl ?_
 refine nN ?_
 refine T.seq ?_
 refine T.condD rfl (fun c14 => ?_) (fun c14 => ?_)
 ·have hltl1 : kl1 < a0.length := by omega
  obtain ⟨yl1, hyl1⟩ := getk (xs := a0) (k := kl1) oA
  refine T.skip (Post.thnN ?_)
  refine T.seq ?_
  refine T.block ?_
  refine sR ?_
  refine R.mvE rfl cA ?_
  refine R.asE rfl cA ?_
  refine nN ?_
  refine T.seq ?_
  refine T.draw k_2b kA ?_
  refine vM 0 [1, 2, 3, 4, 5, 6, 7, 8] rfl rfl cA ?_
  refine vM 1 [2, 3, 4, 5, 6, 7, 8] rfl rfl cA ?_
  obtain ⟨b18, o18, i18, k18⟩ := RdS.elem (ha0.mono s_l1) hyl1
  obtain ⟨l18, g18, k18⟩ := k18
  obtain rfl : l18 = [.int .u64 yl1] := g18
  refine vA 2 [3, 4, 5, 6, 7, 8] rfl (fun _ _ h_ => R.ixp Tryz.underlying30 Tryz.sizeOf43 rfl rfl rfl oA i18 (TL.nil h_)) ?_
  refine vA 3 [4, 5, 6, 7, 8] rfl (fun _ _ h_ => R.ldC Tryz.isAgg43 rfl rfl (k18 0 _ rfl) (TL.nil h_)) ?_
  refine vM 4 [5, 6, 7, 8] rfl rfl cA ?_
  refine vM 5 [6, 7, 8] rfl rfl cA ?_
  have hl22 : kl1 < a1.length := bA
  obtain ⟨y22, e22, h22⟩ : ∃ y, y = (a1.getD kl1 (0 : Int)) ∧ a1[kl1]? = some y := ⟨_, rfl, k_6 (by first | exact hl22 | simpa using hl22 | (simp only [List.length_set]; omega) | omega | (rw [(k_1 _).length_eq]; exact hl22))⟩
  obtain ⟨b22, o22, i22, k22⟩ := RdS.elem (ha1.mono s_l1) h22
  obtain ⟨l22, g22, k22⟩ := k22
  obtain rfl : l22 = [.int .u64 y22] := g22
  refine vA 6 [7, 8] rfl (fun _ _ h_ => R.ixp Tryz.underlying30 Tryz.sizeOf43 rfl rfl rfl bA i22 (TL.nil h_)) ?_
  refine vA 7 [8] rfl (fun _ _ h_ => R.ldC Tryz.isAgg43 rfl rfl (k22 0 _ rfl) (TL.nil h_)) ?_
  refine vA 8 [] rfl (fun _ _ h_ => R.neq rfl rfl rfl (TL.nil h_)) ?_
  refine Plan.done (Post.thnN ?_)
  refine T.condD rfl (fun c24 => ?_) (fun c24 => ?_)
  ·refine T.set 24 (.bool true) (congrArg Value.bool (decide_eq_true c24)) ?_
   refine sR ?_
   refine R.asE rfl cA ?_
   refine nN ?_
   refine T.has Has.nil ?_
   refine T.ret (Post.blkR (Post.thnR (Post.thnR (Post.blkR (Post.thnR ?_)))))
   have hXl1 : k_77 a1 a0 0 () = .ret false := by subst e22; rw [← hQl1, k_16 hyl1, k_77]; rw [if_pos c24]
   have hM : k_96 a0 a1 = false := by rw [k_96, if_neg c10, hXl1, LR.on_ret]
   exact fin1L (v := .bool false) [] rfl rfl (List.Sublist.refl _) ⟨rfl, by first | rw [hM] | rfl⟩
  refine T.set 24 (.bool false) (congrArg Value.bool (decide_eq_false c24)) ?_
  refine T.skip (Post.blkN ?_)
  refine id (Post.thnN ?_)
  refine T.region ?_
  refine R.addI rfl rfl rfl oA ?_
  refine R.mvE rfl cA ?_
  refine nN ?_
  exact ⟨kl1 + 1, s_l1, ⟨oA, Has.nil, (by subst e22; rw [← hQl1, k_16 hyl1, k_77]; rw [if_neg c24])⟩, by show a0.length - (kl1 + 1) < a0.length - kl1; omega, rfl, rfl, rfl, rfl, trivial⟩
 refine T.exit (Post.thnE (Post.thnE (Post.blkX ?_)))
 have hEl1 : k_77 a1 a0 0 () = .go () := (hQl1.symm.trans (by rw [show kl1 = a0.length by omega, List.drop_length, k_77]))
 refine id (Post.thnN ?_)
 refine sR ?_
 refine R.asE rfl cA ?_
 refine nN ?_
 refine T.has Has.nil ?_
 refine T.ret ?_
 have hM : k_96 a0 a1 = true := by rw [k_96, if_neg c10, hEl1, LR.on_go]
 exact fin1L (v := .bool true) [] rfl rfl (List.Sublist.refl _) ⟨rfl, by first | rw [hM] | rfl⟩
theorem slices_Equal_Id_go (b : List (Int)) : ∀ (a : List (Int)) (k : Nat), k + a.length = b.length → k_77 b a k () = if a = b.drop k then .go () else .ret false
  | [], k, h => by
    have : b.drop k = [] := List.drop_eq_nil_iff.2 (by simp at h; omega)
    rw [k_77, this, if_pos rfl]
  | y :: ys, k, h => by
    have hk : k < b.length := by simp at h; omega
    rw [k_77, List.drop_eq_getElem_cons hk]
    have hg : b.getD k (0 : Int) = b[k] := by rw [List.getD_eq_getElem?_getD, List.getElem?_eq_getElem hk]; rfl
    rw [hg]
    by_cases e : y = b[k]
    · rw [if_neg (fun h => h e), slices_Equal_Id_go b ys (k + 1) (by simp at h; omega)]
      subst e
      by_cases e2 : ys = b.drop (k + 1)
      · rw [if_pos e2, if_pos (by rw [← e2])]
      · rw [if_neg e2, if_neg (fun h => e2 (List.cons.inj h).2)]
    · rw [if_pos e, if_neg (fun h => e (List.cons.inj h).1)]
theorem slices_Equal_Id_eq (a b : List (Int)) : k_96 a b = decide (a = b) := by
  unfold k_96
  by_cases h : a.length = b.length
  · rw [if_neg (by omega), slices_Equal_Id_go b a 0 (by omega), List.drop_zero]
    by_cases e : a = b
    · rw [if_pos e, LR.on_go, decide_eq_true e]
    · rw [if_neg e, LR.on_ret, decide_eq_false e]
  · rw [if_pos (by omega), decide_eq_false (fun e => h (by rw [e]))]
theorem k_be (H : Heap) (v : Value) (a : List (Int)) (h : RdS (intE .u64) H v a) (u : Value) (b : List (Int)) (k : RdS (intE .u64) H u b) : Fv Tryz.prog (fnv 19) [v, u] H (.bool (decide (a = b))) := Fv.to (slices_Equal_Id_c H v a h u b k) (congrArg Value.bool (slices_Equal_Id_eq a b))
def k_6e (a1 : List Int) : List Int → Nat → Unit → LR (Bool) (Unit)
  | [], kl1, sl1 => .go ()
  | yl1 :: ysl1, kl1, sl1 => if yl1 ≠ (a1.getD kl1 (0 : Int)) then (.ret false) else (k_6e a1 ysl1 (kl1 + 1) ())
def k_94 (a0 : List Int) (a1 : List Int) : Bool :=
  if (a0.length : Int) ≠ (a1.length : Int) then false else (LR.on (k_6e a1 a0 0 ()) (fun r => r) (fun ol1 => true))
set_option maxHeartbeats 3200000 in
theorem slices_Equal_int_c (H : Heap) (va0 : Value) (a0 : List Int) (ha0 : RdS (intE .i64) H va0 a0) (va1 : Value) (a1 : List Int) (ha1 : RdS (intE .i64) H va1 a1) : Fv Tryz.prog (fnv 23) [va0, va1] H (.bool (k_94 a0 a1)) := by
 refine Fc.of_body (N := 26) Tryz.func23 rfl kA rfl rfl ?_
 intro w0
 obtain ⟨Aa0, ca0, rfl, hca0, hda0, ha0⟩ := ha0.shape
 obtain ⟨Aa1, ca1, rfl, hca1, hda1, ha1⟩ := ha1.shape
 refine sR ?_
 refine R.asE rfl cA ?_
 refine nN ?_
 refine T.seq ?_
 refine sR ?_
 refine R.mvE rfl cA ?_
 refine R.len Tryz.underlying25 rfl rfl ?_
 refine R.mvE rfl cA ?_
 refine R.len Tryz.underlying25 rfl rfl ?_
 refine R.neq rfl rfl rfl ?_
 refine nN ?_
 refine T.condD rfl (fun c10 => ?_) (fun c10 => ?_)
 ·refine T.set 10 (.bool true) (congrArg Value.bool (decide_eq_true c10)) ?_
  refine sR ?_
  refine R.asE rfl cA ?_
  refine nN ?_
  refine T.has Has.nil ?_
  refine T.ret (Post.thnR ?_)
  have hM : k_94 a0 a1 = false := by rw [k_94, if_pos c10]
  exact fin1L (v := .bool false) [] rfl rfl (List.Sublist.refl _) ⟨rfl, by first | rw [hM] | rfl⟩
 refine T.set 10 (.bool false) (congrArg Value.bool (decide_eq_false c10)) ?_
 refine T.skip (Post.thnN ?_)
 refine T.seq ?_
 refine sR ?_
 refine R.mvE rfl cA ?_
 refine R.len Tryz.underlying25 rfl rfl ?_
 refine R.mvE rfl cA ?_
 refine nN ?_
 refine T.block ?_
 refine T.loop (ι := Nat) (fun kl1 H' L' ds' => kl1 ≤ a0.length ∧ Has L' [] ∧ k_6e a1 (a0.drop kl1) kl1 () = k_6e a1 a0 0 ()) (fun kl1 => [(13, .int .i64 (kl1 : Int)), (0, .slice Aa0 a0.length ca0), (1, .slice Aa1 a1.length ca1), (12, .int .i64 (a0.length : Int))]) (fun kl1 => a0.length - kl1) 0 ?_ ?_ ?_
 ·exact ⟨oA, Has.nil, (by rfl)⟩
 ·exact ⟨rfl, rfl, rfl, rfl, trivial⟩
 intro kl1 σ_l1 H_l1 L_l1 ds_l1 s_l1 hI_l1
 obtain ⟨hkl1, hI_l1⟩ := hI_l1
 obtain ⟨hLl1, hQl1⟩ := hI_l1
 refine T.has hLl1 ?_
 refine sR ?_
 refine R.lss rfl rfl rfl ?_
 refine nN ?_
 refine T.seq ?_
 refine T.condD rfl (fun c14 => ?_) (fun c14 => ?_)
 ·have hltl1 : kl1 < a0.length := by omega
  obtain ⟨yl1, hyl1⟩ := getk (xs := a0) (k := kl1) oA
  refine T.skip (Post.thnN ?_)
  refine T.seq ?_
  refine T.block ?_
  refine sR ?_
  refine R.mvE rfl cA ?_
  refine R.asE rfl cA ?_
  refine nN ?_
  refine T.seq ?_
  refine T.draw k_2b kA ?_
  refine vM 0 [1, 2, 3, 4, 5, 6, 7, 8] rfl rfl cA ?_
  refine vM 1 [2, 3, 4, 5, 6, 7, 8] rfl rfl cA ?_
  obtain ⟨b18, o18, i18, k18⟩ := RdS.elem (ha0.mono s_l1) hyl1
  obtain ⟨l18, g18, k18⟩ := k18
  obtain rfl : l18 = [.int .i64 yl1] := g18
  refine vA 2 [3, 4, 5, 6, 7, 8] rfl (fun _ _ h_ => R.ixp Tryz.underlying25 Tryz.sizeOf3 rfl rfl rfl oA i18 (TL.nil h_)) ?_
  refine vA 3 [4, 5, 6, 7, 8] rfl (fun _ _ h_ => R.ldC Tryz.isAgg3 rfl rfl (k18 0 _ rfl) (TL.nil h_)) ?_
  refine vM 4 [5, 6, 7, 8] rfl rfl cA ?_
  refine vM 5 [6, 7, 8] rfl rfl cA ?_
  have hl22 : kl1 < a1.length := bA
  obtain ⟨y22, e22, h22⟩ : ∃ y, y = (a1.getD kl1 (0 : Int)) ∧ a1[kl1]? = some y := ⟨_, rfl, k_6 (by first | exact hl22 | simpa using hl22 | (simp only [List.length_set]; omega) | omega | (rw [(k_1 _).length_eq]; exact hl22))⟩
  obtain ⟨b22, o22, i22, k22⟩ := RdS.elem (ha1.mono s_l1) h22
  obtain ⟨l22, g22, k22⟩ := k22
  obtain rfl : l22 = [.int .i64 y22] := g22
  refine vA 6 [7, 8] rfl (fun _ _ h_ => R.ixp Tryz.underlying25 Tryz.sizeOf3 rfl rfl rfl bA i22 (TL.nil h_)) ?_
  refine vA 7 [8] rfl (fun _ _ h_ => R.ldC Tryz.isAgg3 rfl rfl (k22 0 _ rfl) (TL.nil h_)) ?_
  refine vA 8 [] rfl (fun _ _ h_ => R.neq rfl rfl rfl (TL.nil h_)) ?_
  refine Plan.done (Post.thnN ?_)
  refine T.condD rfl (fun c24 => ?_) (fun c24 => ?_)
  ·refine T.set 24 (.bool true) (congrArg Value.bool (decide_eq_true c24)) ?_
   refine sR ?_
   refine R.asE rfl cA ?_
   refine nN ?_
   refine T.has Has.nil ?_
   refine T.ret (Post.blkR (Post.thnR (Post.thnR (Post.blkR (Post.thnR ?_)))))
   have hXl1 : k_6e a1 a0 0 () = .ret false := by subst e22; rw [← hQl1, k_16 hyl1, k_6e]; rw [if_pos c24]
   have hM : k_94 a0 a1 = false := by rw [k_94, if_neg c10, hXl1, LR.on_ret]
   exact fin1L (v := .bool false) [] rfl rfl (List.Sublist.refl _) ⟨rfl, by first | rw [hM] | rfl⟩
  refine T.set 24 (.bool false) (congrArg Value.bool (decide_eq_false c24)) ?_
  refine T.skip (Post.blkN ?_)
  refine id (Post.thnN ?_)
  refine T.region ?_
  refine R.addI rfl rfl rfl oA ?_
  refine R.mvE rfl cA ?_
  refine nN ?_
  exact ⟨kl1 + 1, s_l1, ⟨oA, Has.nil, (by subst e22; rw [← hQl1, k_16 hyl1, k_6e]; rw [if_neg c24])⟩, by show a0.length - (kl1 + 1) < a0.length - kl1; omega, rfl, rfl, rfl, rfl, trivial⟩
 refine T.exit (Post.thnE (Post.thnE (Post.blkX ?_)))
 have hEl1 : k_6e a1 a0 0 () = .go () := (hQl1.symm.trans (by rw [show kl1 = a0.length by omega, List.drop_length, k_6e]))
 refine id (Post.thnN ?_)
 refine sR ?_
 refine R.asE rfl cA ?_
 refine nN ?_
 refine T.has Has.nil ?_
 refine T.ret ?_
 have hM : k_94 a0 a1 = true := by rw [k_94, if_neg c10, hEl1, LR.on_go]
 exact fin1L (v := .bool true) [] rfl rfl (List.Sublist.refl _) ⟨rfl, by first | rw [hM] | rfl⟩
theorem slices_Equal_int_go (b : List (Int)) : ∀ (a : List (Int)) (k : Nat), k + a.length = b.length → k_6e b a k () = if a = b.drop k then .go () else .ret false
  | [], k, h => by
    have : b.drop k = [] := List.drop_eq_nil_iff.2 (by simp at h; omega)
    rw [k_6e, this, if_pos rfl]
  | y :: ys, k, h => by
    have hk : k < b.length := by simp at h; omega
    rw [k_6e, List.drop_eq_getElem_cons hk]
    have hg : b.getD k (0 : Int) = b[k] := by rw [List.getD_eq_getElem?_getD, List.getElem?_eq_getElem hk]; rfl
    rw [hg]
    by_cases e : y = b[k]
    · rw [if_neg (fun h => h e), slices_Equal_int_go b ys (k + 1) (by simp at h; omega)]
      subst e
      by_cases e2 : ys = b.drop (k + 1)
      · rw [if_pos e2, if_pos (by rw [← e2])]
      · rw [if_neg e2, if_neg (fun h => e2 (List.cons.inj h).2)]
    · rw [if_pos e, if_neg (fun h => e (List.cons.inj h).1)]
theorem slices_Equal_int_eq (a b : List (Int)) : k_94 a b = decide (a = b) := by
  unfold k_94
  by_cases h : a.length = b.length
  · rw [if_neg (by omega), slices_Equal_int_go b a 0 (by omega), List.drop_zero]
    by_cases e : a = b
    · rw [if_pos e, LR.on_go, decide_eq_true e]
    · rw [if_neg e, LR.on_ret, decide_eq_false e]
  · rw [if_pos (by omega), decide_eq_false (fun e => h (by rw [e]))]
theorem k_ad (H : Heap) (v : Value) (a : List (Int)) (h : RdS (intE .i64) H v a) (u : Value) (b : List (Int)) (k : RdS (intE .i64) H u b) : Fv Tryz.prog (fnv 23) [v, u] H (.bool (decide (a = b))) := Fv.to (slices_Equal_int_c H v a h u b k) (congrArg Value.bool (slices_Equal_int_eq a b))
def k_6c (a1 : Int) : List Int → Nat → Unit → LR (Int) (Unit)
  | [], kl1, sl1 => .go ()
  | yl1 :: ysl1, kl1, sl1 => if a1 = yl1 then (.ret ((kl1 : Int))) else (k_6c a1 ysl1 (kl1 + 1) ())
def k_85 (a0 : List Int) (a1 : Int) : Int :=
  LR.on (k_6c a1 a0 0 ()) (fun r => r) (fun ol1 => (-1))
set_option maxHeartbeats 3200000 in
theorem slices_Index_int_c (H : Heap) (va0 : Value) (a0 : List Int) (ha0 : RdS (intE .i64) H va0 a0) (a1 : Int) : Fv Tryz.prog (fnv 86) [va0, .int .i64 a1] H (.int .i64 (k_85 a0 a1)) := by
 refine Fc.of_body (N := 19) Tryz.func86 rfl kA rfl rfl ?_
 intro w0
 obtain ⟨Aa0, ca0, rfl, hca0, hda0, ha0⟩ := ha0.shape
 refine sR ?_
 refine R.asE rfl cA ?_
 refine nN ?_
 refine T.seq ?_
 refine sR ?_
 refine R.mvE rfl cA ?_
 refine R.len Tryz.underlying25 rfl rfl ?_
 refine R.mvE rfl cA ?_
 refine nN ?_
 refine T.block ?_
 refine T.loop (ι := Nat) (fun kl1 H' L' ds' => kl1 ≤ a0.length ∧ Has L' [] ∧ k_6c a1 (a0.drop kl1) kl1 () = k_6c a1 a0 0 ()) (fun kl1 => [(8, .int .i64 (kl1 : Int)), (0, .slice Aa0 a0.length ca0), (1, .int .i64 a1), (7, .int .i64 (a0.length : Int))]) (fun kl1 => a0.length - kl1) 0 ?_ ?_ ?_
 ·exact ⟨oA, Has.nil, (by rfl)⟩
 ·exact ⟨rfl, rfl, rfl, rfl, trivial⟩
 intro kl1 σ_l1 H_l1 L_l1 ds_l1 s_l1 hI_l1
 obtain ⟨hkl1, hI_l1⟩ := hI_l1
 obtain ⟨hLl1, hQl1⟩ := hI_l1
 refine T.has hLl1 ?_
 refine sR ?_
 refine R.lss rfl rfl rfl ?_
 refine nN ?_
 refine T.seq ?_
 refine T.condD rfl (fun c9 => ?_) (fun c9 => ?_)
 ·have hltl1 : kl1 < a0.length := by omega
  obtain ⟨yl1, hyl1⟩ := getk (xs := a0) (k := kl1) oA
  refine T.skip (Post.thnN ?_)
  refine T.seq ?_
  refine T.block ?_
  refine sR ?_
  refine R.mvE rfl cA ?_
  refine R.asE rfl cA ?_
  refine nN ?_
  refine sR ?_
  refine R.mvE rfl cA ?_
  refine R.mvE rfl cA ?_
  refine R.mvE rfl cA ?_
  obtain ⟨b14, o14, i14, k14⟩ := RdS.elem (ha0.mono s_l1) hyl1
  obtain ⟨l14, g14, k14⟩ := k14
  obtain rfl : l14 = [.int .i64 yl1] := g14
  refine R.ixp Tryz.underlying25 Tryz.sizeOf3 rfl rfl rfl oA i14 ?_
  refine R.ldC Tryz.isAgg3 rfl rfl (k14 0 _ rfl) ?_
  refine R.eql rfl rfl rfl ?_
  refine nN ?_
  refine T.condD rfl (fun c16 => ?_) (fun c16 => ?_)
  ·refine T.set 16 (.bool true) (congrArg Value.bool (decide_eq_true c16)) ?_
   refine sR ?_
   refine R.mvE rfl cA ?_
   refine R.asE rfl cA ?_
   refine nN ?_
   refine T.has Has.nil ?_
   refine T.ret (Post.blkR (Post.thnR (Post.thnR (Post.blkR (Post.thnR ?_)))))
   have hXl1 : k_6c a1 a0 0 () = .ret ((kl1 : Int)) := by rw [← hQl1, k_16 hyl1, k_6c]; rw [if_pos c16]
   have hM : k_85 a0 a1 = (kl1 : Int) := by rw [k_85, hXl1, LR.on_ret]
   exact fin1L (v := .int .i64 (kl1 : Int)) [] rfl rfl (List.Sublist.refl _) ⟨rfl, by first | rw [hM] | rfl⟩
  refine T.set 16 (.bool false) (congrArg Value.bool (decide_eq_false c16)) ?_
  refine T.skip (Post.blkN ?_)
  refine id (Post.thnN ?_)
  refine T.region ?_
  refine R.addI rfl rfl rfl oA ?_
  refine R.mvE rfl cA ?_
  refine nN ?_
  exact ⟨kl1 + 1, s_l1, ⟨oA, Has.nil, (by rw [← hQl1, k_16 hyl1, k_6c]; rw [if_neg c16])⟩, by show a0.length - (kl1 + 1) < a0.length - kl1; omega, rfl, rfl, rfl, rfl, trivial⟩
 refine T.exit (Post.thnE (Post.thnE (Post.blkX ?_)))
 have hEl1 : k_6c a1 a0 0 () = .go () := (hQl1.symm.trans (by rw [show kl1 = a0.length by omega, List.drop_length, k_6c]))
 refine id (Post.thnN ?_)
 refine sR ?_
 refine R.asE rfl cA ?_
 refine nN ?_
 refine T.has Has.nil ?_
 refine T.ret ?_
 have hM : k_85 a0 a1 = (-1) := by rw [k_85, hEl1, LR.on_go]
 exact fin1L (v := .int .i64 (-1)) [] rfl rfl (List.Sublist.refl _) ⟨rfl, by first | rw [hM] | rfl⟩
theorem slices_Index_int_go (x : Int) : ∀ (a : List (Int)) (k : Nat), (∃ j : Nat, k_6c x a k () = .ret (j : Int) ∧ k ≤ j ∧ a[j - k]? = some x) ∨ (k_6c x a k () = .go () ∧ x ∉ a)
  | [], k => .inr ⟨rfl, by simp⟩
  | y :: ys, k => by
    rw [k_6c]
    by_cases e : x = y
    · rw [if_pos e]; exact .inl ⟨k, rfl, Nat.le_refl _, by rw [Nat.sub_self, e]; rfl⟩
    · rw [if_neg e]
      rcases slices_Index_int_go x ys (k + 1) with ⟨j, h1, h2, h3⟩ | ⟨h1, h2⟩
      · exact .inl ⟨j, h1, by omega, by rw [show j - k = (j - (k + 1)) + 1 by omega]; exact h3⟩
      · exact .inr ⟨h1, by simp [e, h2]⟩
theorem slices_Index_int_at (a : List (Int)) (x : Int) : (∃ j : Nat, k_85 a x = (j : Int) ∧ a[j]? = some x) ∨ (k_85 a x = -1 ∧ x ∉ a) := by
  unfold k_85
  rcases slices_Index_int_go x a 0 with ⟨j, h1, h2, h3⟩ | ⟨h1, h2⟩
  · rw [h1, LR.on_ret]; exact .inl ⟨j, rfl, by simpa using h3⟩
  · rw [h1, LR.on_go]; exact .inr ⟨rfl, h2⟩
def k_78 (a1 : Int) : List Int → Nat → Unit → LR (Int) (Unit)
  | [], kl1, sl1 => .go ()
  | yl1 :: ysl1, kl1, sl1 => if a1 = yl1 then (.ret ((kl1 : Int))) else (k_78 a1 ysl1 (kl1 + 1) ())
def k_8d (a0 : List Int) (a1 : Int) : Int :=
  LR.on (k_78 a1 a0 0 ()) (fun r => r) (fun ol1 => (-1))
set_option maxHeartbeats 3200000 in
theorem slices_Index_Id_c (H : Heap) (va0 : Value) (a0 : List Int) (ha0 : RdS (intE .u64) H va0 a0) (a1 : Int) : Fv Tryz.prog (fnv 87) [va0, .int .u64 a1] H (.int .i64 (k_8d a0 a1)) := by
 refine Fc.of_body (N := 19) Tryz.func87 rfl kA rfl rfl ?_
 intro w0
 obtain ⟨Aa0, ca0, rfl, hca0, hda0, ha0⟩ := ha0.shape
 refine sR ?_
 refine R.asE rfl cA ?_
 refine nN ?_
 refine T.seq ?_
 refine sR ?_
 refine R.mvE rfl cA ?_
 refine R.len Tryz.underlying30 rfl rfl ?_
 refine R.mvE rfl cA ?_
 refine nN ?_
 refine T.block ?_
 refine T.loop (ι := Nat) (fun kl1 H' L' ds' => kl1 ≤ a0.length ∧ Has L' [] ∧ k_78 a1 (a0.drop kl1) kl1 () = k_78 a1 a0 0 ()) (fun kl1 => [(8, .int .i64 (kl1 : Int)), (0, .slice Aa0 a0.length ca0), (1, .int .u64 a1), (7, .int .i64 (a0.length : Int))]) (fun kl1 => a0.length - kl1) 0 ?_ ?_ ?_
 ·exact ⟨oA, Has.nil, (by rfl)⟩
 ·exact ⟨rfl, rfl, rfl, rfl, trivial⟩
 intro kl1 σ_l1 H_l1 L_l1 ds_l1 s_l1 hI_l1
 obtain ⟨hkl1, hI_l1⟩ := hI_l1
 obtain ⟨hLl1, hQl1⟩ := hI_l1
 refine T.has hLl1 ?_
 refine sR ?_
 refine R.lss rfl rfl rfl ?_
 refine nN ?_
 refine T.seq ?_
 refine T.condD rfl (fun c9 => ?_) (fun c9 => ?_)
 ·have hltl1 : kl1 < a0.length := by omega
  obtain ⟨yl1, hyl1⟩ := getk (xs := a0) (k := kl1) oA
  refine T.skip (Post.thnN ?_)
  refine T.seq ?_
  refine T.block ?_
  refine sR ?_
  refine R.mvE rfl cA ?_
  refine R.asE rfl cA ?_
  refine nN ?_
  refine sR ?_
  refine R.mvE rfl cA ?_
  refine R.mvE rfl cA ?_
  refine R.mvE rfl cA ?_
  obtain ⟨b14, o14, i14, k14⟩ := RdS.elem (ha0.mono s_l1) hyl1
  obtain ⟨l14, g14, k14⟩ := k14
  obtain rfl : l14 = [.int .u64 yl1] := g14
  refine R.ixp Tryz.underlying30 Tryz.sizeOf43 rfl rfl rfl oA i14 ?_
  refine R.ldC Tryz.isAgg43 rfl rfl (k14 0 _ rfl) ?_
  refine R.eql rfl rfl rfl ?_
  refine nN ?_
  refine T.condD rfl (fun c16 => ?_) (fun c16 => ?_)
  ·refine T.set 16 (.bool true) (congrArg Value.bool (decide_eq_true c16)) ?_
   refine sR ?_
   refine R.mvE rfl cA ?_
   refine R.asE rfl cA ?_
   refine nN ?_
   refine T.has Has.nil ?_
   refine T.ret (Post.blkR (Post.thnR (Post.thnR (Post.blkR (Post.thnR ?_)))))
   have hXl1 : k_78 a1 a0 0 () = .ret ((kl1 : Int)) := by rw [← hQl1, k_16 hyl1, k_78]; rw [if_pos c16]
   have hM : k_8d a0 a1 = (kl1 : Int) := by rw [k_8d, hXl1, LR.on_ret]
   exact fin1L (v := .int .i64 (kl1 : Int)) [] rfl rfl (List.Sublist.refl _) ⟨rfl, by first | rw [hM] | rfl⟩
  refine T.set 16 (.bool false) (congrArg Value.bool (decide_eq_false c16)) ?_
  refine T.skip (Post.blkN ?_)
  refine id (Post.thnN ?_)
  refine T.region ?_
  refine R.addI rfl rfl rfl oA ?_
  refine R.mvE rfl cA ?_
  refine nN ?_
  exact ⟨kl1 + 1, s_l1, ⟨oA, Has.nil, (by rw [← hQl1, k_16 hyl1, k_78]; rw [if_neg c16])⟩, by show a0.length - (kl1 + 1) < a0.length - kl1; omega, rfl, rfl, rfl, rfl, trivial⟩
 refine T.exit (Post.thnE (Post.thnE (Post.blkX ?_)))
 have hEl1 : k_78 a1 a0 0 () = .go () := (hQl1.symm.trans (by rw [show kl1 = a0.length by omega, List.drop_length, k_78]))
 refine id (Post.thnN ?_)
 refine sR ?_
 refine R.asE rfl cA ?_
 refine nN ?_
 refine T.has Has.nil ?_
 refine T.ret ?_
 have hM : k_8d a0 a1 = (-1) := by rw [k_8d, hEl1, LR.on_go]
 exact fin1L (v := .int .i64 (-1)) [] rfl rfl (List.Sublist.refl _) ⟨rfl, by first | rw [hM] | rfl⟩
theorem slices_Index_Id_go (x : Int) : ∀ (a : List (Int)) (k : Nat), (∃ j : Nat, k_78 x a k () = .ret (j : Int) ∧ k ≤ j ∧ a[j - k]? = some x) ∨ (k_78 x a k () = .go () ∧ x ∉ a)
  | [], k => .inr ⟨rfl, by simp⟩
  | y :: ys, k => by
    rw [k_78]
    by_cases e : x = y
    · rw [if_pos e]; exact .inl ⟨k, rfl, Nat.le_refl _, by rw [Nat.sub_self, e]; rfl⟩
    · rw [if_neg e]
      rcases slices_Index_Id_go x ys (k + 1) with ⟨j, h1, h2, h3⟩ | ⟨h1, h2⟩
      · exact .inl ⟨j, h1, by omega, by rw [show j - k = (j - (k + 1)) + 1 by omega]; exact h3⟩
      · exact .inr ⟨h1, by simp [e, h2]⟩
theorem slices_Index_Id_at (a : List (Int)) (x : Int) : (∃ j : Nat, k_8d a x = (j : Int) ∧ a[j]? = some x) ∨ (k_8d a x = -1 ∧ x ∉ a) := by
  unfold k_8d
  rcases slices_Index_Id_go x a 0 with ⟨j, h1, h2, h3⟩ | ⟨h1, h2⟩
  · rw [h1, LR.on_ret]; exact .inl ⟨j, rfl, by simpa using h3⟩
  · rw [h1, LR.on_go]; exact .inr ⟨rfl, h2⟩
def k_aa (a0 : List Int) (a1 : Int) : Bool :=
  (decide ((0 : Int) ≤ (k_85 a0 a1)))
set_option maxHeartbeats 3200000 in
theorem slices_Contains_int_c (H : Heap) (va0 : Value) (a0 : List Int) (ha0 : RdS (intE .i64) H va0 a0) (a1 : Int) : Fv Tryz.prog (fnv 65) [va0, .int .i64 a1] H (.bool (k_aa a0 a1)) := by
 refine Fc.of_body (N := 9) Tryz.func65 rfl kA rfl rfl ?_
 intro w0
 obtain ⟨Aa0, ca0, rfl, hca0, hda0, ha0⟩ := ha0.shape
 refine sR ?_
 refine R.asE rfl cA ?_
 refine nN ?_
 refine sR ?_
 refine R.mvE rfl cA ?_
 refine R.mvE rfl cA ?_
 refine R.callv rfl rfl rfl (slices_Index_int_c _ _ a0 ha0 (a1)) ?_
 refine R.geq rfl rfl rfl ?_
 refine R.asE rfl cA ?_
 refine nN ?_
 refine T.has Has.nil ?_
 refine T.ret ?_
 have hM : k_aa a0 a1 = (decide ((0 : Int) ≤ (k_85 a0 a1))) := by rw [k_aa]
 exact fin1L (v := .bool (decide ((0 : Int) ≤ (k_85 a0 a1)))) [] rfl rfl (List.Sublist.refl _) ⟨rfl, by first | rw [hM] | rfl⟩
theorem slices_Contains_int_eq (a : List (Int)) (x : Int) : k_aa a x = decide (x ∈ a) := by
  unfold k_aa
  rw [decide_eq_decide]
  rcases slices_Index_int_at a x with ⟨j, h1, h2⟩ | ⟨h1, h2⟩
  · exact ⟨fun _ => List.mem_of_getElem? h2, fun _ => by rw [h1]; omega⟩
  · exact ⟨fun h => by rw [h1] at h; omega, fun h => absurd h h2⟩
theorem slices_Contains_int_d (H : Heap) (v : Value) (a : List (Int)) (h : RdS (intE .i64) H v a) (x : Int) : Fv Tryz.prog (fnv 65) [v, .int .i64 x] H (.bool (decide (x ∈ a))) := Fv.to (slices_Contains_int_c H v a h x) (congrArg Value.bool (slices_Contains_int_eq a x))
def k_b0 (a0 : List Int) (a1 : Int) : Bool :=
  (decide ((0 : Int) ≤ (k_8d a0 a1)))
set_option maxHeartbeats 3200000 in
theorem slices_Contains_Id_c (H : Heap) (va0 : Value) (a0 : List Int) (ha0 : RdS (intE .u64) H va0 a0) (a1 : Int) : Fv Tryz.prog (fnv 66) [va0, .int .u64 a1] H (.bool (k_b0 a0 a1)) := by
 refine Fc.of_body (N := 9) Tryz.func66 rfl kA rfl rfl ?_
 intro w0
 obtain ⟨Aa0, ca0, rfl, hca0, hda0, ha0⟩ := ha0.shape
 refine sR ?_
 refine R.asE rfl cA ?_
 refine nN ?_
 refine sR ?_
 refine R.mvE rfl cA ?_
 refine R.mvE rfl cA ?_
 refine R.callv rfl rfl rfl (slices_Index_Id_c _ _ a0 ha0 (a1)) ?_
 refine R.geq rfl rfl rfl ?_
 refine R.asE rfl cA ?_
 refine nN ?_
 refine T.has Has.nil ?_
 refine T.ret ?_
 have hM : k_b0 a0 a1 = (decide ((0 : Int) ≤ (k_8d a0 a1))) := by rw [k_b0]
 exact fin1L (v := .bool (decide ((0 : Int) ≤ (k_8d a0 a1)))) [] rfl rfl (List.Sublist.refl _) ⟨rfl, by first | rw [hM] | rfl⟩
theorem slices_Contains_Id_eq (a : List (Int)) (x : Int) : k_b0 a x = decide (x ∈ a) := by
  unfold k_b0
  rw [decide_eq_decide]
  rcases slices_Index_Id_at a x with ⟨j, h1, h2⟩ | ⟨h1, h2⟩
  · exact ⟨fun _ => List.mem_of_getElem? h2, fun _ => by rw [h1]; omega⟩
  · exact ⟨fun h => by rw [h1] at h; omega, fun h => absurd h h2⟩
theorem slices_Contains_Id_d (H : Heap) (v : Value) (a : List (Int)) (h : RdS (intE .u64) H v a) (x : Int) : Fv Tryz.prog (fnv 66) [v, .int .u64 x] H (.bool (decide (x ∈ a))) := Fv.to (slices_Contains_Id_c H v a h x) (congrArg Value.bool (slices_Contains_Id_eq a x))
end Go.SX

namespace Go.Proofs
open Go.Shelf
end Go.Proofs

set_option linter.unusedVariables false
set_option linter.unusedSimpArgs false
namespace Go.SX
open Go Go.Sort
attribute [local semireducible] T TL
def sortI (xs : List Int) : List Int := xs.mergeSort (fun x y => decide (x ≤ y))
theorem k_1 (xs : List Int) : (sortI xs).Perm xs := List.mergeSort_perm _ _
theorem sortI_sorted (xs : List Int) : (sortI xs).Pairwise (· ≤ ·) := by
  have := List.pairwise_mergeSort (le := fun x y : Int => decide (x ≤ y)) (fun a b c h1 h2 => by simp at *; omega) (fun a b => by simp; omega) xs
  exact this.imp (fun h => of_decide_eq_true h)
end Go.SX

set_option linter.unusedVariables false
set_option linter.unusedSimpArgs false
namespace Go.SX
open Go Go.Proofs

end Go.SX

set_option linter.unusedVariables false
set_option linter.unusedSimpArgs false
namespace Go.SX
open Go
attribute [local semireducible] T TL
theorem Has.trans {L W V : Own} (h : Has L W) (k : Has W V) : Has L V := by
  obtain ⟨G, hG⟩ := h
  obtain ⟨G', hG'⟩ := k
  refine ⟨G' ++ G, hG.trans ?_⟩
  rw [← List.append_assoc]
  exact hG'.append_right G
def mlk {β : Type} (m : List (Int × β)) (k : Int) : Option β := (m.find? (fun q => q.1 == k)).map (·.2)
def mpu {β : Type} : List (Int × β) → Int → β → List (Int × β)
  | [], k, v => [(k, v)]
  | q :: m, k, v => if q.1 = k then (k, v) :: m else q :: mpu m k v
/-- The map's entries are the list's pairs. -/
def MapV {β : Type} (ik : IntKind) (f : β → Value) (es : Array MapEntry) (m : List (Int × β)) : Prop := MapIs ik es (m.map (fun q => (q.1, f q.2)))
section
variable {fr : Fr} {x : Cx} {Q : Post} {σ : Env} {H : Heap} {L : Own} {ds : List Nat} {ol rest : List Oper}
variable {d : Nat} {ty : TypeId} {p : String} {af : Array Edge} {g : Option (Nat × Bool)}
end
/-- A map that can be read, whose values are plain. -/
def MpR {β : Type} (ik : IntKind) (f : β → Value) (H : Heap) (b : Nat) (m : List (Int × β)) : Prop := ∃ es ck, H b = some (.map es ck) ∧ MapV ik f es m
theorem MpR.mono {β : Type} {ik : IntKind} {f : β → Value} {H H' : Heap} {b : Nat} {m : List (Int × β)} (h : MpR ik f H b m) (hl : HLe H H') : MpR ik f H' b m := by
  obtain ⟨es, ck, h1, h2⟩ := h
  exact ⟨es, ck, hl _ _ h1, h2⟩
theorem MpR.of {β : Type} {ik : IntKind} {f : β → Value} {H : Heap} {b : Nat} {es : Array MapEntry} {ck : Nat} {m : List (Int × β)} (w : MapV ik f es m) (hq : ∀ q ∈ [(b, Obj.map es ck)], H q.1 = some q.2) : MpR ik f H b m := ⟨es, ck, hq _ (List.mem_singleton.2 rfl), w⟩
/-- A map that can be read, whose values are rows that can be read. -/
def MrR {α : Type} (E : ER α) (ik : IntKind) (H : Heap) (b : Nat) (f : Int → List α) : Prop := ∃ es ck m, H b = some (.map es ck) ∧ MapIs ik es m ∧ ∀ j, RdS E H ((mget m j).getD (.slice none 0 0)) (f j)
theorem MrR.mono {α : Type} {E : ER α} {ik : IntKind} {H H' : Heap} {b : Nat} {f : Int → List α} (h : MrR E ik H b f) (hl : HLe H H') : MrR E ik H' b f := by
  obtain ⟨es, ck, m, h1, h2, h3⟩ := h
  exact ⟨es, ck, m, hl _ _ h1, h2, fun j => (h3 j).mono hl⟩
section
variable {fr : Fr} {x : Cx} {Q : Post} {σ : Env} {H : Heap} {L : Own} {ds : List Nat} {ol rest : List Oper}
variable {d : Nat} {ty : TypeId} {p : String} {af : Array Edge} {g : Option (Nat × Bool)}
end
end Go.SX

set_option linter.unusedVariables false
set_option linter.unusedSimpArgs false
namespace Go.SX
open Go
attribute [local semireducible] T TL
/-- The stamps rise, and lie below the clock. -/
def BornOk (es : Array MapEntry) (clock : Nat) : Prop := (es.toList.map (·.born)).Pairwise (· < ·) ∧ ∀ e ∈ es.toList, e.born < clock
def MapK (ik : IntKind) (es : Array MapEntry) (clock : Nat) (m : MapL) : Prop := MapIs ik es m ∧ BornOk es clock
theorem MapK.nil (ik : IntKind) : MapK ik #[] 0 [] := ⟨mapIs_nil ik, by simp, fun e h => by simp at h⟩
theorem run_mapUpdate_k {P : Program} {w : World} {t kt et : TypeId} {ik : IntKind} {es : Array MapEntry} {clock b : Nat} {m : MapL} {k : Int} {v : Value} (hm : P.underlying t = some (.map kt et)) (hk : P.underlying kt = some (.int ik)) (hb : w.heap[b]? = some (.map es clock)) (hi : MapK ik es clock m) :
    ∃ es' clock', (Instr.mapUpdate t (.map (some b)) (.int ik k) v).run P w = .ok () (w.putObj b (.map es' clock')) ∧ MapK ik es' clock' (mput m k v) := by
  obtain ⟨hi, hbo1, hbo2⟩ := hi
  have hf := run_findKey_is (P := P) (w := w) (k := k) hk hi
  have hset : ∀ o, (setObj b o).run P w = .ok () (w.putObj b o) := fun o => by rw [MapKept.run_setObj_map o hb]; rfl
  rcases mget_idx m k with ⟨h1, h2⟩ | ⟨j, u, h1, h2, h3⟩
  · rw [h1] at hf
    refine ⟨es.push ⟨.int ik k, v, clock⟩, clock + 1, ?_, ?_, ?_, ?_⟩
    · simp [Instr.mapUpdate, run_underlying hm, run_getObj_map (w := w) b es clock hb, k_b8 hk, hf, hset]
    · rw [mput_none m k v h1]
      unfold MapIs at hi ⊢
      simp [hi]
    · simp only [Array.toList_push, List.map_append, List.map_cons, List.map_nil]
      refine List.pairwise_append.2 ⟨hbo1, List.pairwise_singleton _ _, fun x hx y hy => ?_⟩
      simp at hy; subst hy
      obtain ⟨e, he, rfl⟩ := List.mem_map.1 hx
      exact hbo2 e he
    · intro e he
      simp only [Array.toList_push, List.mem_append, List.mem_singleton] at he
      rcases he with he | rfl
      · have := hbo2 e he; omega
      · exact Nat.lt_succ_self _
  · rw [h1, h2] at hf
    simp only [Option.bind_some, Option.map_some, Nat.zero_add] at hf
    have hej : (es[j]?).map (·.key) = some (.int ik k) := by
      have := congrArg (fun l => l[j]?) hi
      simp only [List.getElem?_map, h3, Option.map_some, Array.getElem?_toList] at this
      cases he : es[j]? with
      | none => rw [he] at this; cases this
      | some e => rw [he] at this; simp at this; simp [this.1]
    have hks : (Instr.keyThatStays (.int ik k) (.int ik k)).run P w = .ok (.int ik k) w := by simp [Instr.keyThatStays, Instr.sameBits]
    have hborn : (es.modify j (fun e => { e with key := .int ik k, val := v })).toList.map (·.born) = es.toList.map (·.born) := by
      refine List.ext_getElem? (fun i => ?_)
      simp only [List.getElem?_map, Array.getElem?_toList]
      rw [Array.getElem?_modify]
      by_cases e : j = i
      · subst e; rw [if_pos rfl]; cases es[j]? <;> simp
      · rw [if_neg e]
    refine ⟨es.modify j (fun e => { e with key := .int ik k, val := v }), clock, ?_, ?_, by rw [hborn]; exact hbo1, fun e he => ?_⟩
    · simp [Instr.mapUpdate, run_underlying hm, run_getObj_map (w := w) b es clock hb, k_b8 hk, hf, hej, hks, hset]
    · rw [mput_some m k v j h1]
      unfold MapIs at hi ⊢
      refine List.ext_getElem? (fun i => ?_)
      have hie := congrArg (fun l => l[i]?) hi
      simp only [List.getElem?_map, Array.getElem?_toList] at hie ⊢
      rw [Array.getElem?_modify]
      by_cases e : j = i
      · subst e
        rw [if_pos rfl, List.getElem?_set_self (List.getElem?_eq_some_iff.1 h3).1]
        cases he : es[j]? with
        | none => rw [he] at hej; cases hej
        | some x => simp
      · rw [if_neg e, List.getElem?_set_ne e]
        exact hie
    · have : e.born ∈ es.toList.map (·.born) := by rw [← hborn]; exact List.mem_map.2 ⟨e, he, rfl⟩
      obtain ⟨e2, he2, h9⟩ := List.mem_map.1 this
      rw [← h9]; exact hbo2 e2 he2
section
variable {fr : Fr} {x : Cx} {Q : Post} {σ : Env} {H : Heap} {L : Own} {ds : List Nat} {ol rest : List Oper}
variable {d : Nat} {ty : TypeId} {p : String} {af : Array Edge} {g : Option (Nat × Bool)}
/-- m[k] = v, the stamps told. -/
theorem R.mupK {t kt et : TypeId} {M K X : Operand} {b clock : Nat} {es : Array MapEntry} {m : MapL} {ik : IntKind} {k : Int} {v : Value} {R : Own} (hm : fr.P.underlying t = some (.map kt et)) (hk : fr.P.underlying kt = some (.int ik))
    (hw : wants ol σ g = true) (hM : ev σ M = .map (some b)) (hK : ev σ K = .int ik k) (hX : ev σ X = v) (hdel : Del L [(b, .map es clock)] R) (hi : MapK ik es clock m)
    (h : ∀ es' clock', MapK ik es' clock' (mput m k v) → TL fr x ol rest Q σ H ([(b, .map es' clock')] :: R) ds) : TL fr x ol (⟨none, .mapUpdate t M K X, ty, p, af, g⟩ :: rest) Q σ H L ds := by
  intro a w hs hd hst
  have hst1 : St x H ((b, .map es clock) :: (R.flatten ++ hid fr.rd ds)) w := hst.perm (by
    have := hdel.perm.append_right (hid fr.rd ds)
    simpa using this)
  have hb := hst1.sat.l (b, .map es clock) (List.mem_cons_self ..)
  simp only at hb
  obtain ⟨es', clock', hrun, hi'⟩ := run_mapUpdate_k (P := fr.P) (w := w) (k := k) (v := v) hm hk hb hi
  have hst2 : St x H ((b, .map es' clock') :: (R.flatten ++ hid fr.rd ds)) (w.putObj b (.map es' clock')) :=
    hst1.turn rfl rfl rfl (by simp [World.putObj]) (World.putObj_heap_same (heap_lt hb)) (fun c hc => World.putObj_heap_other (by first | exact hc | exact fun e => hc e.symm))
  unfold wpLo
  rw [if_pos (k_cf hs hw)]
  refine ⟨fun f _ => fenceFn _ f, ?_⟩
  rw [semAt_of rfl, hs.eval]
  have hr : (execOp (ev σ) ⟨none, .mapUpdate t M K X, ty, p, af, g⟩).run fr.P w = .ok .skip (w.putObj b (.map es' clock')) := by
    simp [execOp, hM, hK, hX, hrun]
  rw [hr]
  exact h es' clock' hi' _ _ hs hd (by simpa using hst2)
/-- range over a map of one's own: the iterator is one's own. -/
theorem R.rng {t kt et : TypeId} {M : Operand} {b clock : Nat} {es : Array MapEntry} (hm : fr.P.underlying t = some (.map kt et)) (hw : wan fr.N ol σ d g = true) (hM : ev σ M = .map (some b)) (hin : In L [(b, .map es clock)])
    (h : ∀ bi, TL fr x ol rest Q (upd σ d (.pointer (some ⟨bi, 0, none⟩))) H ([(bi, .mapIter (some b) clock #[] clock)] :: L) ds) :
    TL fr x ol (⟨some d, .range t M, ty, p, af, g⟩ :: rest) Q σ H L ds :=
  TL.value hw rfl (fun w hst => by
    have hb := hst.sat.l (b, .map es clock) (List.mem_append_left _ (hin.mem (List.mem_singleton.2 rfl)))
    have hr := run_range_map (P := fr.P) w t kt et b es clock hm hb
    exact ⟨_, w.alloc (.mapIter (some b) clock #[] clock), H, _, by simp [execOp, hM, hr], hst.new _, h w.heap.size⟩)
/-- The step's entry, read again. -/
theorem R.ent {X : Operand} {b bi clock : Nat} {es : Array MapEntry} {seen : Array Nat} {e : MapEntry} (hw : wan fr.N ol σ d g = true) (hX : ev σ X = .pointer (some ⟨bi, 0, none⟩)) (hin : In L [(bi, .mapIter (some b) clock (seen.push e.born) clock)]) (hin2 : In L [(b, .map es clock)]) (hbo : BornOk es clock) (he : e ∈ es.toList)
    (h : TL fr x ol rest Q (upd σ d (.tuple #[e.key, e.val])) H L ds) : TL fr x ol (⟨some d, .entry X, ty, p, af, g⟩ :: rest) Q σ H L ds :=
  TL.value hw rfl (fun w hst => by
    have hbi := hst.sat.l (bi, .mapIter (some b) clock (seen.push e.born) clock) (List.mem_append_left _ (hin.mem (List.mem_singleton.2 rfl)))
    have hb := hst.sat.l (b, .map es clock) (List.mem_append_left _ (hin2.mem (List.mem_singleton.2 rfl)))
    have hr := run_entry_at (P := fr.P) w bi b clock seen es clock e hbi hb he (hbo.1.imp (fun h => by omega))
    exact ⟨_, w, H, L, by simp [execOp, hX, hr], hst, h⟩)
end
end Go.SX
namespace Go.SX
open Go
attribute [local semireducible] T TL
end Go.SX

set_option linter.unusedVariables false
set_option linter.unusedSimpArgs false
namespace Go.SX
open Go
attribute [local semireducible] T TL
def mset {α : Type} (f : Int → List α) (k : Int) (xs : List α) : Int → List α := fun j => if j = k then xs else f j
/-- The map at b, its rows, and what lies in them. -/
def MapO {α : Type} (E : ER α) (e : TypeId) (ik : IntKind) (H : Heap) (b : Nat) (f : Int → List α) (C : Chunk) : Prop :=
  ∃ es ck m rows, C = (b, .map es ck) :: (List.flatten rows) ∧ MapK ik es ck m ∧ F2 E e H f m rows ∧ (m.map Prod.fst).Nodup ∧ ∀ j, j ∉ m.map Prod.fst → f j = []
/-- The same while the row of k is taken out. -/
def MapT {α : Type} (E : ER α) (e : TypeId) (ik : IntKind) (H : Heap) (b : Nat) (f : Int → List α) (k : Int) (mc R : Chunk) : Prop :=
  ∃ es ck m, mc = [(b, .map es ck)] ∧ MapK ik es ck m ∧ ∀ H' v' xs' c', HLe H H' → OwnS E e H' v' xs' c' → ∀ es' ck', MapK ik es' ck' (mput m k v') → ∃ C', ((b, Obj.map es' ck') :: (c' ++ R)).Perm C' ∧ MapO E e ik H' b (mset f k xs') C'
theorem MapO.nil {α : Type} {E : ER α} {e : TypeId} {ik : IntKind} {H : Heap} {b : Nat} : MapO E e ik H b (fun _ => []) [(b, .map #[] 0)] :=
  ⟨#[], 0, [], [], rfl, MapK.nil ik, trivial, List.nodup_nil, fun _ _ => rfl⟩
theorem MapO.mono {α : Type} {E : ER α} {e : TypeId} {ik : IntKind} {H H' : Heap} {b : Nat} {f : Int → List α} {C : Chunk} (h : MapO E e ik H b f C) (hl : HLe H H') : MapO E e ik H' b f C := by
  obtain ⟨es, ck, m, rows, h1, h2, h3, h4, h5⟩ := h
  exact ⟨es, ck, m, rows, h1, h2, h3.mono hl, h4, h5⟩
theorem MapO.read {α : Type} {E : ER α} {e : TypeId} {ik : IntKind} {H H' : Heap} {b : Nat} {f : Int → List α} {C : Chunk} (h : MapO E e ik H b f C) (hl : HLe H H') (hq : ∀ q ∈ C, H' q.1 = some q.2) : MrR E ik H' b f := by
  obtain ⟨es, ck, m, rows, rfl, h2, h3, h4, h5⟩ := h
  exact ⟨es, ck, m, hq _ (List.mem_cons_self ..), h2.1, fun j => F2.read j h3 hl (fun q hm => hq q (List.mem_cons_of_mem _ hm)) (h5 j)⟩
theorem MapO.take {α : Type} {E : ER α} {e : TypeId} {ik : IntKind} {H : Heap} {b : Nat} {f : Int → List α} {C : Chunk} (h : MapO E e ik H b f C) (k : Int) :
    ∃ es ck m cr R, C.Perm (cr ++ ((b, .map es ck) :: R)) ∧ MapK ik es ck m ∧ OwnS E e H ((mget m k).getD (.slice none 0 0)) (f k) cr ∧ MapT E e ik H b f k [(b, .map es ck)] R := by
  obtain ⟨es, ck, m, rows, rfl, h2, h3, h4, h5⟩ := h
  obtain ⟨cr, RR, hp, ho, hput⟩ := F2.take k h3 h4 (h5 k)
  refine ⟨es, ck, m, cr, RR.flatten, ?_, h2, ho, es, ck, m, rfl, h2, fun H' v' xs' c' hl ho' es' ck' hi' => ?_⟩
  · rw [List.flatten_cons] at hp
    exact (hp.cons _).trans List.perm_middle.symm
  · obtain ⟨rows', h6, h7⟩ := hput H' v' c' xs' hl ho'
    rw [List.flatten_cons] at h7
    refine ⟨(b, .map es' ck') :: rows'.flatten, h7.cons _, es', ck', mput m k v', rows', rfl, hi', h6, mput_nodup _ _ _ h4, fun j hj => ?_⟩
    have hj' : j ≠ k ∧ j ∉ m.map Prod.fst := ⟨fun e' => hj ((mput_keys _ _ _ _).2 (.inl e')), fun e' => hj ((mput_keys _ _ _ _).2 (.inr e'))⟩
    show (if j = k then xs' else f j) = []
    rw [if_neg hj'.1]; exact h5 j hj'.2
section
variable {fr : Fr} {x : Cx} {Q : Post} {σ : Env} {H : Heap} {L : Own} {ds : List Nat} {ol rest : List Oper}
variable {d : Nat} {ty : TypeId} {p : String} {af : Array Edge} {g : Option (Nat × Bool)}
theorem R.mkmO {α : Type} (E : ER α) (e : TypeId) (ik : IntKind) {t : TypeId} (hw : wan fr.N ol σ d g = true) (h : ∀ b, MapO E e ik H b (fun _ => []) [(b, .map #[] 0)] → TL fr x ol rest Q (upd σ d (.map (some b))) H ([(b, .map #[] 0)] :: L) ds) :
    TL fr x ol (⟨some d, .makeMap t none, ty, p, af, g⟩ :: rest) Q σ H L ds := R.mkm hw (fun b => h b MapO.nil)
theorem R.lkuO {α : Type} {E : ER α} {e : TypeId} {t kt et : TypeId} {M K : Operand} {b : Nat} {f : Int → List α} {C : Chunk} {ik : IntKind} {k : Int} {R0 : Own} (hm : fr.P.underlying t = some (.map kt et)) (hk : fr.P.underlying kt = some (.int ik)) (hz : ∀ w, (zeroValue et).run fr.P w = .ok (.slice none 0 0) w)
    (hw : wan fr.N ol σ d g = true) (hM : ev σ M = .map (some b)) (hK : ev σ K = .int ik k) (hdel : Del L C R0) (hi : MapO E e ik H b f C)
    (h : ∀ v cr mc RR, OwnS E e H v (f k) cr → MapT E e ik H b f k mc RR → TL fr x ol rest Q (upd σ d v) H (cr :: mc :: RR :: R0) ds) : TL fr x ol (⟨some d, .lookup t M K false, ty, p, af, g⟩ :: rest) Q σ H L ds := by
  obtain ⟨es, ck, m, cr, RR, hp, hi2, ho, ht⟩ := hi.take k
  refine TL.permL (L' := cr :: [(b, .map es ck)] :: RR :: R0) ?_ (R.lku hm hk hz hw hM hK (.tl .hd) hi2.1 (h _ cr _ RR ho ht))
  refine hdel.perm.trans ((hp.append_right _).trans ?_)
  simp
theorem R.mupO {α : Type} {E : ER α} {e : TypeId} {t kt et : TypeId} {M K X : Operand} {H0 : Heap} {b : Nat} {f : Int → List α} {ik : IntKind} {k : Int} {v : Value} {xs : List α} {c mc RR : Chunk} {L1 L2 R0 : Own} (hm : fr.P.underlying t = some (.map kt et)) (hk : fr.P.underlying kt = some (.int ik))
    (hw : wants ol σ g = true) (hM : ev σ M = .map (some b)) (hK : ev σ K = .int ik k) (hX : ev σ X = v) (ht : MapT E e ik H0 b f k mc RR) (hl : HLe H0 H) (ho : OwnS E e H v xs c) (d1 : Del L c L1) (d2 : Del L1 mc L2) (d3 : Del L2 RR R0)
    (h : ∀ C', MapO E e ik H b (mset f k xs) C' → TL fr x ol rest Q σ H (C' :: R0) ds) : TL fr x ol (⟨none, .mapUpdate t M K X, ty, p, af, g⟩ :: rest) Q σ H L ds := by
  obtain ⟨es, ck, m, rfl, hi, hput⟩ := ht
  refine TL.permL (L' := [(b, .map es ck)] :: c :: RR :: R0) ?_ (R.mupK hm hk hw hM hK hX .hd hi (fun es' ck' hi' => ?_))
  · have e1 := d1.perm
    have e2 := d2.perm
    have e3 := d3.perm
    refine e1.trans ((e2.append_left c).trans ?_)
    rw [List.flatten_cons, List.flatten_cons, List.flatten_cons]
    have e4 : (c ++ ([(b, Obj.map es ck)] ++ L2.flatten)).Perm ([(b, Obj.map es ck)] ++ (c ++ L2.flatten)) := by
      rw [← List.append_assoc, ← List.append_assoc]; exact List.perm_append_comm.append_right _
    exact e4.trans ((e3.append_left c).append_left _)
  · obtain ⟨C', hp, hO⟩ := hput H v xs c hl ho es' ck' hi'
    refine TL.permL (L' := C' :: R0) ?_ (h C' hO)
    refine List.Perm.trans ?_ (hp.append_right _)
    simp
end
end Go.SX

set_option linter.unusedVariables false
set_option linter.unusedSimpArgs false
namespace Go.SX
open Go
attribute [local semireducible] T TL
section
variable {fr : Fr} {x : Cx} {Q : Post} {σ : Env} {H : Heap} {L : Own} {ds : List Nat} {ol rest : List Oper}
variable {d : Nat} {ty : TypeId} {p : String} {af : Array Edge} {g : Option (Nat × Bool)}
end
end Go.SX

set_option linter.unusedVariables false
set_option linter.unusedSimpArgs false
namespace Go.SX
open Go
theorem OwnS.len {α : Type} {E : ER α} {e : TypeId} {H : Heap} {A : Option Addr} {n c : Nat} {xs : List α} {ch : Chunk} (h : OwnS E e H (.slice A n c) xs ch) : n = xs.length := by
  obtain ⟨A', cap, h1, _, _⟩ := h.shape
  injection h1
attribute [local semireducible] T TL
section
variable {fr : Fr} {x : Cx} {Q : Post} {σ : Env} {H : Heap} {L : Own} {ds : List Nat} {ol rest : List Oper}
variable {d : Nat} {ty : TypeId} {p : String} {af : Array Edge} {g : Option (Nat × Bool)} {X Y : Operand} {xt yt : TypeId} {a b : Int} {k : IntKind}
theorem R.quoI (hw : wan fr.N ol σ d g = true) (hx : ev σ X = .int .i64 a) (hy : ev σ Y = .int .i64 b) (hb : 0 < b ∧ 0 ≤ a ∧ a ≤ 9223372036854775807) (h : TL fr x ol rest Q (upd σ d (.int .i64 (a / b))) H L ds) : TL fr x ol (⟨some d, .binOp .quo xt X Y yt, ty, p, af, g⟩ :: rest) Q σ H L ds :=
  R.quo hw hx hy (by omega) (by
    have e : a.tdiv b = a / b := Int.tdiv_eq_ediv_of_nonneg hb.2.1
    have h1 : a / b ≤ a := Int.ediv_le_self _ hb.2.1
    have h0 : 0 ≤ a / b := Int.ediv_nonneg hb.2.1 (by omega)
    rw [e, IntWalk.i64_in _ ⟨by omega, by omega⟩]; exact h)
theorem R.convU {src dst : TypeId} (hs : fr.P.underlying src = some (.int .i64)) (hd : fr.P.underlying dst = some (.int .u64)) (hw : wan fr.N ol σ d g = true) (hx : ev σ X = .int .i64 a) (ha : 0 ≤ a ∧ a ≤ 9223372036854775807) (h : TL fr x ol rest Q (upd σ d (.int .u64 a)) H L ds) :
    TL fr x ol (⟨some d, .convert src dst X, ty, p, af, g⟩ :: rest) Q σ H L ds :=
  R.conv hs hd hw hx (by rw [k_c9 ⟨ha.1, by omega⟩]; exact h)
theorem R.convI {src dst : TypeId} (hs : fr.P.underlying src = some (.int .u64)) (hd : fr.P.underlying dst = some (.int .i64)) (hw : wan fr.N ol σ d g = true) (hx : ev σ X = .int .u64 a) (ha : 0 ≤ a ∧ a ≤ 9223372036854775807) (h : TL fr x ol rest Q (upd σ d (.int .i64 a)) H L ds) :
    TL fr x ol (⟨some d, .convert src dst X, ty, p, af, g⟩ :: rest) Q σ H L ds :=
  R.conv hs hd hw hx (by rw [IntWalk.i64_in _ ⟨by omega, ha.2⟩]; exact h)
theorem IxAt.view {A : Option Addr} {n c sz lo j b o : Nat} (h : IxAt (.slice A n c) sz (lo + j) b o) (hnc : n ≤ c) : IxAt (slcV (.slice A n c) lo n c sz) sz j b o := by
  obtain ⟨o0, n', c', e, h1, rfl⟩ := h
  injection e with e1 e2 e3
  subst e1; subst e2; subst e3
  refine ⟨o0 + lo * sz, n - lo, c - lo, ?_, by omega, by rw [Nat.add_mul]; omega⟩
  simp only [slcV]
  rw [if_neg (by omega)]
  simp [Addr.add_lit]
theorem R.ixpV {t e : TypeId} {X I : Operand} {A : Option Addr} {n c lo m sz b o : Nat} {k : IntKind} {i : Int} (ht : fr.P.underlying t = some (.slice e)) (hsz : ∀ w, (sizeOf e).run fr.P w = .ok sz w)
    (hw : wan fr.N ol σ d g = true) (hv : ev σ X = slcV (.slice A n c) lo n c sz) (hi : ev σ I = .int k i) (h0 : 0 ≤ i) (hm : m = lo + i.toNat) (hnc : n ≤ c) (hx : IxAt (.slice A n c) sz m b o)
    (h : TL fr x ol rest Q (upd σ d (.pointer (some ⟨b, o, none⟩))) H L ds) : TL fr x ol (⟨some d, .indexAddr t X I, ty, p, af, g⟩ :: rest) Q σ H L ds :=
  R.ixp ht hsz hw hv hi h0 (IxAt.view (by rw [← hm]; exact hx) hnc) h
theorem R.idxG {t e n sz : Nat} {X I : Operand} {cs l : List Value} {k : IntKind} {i : Int} (ht : fr.P.underlying t = some (.array n e)) (hagg : ∀ w, (isAgg e).run fr.P w = .ok true w) (hsz : ∀ w, (sizeOf e).run fr.P w = .ok sz w)
    (hw : wan fr.N ol σ d g = true) (hx : ev σ X = .agg cs.toArray) (hi : ev σ I = .int k i) (h0 : 0 ≤ i) (hlt : i < n) (hv : (cs.drop (i.toNat * sz)).take sz = l)
    (h : TL fr x ol rest Q (upd σ d (.agg l.toArray)) H L ds) : TL fr x ol (⟨some d, .index t X I, ty, p, af, g⟩ :: rest) Q σ H L ds := by
  refine TL.pureE hw rfl (fun w => ?_) h
  subst hv
  simp [execOp, Instr.index, hx, hi, asIntOf, run_underlying ht, h0, hlt, hsz, part, hagg]
end
end Go.SX

set_option linter.unusedVariables false
set_option linter.unusedSimpArgs false
namespace Go.SX
open Go Go.Proofs

def k_31 (a0 : List Int) (n3l1 : Int) : Nat → (Int × Int × (List Int)) → Int × Int × (List Int)
  | 0, _ => default
  | ml3 + 1, sl3 => if sl3.2.1 < (((a0.length - (n3l1).toNat) : Nat) : Int) then (LR.seq ((decide ((sl3.2.2.getD ((n3l1).toNat + sl3.2.1.toNat) (0 : Int)) ≠ (sl3.2.2.getD ((n3l1).toNat + ((sl3.2.1 - 1)).toNat) (0 : Int)))) : Bool) (fun sc4 => if sc4 = true then (k_31 a0 n3l1 ml3 (((sl3.1 + 1), (sl3.2.1 + 1), (sl3.2.2.set sl3.1.toNat (sl3.2.2.getD ((n3l1).toNat + sl3.2.1.toNat) (0 : Int)))))) else (k_31 a0 n3l1 ml3 ((sl3.1, (sl3.2.1 + 1), sl3.2.2))))) else ((sl3.1, sl3.2.1, sl3.2.2))
def k_71 (a0 : List Int) : Nat → Int → LR ((List Int)) (Int)
  | 0, _ => .go default
  | ml1 + 1, sl1 => if sl1 < (a0.length : Int) then (LR.seq ((decide ((a0.getD sl1.toNat (0 : Int)) = (a0.getD (((sl1 - 1)).toNat) (0 : Int)))) : Bool) (fun sc2 => if sc2 = true then (LR.seq (k_31 a0 sl1 (((a0.length : Int) - 1).toNat + 1) ((sl1, 1, a0))) (fun ol3 => .ret ((ol3.2.2.take (ol3.1).toNat).take ol3.1.toNat))) else (k_71 a0 ml1 ((sl1 + 1))))) else (.go sl1)
def k_7a (a0 : List Int) : (List Int) :=
  if (a0.length : Int) < 2 then a0 else (LR.on (k_71 a0 (((a0.length : Int) - 1).toNat + 1) 1) (fun r => r) (fun ol1 => a0))
set_option maxHeartbeats 3200000 in
theorem slices_Compact_Id_c (H : Heap) (va0 : Value) (a0 : List Int) (Ca0 : Chunk) (ha0 : OwnS (intE .u64) 43 H va0 a0 Ca0) (hl : a0.length ≤ 4000000) : Fc Tryz.prog (fnv 85) [va0] H [Ca0] (fun v' H' L' => ∃ u0_0 c0_0, v' = u0_0 ∧ L' = [c0_0] ∧ OwnS (intE .u64) 43 H' u0_0 (k_7a a0) c0_0) := by
 refine Fc.of_body (N := 61) Tryz.func85 rfl kA rfl rfl ?_
 intro w0
 obtain ⟨Aa0, pa0, rfl, ma0, na0⟩ := OwnS.shape ha0
 refine sR ?_
 refine R.asE rfl cA ?_
 refine nN ?_
 refine T.seq ?_
 refine sR ?_
 refine R.mvE rfl cA ?_
 refine R.len Tryz.underlying30 rfl rfl ?_
 refine R.lss rfl rfl rfl ?_
 refine nN ?_
 refine T.condD rfl (fun c8 => ?_) (fun c8 => ?_)
 ·refine T.set 8 (.bool true) (congrArg Value.bool (decide_eq_true c8)) ?_
  refine sR ?_
  refine R.mvE rfl cA ?_
  refine R.asE rfl cA ?_
  refine nN ?_
  refine T.has (Has.cons .hd Has.nil) ?_
  refine T.ret (Post.thnR ?_)
  have hM : k_7a a0 = a0 := by rw [k_7a, if_pos c8]
  exact fin1L (v := .slice Aa0 a0.length pa0) [Ca0] rfl rfl (List.Sublist.refl _) ⟨.slice Aa0 a0.length pa0, Ca0, by first | rw [hM] | rfl, rfl, by rw [hM]; exact ha0⟩
 refine T.set 8 (.bool false) (congrArg Value.bool (decide_eq_false c8)) ?_
 refine T.skip (Post.thnN ?_)
 refine T.seq ?_
 refine sR ?_
 refine R.asE rfl cA ?_
 refine nN ?_
 refine T.block ?_
 refine T.loop (ι := Nat × Int) (fun ⟨kl1, n3l1⟩ H' L' ds' => ((a0.length : Int) - n3l1).toNat < kl1 ∧ Has L' [Ca0] ∧ 1 ≤ n3l1 ∧ n3l1 ≤ (a0.length : Int) ∧ k_71 a0 kl1 n3l1 = k_71 a0 (((a0.length : Int) - 1).toNat + 1) 1) (fun ⟨kl1, n3l1⟩ => [(0, .slice Aa0 a0.length pa0), (3, .int .i64 n3l1)]) (fun ⟨kl1, n3l1⟩ => kl1) ((((a0.length : Int) - 1).toNat + 1), 1) ?_ ?_ ?_
 ·exact ⟨oA, (Has.cons .hd Has.nil), bA, bA, (by rfl)⟩
 ·exact ⟨rfl, rfl, trivial⟩
 intro ⟨kl1, n3l1⟩ σ_l1 H_l1 L_l1 ds_l1 s_l1 hI_l1
 obtain ⟨hkl1, hI_l1⟩ := hI_l1
 obtain ⟨ml1, rfl⟩ : ∃ m, kl1 = m + 1 := ⟨kl1 - 1, by omega⟩
 obtain ⟨hLl1, hBl1_0, hBl1_1, hQl1⟩ := hI_l1
 refine T.has hLl1 ?_
 refine T.seq ?_
 refine sR ?_
 refine R.mvE rfl cA ?_
 refine R.mvE rfl cA ?_
 refine R.len Tryz.underlying30 rfl rfl ?_
 refine R.lss rfl rfl rfl ?_
 refine nN ?_
 refine T.condD rfl (fun c13 => ?_) (fun c13 => ?_)
 ·refine T.set 13 (.bool true) (congrArg Value.bool (decide_eq_true c13)) ?_
  refine T.skip (Post.thnN ?_)
  refine T.seq ?_
  refine T.block ?_
  refine T.seq ?_
  refine T.cutK (ι := Bool) (fun b25c2 H' L' ds' => Has L' [Ca0] ∧ ((decide ((a0.getD n3l1.toNat (0 : Int)) = (a0.getD (((n3l1 - 1)).toNat) (0 : Int)))) : Bool) = b25c2) (fun b25c2 => [(0, .slice Aa0 a0.length pa0), (3, .int .i64 n3l1), (25, .bool (b25c2))]) ?_ ?_
  ·refine T.draw k_2b kA ?_
   refine vM 0 [1, 2, 3, 4, 5, 6, 7, 8, 9] rfl rfl cA ?_
   refine vM 1 [2, 3, 4, 5, 6, 7, 8, 9] rfl rfl cA ?_
   have hl18 : n3l1.toNat < a0.length := bA
   obtain ⟨y18, e18, h18⟩ : ∃ y, y = (a0.getD n3l1.toNat (0 : Int)) ∧ a0[n3l1.toNat]? = some y := ⟨_, rfl, k_6 (by first | exact hl18 | simpa using hl18 | (simp only [List.length_set]; omega) | omega | (rw [(k_1 _).length_eq]; exact hl18))⟩
   obtain ⟨b18, u18, cs18, l18, f18, j18, i18, g18, k18⟩ := OwnS.elem (OwnS.mono ha0 s_l1) h18
   obtain rfl : l18 = [.int .u64 y18] := g18
   refine vA 2 [3, 4, 5, 6, 7, 8, 9] rfl (fun _ _ h_ => R.ixp (sz := ((intE .u64)).size) Tryz.underlying30 Tryz.sizeOf43 rfl rfl rfl bA i18 (TL.nil h_)) ?_
   refine vM 4 [3, 5, 6, 7, 8, 9] rfl rfl cA ?_
   refine vM 5 [3, 6, 7, 8, 9] rfl rfl cA ?_
   refine vA 6 [3, 7, 8, 9] rfl (fun _ _ h_ => R.subI rfl rfl rfl oA (TL.nil h_)) ?_
   have hl23 : ((n3l1 - 1)).toNat < a0.length := bA
   obtain ⟨y23, e23, h23⟩ : ∃ y, y = (a0.getD (((n3l1 - 1)).toNat) (0 : Int)) ∧ a0[((n3l1 - 1)).toNat]? = some y := ⟨_, rfl, k_6 (by first | exact hl23 | simpa using hl23 | (simp only [List.length_set]; omega) | omega | (rw [(k_1 _).length_eq]; exact hl23))⟩
   obtain ⟨b23, u23, cs23, l23, f23, j23, i23, g23, k23⟩ := OwnS.elem (OwnS.mono ha0 s_l1) h23
   obtain rfl : l23 = [.int .u64 y23] := g23
   refine vA 7 [3, 8, 9] rfl (fun _ _ h_ => R.ixp (sz := ((intE .u64)).size) Tryz.underlying30 Tryz.sizeOf43 rfl rfl rfl bA i23 (TL.nil h_)) ?_
   refine Plan.s2 3 8 [8, 9] [3, 9] kA kA kA rfl rfl ?_ ?_
   ·refine R.ld Tryz.isAgg43 rfl rfl (by rw [← f18]; exact .hd) (k18 0 _ rfl) ?_
    refine TL.nil (Plan.e1 (HLe.refl _) ?_)
    refine Plan.s1 8 [9] kA kA rfl ?_
    refine R.ld Tryz.isAgg43 rfl rfl (by rw [← f23]; exact .hd) (k23 0 _ rfl) ?_
    refine TL.nil (Plan.e1 (HLe.refl _) ?_)
    refine vA 9 [] rfl (fun _ _ h_ => R.eql rfl rfl rfl (TL.nil h_)) ?_
    refine Plan.done (Post.thnN ?_)
    exact ⟨(decide (y18 = y23)), HLe.refl _, ⟨(Has.cons .hd Has.nil), (by subst e23; subst e18; rfl)⟩, rfl, rfl, rfl, trivial⟩
   refine R.ld Tryz.isAgg43 rfl rfl (by rw [← f23]; exact .hd) (k23 0 _ rfl) ?_
   refine TL.nil (Plan.e1 (HLe.refl _) ?_)
   refine Plan.s1 3 [9] kA kA rfl ?_
   refine R.ld Tryz.isAgg43 rfl rfl (by rw [← f18]; exact .hd) (k18 0 _ rfl) ?_
   refine TL.nil (Plan.e1 (HLe.refl _) ?_)
   refine vA 9 [] rfl (fun _ _ h_ => R.eql rfl rfl rfl (TL.nil h_)) ?_
   refine Plan.done (Post.thnN ?_)
   exact ⟨(decide (y18 = y23)), HLe.refl _, ⟨(Has.cons .hd Has.nil), (by subst e23; subst e18; rfl)⟩, rfl, rfl, rfl, trivial⟩
  intro b25c2 σ_c2 H_c2 L_c2 ds_c2 s_c2 hI_c2
  obtain ⟨hLc2, hTc2⟩ := hI_c2
  refine T.has hLc2 ?_
  refine T.cond rfl (fun c25 => ?_) (fun c25 => ?_)
  ·refine T.set 25 (.bool true) (congrArg Value.bool c25) ?_
   have hZ25 := hTc2.trans c25
   try simp only [or_f, or_t, k_bf, k_c0, decide_eq_true_eq, decide_eq_false_iff_not, Bool.not_eq_true'] at hZ25
   refine sR ?_
   refine R.mvE rfl cA ?_
   refine R.mvE rfl cA ?_
   refine R.sL Tryz.underlying30 Tryz.sizeOf43 rfl rfl rfl oA oA ?_
   refine R.asE rfl cA ?_
   refine nN ?_
   refine T.seq ?_
   refine sR ?_
   refine R.asE rfl cA ?_
   refine nN ?_
   refine T.block ?_
   refine T.loop (ι := Nat × Int × Int × (List Int) × Chunk) (fun ⟨kl3, n3l3, n5l3, xPa0l3, cPa0l3⟩ H' L' ds' => ((a0.length : Int) - n5l3).toNat < kl3 ∧ Has L' [cPa0l3] ∧ OwnS (intE .u64) 43 H' (.slice Aa0 a0.length pa0) xPa0l3 cPa0l3 ∧ 1 ≤ n5l3 ∧ 1 ≤ n3l3 ∧ n3l3 + 1 ≤ n3l1 + n5l3 + 0 ∧ n3l1 + n5l3 ≤ (a0.length : Int) ∧ k_31 a0 n3l1 kl3 ((n3l3, n5l3, xPa0l3)) = k_31 a0 n3l1 (((a0.length : Int) - 1).toNat + 1) ((n3l1, 1, a0))) (fun ⟨kl3, n3l3, n5l3, xPa0l3, cPa0l3⟩ => [(0, .slice Aa0 a0.length pa0), (3, .int .i64 n3l3), (4, slcV (.slice Aa0 a0.length pa0) (n3l1).toNat a0.length pa0 1), (5, .int .i64 n5l3)]) (fun ⟨kl3, n3l3, n5l3, xPa0l3, cPa0l3⟩ => kl3) ((((a0.length : Int) - 1).toNat + 1), n3l1, 1, a0, Ca0) ?_ ?_ ?_
   ·exact ⟨oA, (Has.cons .hd Has.nil), (OwnS.mono ha0 (s_l1.trans s_c2)), bA, bA, bA, bA, (by rfl)⟩
   ·exact ⟨rfl, rfl, rfl, rfl, trivial⟩
   intro ⟨kl3, n3l3, n5l3, xPa0l3, cPa0l3⟩ σ_l3 H_l3 L_l3 ds_l3 s_l3 hI_l3
   obtain ⟨hkl3, hI_l3⟩ := hI_l3
   obtain ⟨ml3, rfl⟩ : ∃ m, kl3 = m + 1 := ⟨kl3 - 1, by omega⟩
   obtain ⟨hLl3, wPa0l3, hBl3_0, hBl3_1, hBl3_2, hBl3_3, hQl3⟩ := hI_l3
   have nPa0l3_ := OwnS.len wPa0l3
   refine T.has hLl3 ?_
   refine T.seq ?_
   refine sR ?_
   refine R.mvE rfl cA ?_
   refine R.mvE rfl cA ?_
   refine R.len Tryz.underlying30 rfl rfl ?_
   refine R.lss rfl rfl rfl ?_
   refine nN ?_
   refine T.condD rfl (fun c32 => ?_) (fun c32 => ?_)
   ·refine T.set 32 (.bool true) (congrArg Value.bool (decide_eq_true c32)) ?_
    refine T.skip (Post.thnN ?_)
    refine T.seq ?_
    refine T.block ?_
    refine T.seq ?_
    refine T.cutK (ι := Bool) (fun b44c4 H' L' ds' => Has L' [cPa0l3] ∧ ((decide ((xPa0l3.getD ((n3l1).toNat + n5l3.toNat) (0 : Int)) ≠ (xPa0l3.getD ((n3l1).toNat + ((n5l3 - 1)).toNat) (0 : Int)))) : Bool) = b44c4) (fun b44c4 => [(0, .slice Aa0 a0.length pa0), (3, .int .i64 n3l3), (4, slcV (.slice Aa0 a0.length pa0) (n3l1).toNat a0.length pa0 1), (5, .int .i64 n5l3), (44, .bool (b44c4))]) ?_ ?_
    ·refine T.draw k_2b kA ?_
     refine vM 0 [1, 2, 3, 4, 5, 6, 7, 8, 9] rfl rfl cA ?_
     refine vM 1 [2, 3, 4, 5, 6, 7, 8, 9] rfl rfl cA ?_
     have hl37 : ((n3l1).toNat + n5l3.toNat) < xPa0l3.length := by (try simp only [List.length_set]); omega
     obtain ⟨y37, e37, h37⟩ : ∃ y, y = (xPa0l3.getD ((n3l1).toNat + n5l3.toNat) (0 : Int)) ∧ xPa0l3[((n3l1).toNat + n5l3.toNat)]? = some y := ⟨_, rfl, k_6 hl37⟩
     obtain ⟨b37, u37, cs37, l37, f37, j37, i37, g37, k37⟩ := OwnS.elem wPa0l3 h37
     obtain rfl : l37 = [.int .u64 y37] := g37
     refine vA 2 [3, 4, 5, 6, 7, 8, 9] rfl (fun _ _ h_ => R.ixpV (sz := ((intE .u64)).size) (m := ((n3l1).toNat + n5l3.toNat)) Tryz.underlying30 Tryz.sizeOf43 rfl rfl rfl oA rfl oA i37 (TL.nil h_)) ?_
     refine vM 4 [3, 5, 6, 7, 8, 9] rfl rfl cA ?_
     refine vM 5 [3, 6, 7, 8, 9] rfl rfl cA ?_
     refine vA 6 [3, 7, 8, 9] rfl (fun _ _ h_ => R.subI rfl rfl rfl oA (TL.nil h_)) ?_
     have hl42 : ((n3l1).toNat + ((n5l3 - 1)).toNat) < xPa0l3.length := by (try simp only [List.length_set]); omega
     obtain ⟨y42, e42, h42⟩ : ∃ y, y = (xPa0l3.getD ((n3l1).toNat + ((n5l3 - 1)).toNat) (0 : Int)) ∧ xPa0l3[((n3l1).toNat + ((n5l3 - 1)).toNat)]? = some y := ⟨_, rfl, k_6 hl42⟩
     obtain ⟨b42, u42, cs42, l42, f42, j42, i42, g42, k42⟩ := OwnS.elem wPa0l3 h42
     obtain rfl : l42 = [.int .u64 y42] := g42
     refine vA 7 [3, 8, 9] rfl (fun _ _ h_ => R.ixpV (sz := ((intE .u64)).size) (m := ((n3l1).toNat + ((n5l3 - 1)).toNat)) Tryz.underlying30 Tryz.sizeOf43 rfl rfl rfl oA rfl oA i42 (TL.nil h_)) ?_
     refine Plan.s2 3 8 [8, 9] [3, 9] kA kA kA rfl rfl ?_ ?_
     ·refine R.ld Tryz.isAgg43 rfl rfl (by rw [← f37]; exact .hd) (k37 0 _ rfl) ?_
      refine TL.nil (Plan.e1 (HLe.refl _) ?_)
      refine Plan.s1 8 [9] kA kA rfl ?_
      refine R.ld Tryz.isAgg43 rfl rfl (by rw [← f42]; exact .hd) (k42 0 _ rfl) ?_
      refine TL.nil (Plan.e1 (HLe.refl _) ?_)
      refine vA 9 [] rfl (fun _ _ h_ => R.neq rfl rfl rfl (TL.nil h_)) ?_
      refine Plan.done (Post.thnN ?_)
      exact ⟨(decide (y37 ≠ y42)), HLe.refl _, ⟨(Has.cons .hd Has.nil), (by subst e42; subst e37; rfl)⟩, rfl, rfl, rfl, rfl, rfl, trivial⟩
     refine R.ld Tryz.isAgg43 rfl rfl (by rw [← f42]; exact .hd) (k42 0 _ rfl) ?_
     refine TL.nil (Plan.e1 (HLe.refl _) ?_)
     refine Plan.s1 3 [9] kA kA rfl ?_
     refine R.ld Tryz.isAgg43 rfl rfl (by rw [← f37]; exact .hd) (k37 0 _ rfl) ?_
     refine TL.nil (Plan.e1 (HLe.refl _) ?_)
     refine vA 9 [] rfl (fun _ _ h_ => R.neq rfl rfl rfl (TL.nil h_)) ?_
     refine Plan.done (Post.thnN ?_)
     exact ⟨(decide (y37 ≠ y42)), HLe.refl _, ⟨(Has.cons .hd Has.nil), (by subst e42; subst e37; rfl)⟩, rfl, rfl, rfl, rfl, rfl, trivial⟩
    intro b44c4 σ_c4 H_c4 L_c4 ds_c4 s_c4 hI_c4
    obtain ⟨hLc4, hTc4⟩ := hI_c4
    refine T.has hLc4 ?_
    refine T.cond rfl (fun c44 => ?_) (fun c44 => ?_)
    ·refine T.set 44 (.bool true) (congrArg Value.bool c44) ?_
     have hZ44 := hTc4.trans c44
     try simp only [or_f, or_t, k_bf, k_c0, decide_eq_true_eq, decide_eq_false_iff_not, Bool.not_eq_true'] at hZ44
     refine sR ?_
     refine R.mvE rfl cA ?_
     refine R.mvE rfl cA ?_
     refine R.mvE rfl cA ?_
     refine R.mvE rfl cA ?_
     have hl49 : ((n3l1).toNat + n5l3.toNat) < xPa0l3.length := by (try simp only [List.length_set]); omega
     obtain ⟨y49, e49, h49⟩ : ∃ y, y = (xPa0l3.getD ((n3l1).toNat + n5l3.toNat) (0 : Int)) ∧ xPa0l3[((n3l1).toNat + n5l3.toNat)]? = some y := ⟨_, rfl, k_6 hl49⟩
     obtain ⟨b49, u49, cs49, l49, f49, j49, i49, g49, k49⟩ := OwnS.elem (OwnS.mono wPa0l3 s_c4) h49
     obtain rfl : l49 = [.int .u64 y49] := g49
     refine R.ixpV (sz := ((intE .u64)).size) (m := ((n3l1).toNat + n5l3.toNat)) Tryz.underlying30 Tryz.sizeOf43 rfl rfl rfl oA rfl oA i49 ?_
     refine R.ld Tryz.isAgg43 rfl rfl (by rw [← f49]; exact .hd) (k49 0 _ rfl) ?_
     have hl51 : n3l3.toNat < a0.length := bA
     obtain ⟨y51, e51, h51⟩ : ∃ y, y = (xPa0l3.getD n3l3.toNat (0 : Int)) ∧ xPa0l3[n3l3.toNat]? = some y := ⟨_, rfl, k_6 (by first | exact hl51 | simpa using hl51 | (simp only [List.length_set]; omega) | omega | (rw [(k_1 _).length_eq]; exact hl51))⟩
     obtain ⟨b51, u51, cs51, l51, f51, j51, i51, g51, k51⟩ := OwnS.elem (OwnS.mono wPa0l3 s_c4) h51
     obtain rfl : l51 = [.int .u64 y51] := g51
     refine R.ixp (sz := ((intE .u64)).size) Tryz.underlying30 Tryz.sizeOf43 rfl rfl rfl bA i51 ?_
     refine R.stEF (E := (intE .u64)) (e := 43) (v := (.slice Aa0 a0.length pa0)) (m := [.int .u64 y49]) (o := 0) (y := y51) (y' := y49) (j := n3l3.toNat) Tryz.sizeOf43 rfl (OwnS.mono wPa0l3 s_c4) .hd i51 rfl rfl (cells1 rfl) (k_20 rfl) h51 (by show 0 + 1 ≤ 1; decide) (fun l hl => by have e0 : l = [.int .u64 y51] := hl; subst e0; exact rfl) ?_
     intro cst12 wst12
     refine nN ?_
     refine T.region ?_
     refine R.mvE rfl cA ?_
     refine R.addI rfl rfl rfl oA ?_
     refine R.asE rfl cA ?_
     refine TL.nil (Post.blkN ?_)
     refine id (Post.thnN ?_)
     refine T.region ?_
     refine R.mvE rfl cA ?_
     refine R.addI rfl rfl rfl oA ?_
     refine R.asE rfl cA ?_
     refine nN ?_
     exact ⟨(ml3, (n3l3 + 1), (n5l3 + 1), (xPa0l3.set n3l3.toNat y49), cst12), (s_l3.trans s_c4), ⟨(by first | omega | (simp; omega) | (simp at *; omega)), (Has.cons .hd Has.nil), wst12, bA, bA, bA, bA, (by subst e51; subst e49; rw [← hQl3, k_31]; rw [if_pos c32, hTc4, LR.seq_go, if_t c44])⟩, by show ml3 < ml3 + 1; omega, rfl, rfl, rfl, rfl, trivial⟩
    refine T.set 44 (.bool false) (congrArg Value.bool c44) ?_
    have hZ44 := hTc4.trans c44
    try simp only [or_f, or_t, k_bf, k_c0, decide_eq_true_eq, decide_eq_false_iff_not, Bool.not_eq_true'] at hZ44
    refine T.skip (Post.blkN ?_)
    refine id (Post.thnN ?_)
    refine T.region ?_
    refine R.mvE rfl cA ?_
    refine R.addI rfl rfl rfl oA ?_
    refine R.asE rfl cA ?_
    refine nN ?_
    exact ⟨(ml3, n3l3, (n5l3 + 1), xPa0l3, cPa0l3), (s_l3.trans s_c4), ⟨(by first | omega | (simp; omega) | (simp at *; omega)), (Has.cons .hd Has.nil), (OwnS.mono wPa0l3 s_c4), bA, bA, bA, bA, (by rw [← hQl3, k_31]; rw [if_pos c32, hTc4, LR.seq_go, if_f c44])⟩, by show ml3 < ml3 + 1; omega, rfl, rfl, rfl, rfl, trivial⟩
   refine T.set 32 (.bool false) (congrArg Value.bool (decide_eq_false c32)) ?_
   refine T.exit (Post.thnE (Post.thnE (Post.blkX ?_)))
   have hEl3 : k_31 a0 n3l1 (((a0.length : Int) - 1).toNat + 1) ((n3l1, 1, a0)) = (n3l3, n5l3, xPa0l3) := (by rw [← hQl3, k_31]; rw [if_neg c32])
   refine id (Post.thnN ?_)
   refine sR ?_
   refine R.mvE rfl cA ?_
   refine R.mvE rfl cA ?_
   refine R.sL Tryz.underlying30 Tryz.sizeOf43 rfl rfl rfl oA oA ?_
   obtain ⟨xz13, ez13⟩ : ∃ x, x = (xPa0l3.take (n3l3).toNat) := ⟨_, rfl⟩
   have tz13 : xz13.length = (n3l3).toNat := by rw [ez13, List.length_take]; (try simp only [List.length_set]); omega
   refine R.clr (dd := none) (xs := xz13) (A := Aa0) (cap := pa0) k_b3 (zone_of (z := .int .u64 0) kA (by intro v hv; have e0 : v = .int .u64 0 := (by simpa [Value.cells] using hv); subst e0; rfl)) rfl (fun q h => by cases h) (m := a0.length) (by rw [tz13]; rfl) (by rw [tz13, ez13]; exact own_take0 (by have hz_ := wPa0l3; have hq_ := (OwnS.len wPa0l3); rw [hq_] at hz_; exact hz_) (by (try simp only [List.length_set]); omega)) .hd oA oA ?_
   intro cz13 wz13
   refine nN ?_
   refine sR ?_
   refine R.mvE rfl cA ?_
   refine R.mvE rfl cA ?_
   have z59 := OwnS.takeM wz13 (i := n3l3.toNat) (m := pa0) (by first | omega | (simp; omega)) (by first | omega | (simp; omega)) (by first | omega | (simp; omega))
   obtain ⟨x59, e59⟩ : ∃ x, x = (xz13.take n3l3.toNat) := ⟨_, rfl⟩
   rw [← e59] at z59
   obtain ⟨A59, p59, q59, m59, n59⟩ := OwnS.shape z59
   have t59 : x59.length = n3l3.toNat := by rw [e59, List.length_take]; omega
   refine R.sH Tryz.underlying30 Tryz.sizeOf43 rfl rfl rfl (by first | omega | (simp; omega)) (by first | omega | (simp; omega))  ?_
   refine TL.set 59 (.slice A59 x59.length p59) (by first | exact q59 | (rw [← q59]; simp; done) | (rw [← q59]; rfl)) ?_
   rw [q59] at z59
   refine R.asE rfl cA ?_
   refine nN ?_
   refine T.has (Has.cons .hd Has.nil) ?_
   refine T.ret (Post.blkR (Post.thnR (Post.thnR (Post.blkR (Post.thnR ?_)))))
   have hXl1 : k_71 a0 (((a0.length : Int) - 1).toNat + 1) 1 = .ret x59 := by subst e59; subst ez13; rw [← hQl1, k_71]; rw [if_pos c13, hTc2, LR.seq_go, if_t c25, hEl3, LR.seq_go]
   have hM : k_7a a0 = x59 := by rw [k_7a, if_neg c8, hXl1, LR.on_ret]
   exact fin1L (v := .slice A59 x59.length p59) [cz13] rfl rfl (List.Sublist.refl _) ⟨.slice A59 x59.length p59, cz13, by first | rw [hM] | rfl, rfl, by rw [hM]; exact z59⟩
  refine T.set 25 (.bool false) (congrArg Value.bool c25) ?_
  have hZ25 := hTc2.trans c25
  try simp only [or_f, or_t, k_bf, k_c0, decide_eq_true_eq, decide_eq_false_iff_not, Bool.not_eq_true'] at hZ25
  refine T.skip (Post.blkN ?_)
  refine id (Post.thnN ?_)
  refine T.region ?_
  refine R.mvE rfl cA ?_
  refine R.addI rfl rfl rfl oA ?_
  refine R.asE rfl cA ?_
  refine nN ?_
  exact ⟨(ml1, (n3l1 + 1)), (s_l1.trans s_c2), ⟨(by first | omega | (simp; omega) | (simp at *; omega)), (Has.cons .hd Has.nil), bA, bA, (by rw [← hQl1, k_71]; rw [if_pos c13, hTc2, LR.seq_go, if_f c25])⟩, by show ml1 < ml1 + 1; omega, rfl, rfl, trivial⟩
 refine T.set 13 (.bool false) (congrArg Value.bool (decide_eq_false c13)) ?_
 refine T.exit (Post.thnE (Post.thnE (Post.blkX ?_)))
 have hEl1 : k_71 a0 (((a0.length : Int) - 1).toNat + 1) 1 = .go n3l1 := (by rw [← hQl1, k_71]; rw [if_neg c13])
 refine id (Post.thnN ?_)
 refine sR ?_
 refine R.mvE rfl cA ?_
 refine R.asE rfl cA ?_
 refine nN ?_
 refine T.has (Has.cons .hd Has.nil) ?_
 refine T.ret ?_
 have hM : k_7a a0 = a0 := by rw [k_7a, if_neg c8, hEl1, LR.on_go]
 exact fin1L (v := .slice Aa0 a0.length pa0) [Ca0] rfl rfl (List.Sublist.refl _) ⟨.slice Aa0 a0.length pa0, Ca0, by first | rw [hM] | rfl, rfl, by rw [hM]; exact (OwnS.mono ha0 s_l1)⟩
end Go.SX

set_option linter.unusedVariables false
set_option linter.unusedSimpArgs false
namespace Go.SX
open Go
def ddF (p : Int) : List Int → List Int
  | [] => []
  | y :: ys => if y = p then ddF p ys else y :: ddF y ys
/-- each run of equals once -/
def dd : List Int → List Int
  | [] => []
  | x :: xs => x :: ddF x xs
theorem ddF_snoc (y : Int) : ∀ (l : List Int) (q : Int), ddF q (l ++ [y]) = ddF q l ++ (if y = l.getLast?.getD q then [] else [y])
  | [], q => rfl
  | z :: l, q => by
    rw [List.cons_append, ddF, ddF, ddF_snoc y l q, ddF_snoc y l z, List.getLast?_cons]
    by_cases h : z = q
    · subst h; simp
    · simp [h]
theorem dd_take (a : List Int) (m : Nat) (h1 : 1 ≤ m) (h2 : m < a.length) : dd (a.take (m + 1)) = dd (a.take m) ++ (if a.getD m 0 = a.getD (m - 1) 0 then [] else [a.getD m 0]) := by
  have e1 : a.take (m + 1) = a.take m ++ [a.getD m 0] := by
    rw [List.take_add_one, List.getD_eq_getElem?_getD, List.getElem?_eq_getElem h2]; rfl
  obtain ⟨x, l, e⟩ : ∃ x l, a.take m = x :: l := by
    cases e : a.take m with
    | nil => have := congrArg List.length e; rw [List.length_take, List.length_nil] at this; omega
    | cons x l => exact ⟨x, l, rfl⟩
  have e2 : l.getLast?.getD x = a.getD (m - 1) 0 := by
    have h := List.getLast?_eq_getElem? (l := x :: l)
    rw [List.getLast?_cons, ← e, List.length_take, Nat.min_eq_left (by omega), List.getElem?_take_of_lt (by omega)] at h
    rw [List.getD_eq_getElem?_getD, ← h]; rfl
  rw [e1, e, List.cons_append, dd, dd, ddF_snoc, e2]; rfl
theorem comp_l3 (a : List Int) (K : Nat) (hK : 1 ≤ K) : ∀ (r k k2 m : Nat) (cur : List Int), a.length - (K + k2) ≤ r → r < m → 1 ≤ k2 → K + k2 ≤ a.length → k + 1 ≤ K + k2 → cur.length = a.length → cur.take k = dd (a.take (K + k2)) → (∀ i, k ≤ i → cur.getD i 0 = a.getD i 0) →
    ∃ (k' : Nat) (cur' : List Int), ((k_31 a (K : Int) m ((k : Int), (k2 : Int), cur)).1 = (k' : Int) ∧ (k_31 a (K : Int) m ((k : Int), (k2 : Int), cur)).2.2 = cur') ∧ cur'.take k' = dd a
  | r, k, k2, 0, cur, _, h, _, _, _, _, _, _ => by omega
  | r, k, k2, m + 1, cur, h1, h2, h3, h4, h5, h6, h7, h8 => by
    have step : k_31 a (K : Int) (m + 1) ((k : Int), (k2 : Int), cur) = if (k2 : Int) < ((a.length - K : Nat) : Int) then (if cur.getD (K + k2) 0 ≠ cur.getD (K + ((k2 : Int) - 1).toNat) 0 then k_31 a (K : Int) m ((k : Int) + 1, (k2 : Int) + 1, cur.set k (cur.getD (K + k2) 0)) else k_31 a (K : Int) m ((k : Int), (k2 : Int) + 1, cur)) else ((k : Int), (k2 : Int), cur) := by
      rw [k_31, LR.seq_go]
      simp only [Int.toNat_natCast, decide_eq_true_eq]
    rw [step]
    by_cases hn : K + k2 < a.length
    · have g1 : cur.getD (K + k2) 0 = a.getD (K + k2) 0 := h8 _ (by omega)
      have g2 : cur.getD (K + ((k2 : Int) - 1).toNat) 0 = a.getD (K + k2 - 1) 0 := by rw [show K + ((k2 : Int) - 1).toNat = K + k2 - 1 by omega]; exact h8 _ (by omega)
      rw [if_pos (show (k2 : Int) < ((a.length - K : Nat) : Int) by omega), g1, g2]
      have hd := dd_take a (K + k2) (by omega) hn
      cases r with
      | zero => omega
      | succ r =>
        by_cases e : a.getD (K + k2) 0 = a.getD (K + k2 - 1) 0
        · rw [if_neg (fun q => q e)]
          rw [if_pos e, List.append_nil] at hd
          exact comp_l3 a K hK r k (k2 + 1) m cur (by omega) (by omega) (by omega) (by omega) (by omega) h6 (h7.trans hd.symm) h8
        · rw [if_pos e]
          rw [if_neg e, ← h7] at hd
          have hl : (cur.take k).length = k := by rw [List.length_take]; omega
          refine comp_l3 a K hK r (k + 1) (k2 + 1) m (cur.set k (a.getD (K + k2) 0)) (by omega) (by omega) (by omega) (by omega) (by omega) (by rw [List.length_set]; exact h6) ?_ (fun i hi => ?_)
          · rw [show K + (k2 + 1) = K + k2 + 1 by omega, hd, List.take_add_one, List.take_set_of_le (Nat.le_refl _), List.getElem?_set_self (by omega)]; rfl
          · rw [List.getD_eq_getElem?_getD, List.getElem?_set_ne (by omega), ← List.getD_eq_getElem?_getD]; exact h8 i (by omega)
    · rw [if_neg (show ¬ (k2 : Int) < ((a.length - K : Nat) : Int) by omega)]
      refine ⟨k, cur, ⟨rfl, rfl⟩, ?_⟩
      rw [h7, List.take_of_length_le (by omega)]
theorem comp_l1 (a : List Int) : ∀ (r k m : Nat), a.length - k ≤ r → r < m → 1 ≤ k → k ≤ a.length → dd (a.take k) = a.take k → LR.on (k_71 a m (k : Int)) (fun r => r) (fun _ => a) = dd a
  | r, k, 0, _, h, _, _, _ => by omega
  | r, k, m + 1, h1, h2, h3, h4, h5 => by
    rw [k_71]
    dsimp only [LR.seq, Int.toNat_natCast]
    by_cases hn : k < a.length
    · rw [if_pos (show (k : Int) < (a.length : Int) by omega), show ((k : Int) - 1).toNat = k - 1 by omega]
      have hd := dd_take a k h3 hn
      by_cases e : a.getD k 0 = a.getD (k - 1) 0
      · rw [if_pos (decide_eq_true e), LR.on_ret]
        rw [if_pos e, List.append_nil, h5] at hd
        obtain ⟨k', cur', ⟨q1, q2⟩, q3⟩ := comp_l3 a k h3 (a.length - (k + 1)) k 1 (((a.length : Int) - 1).toNat + 1) a (Nat.le_refl _) (by omega) (Nat.le_refl _) (by omega) (by omega) rfl hd.symm (fun i _ => rfl)
        change (k_31 a (k : Int) (((a.length : Int) - 1).toNat + 1) ((k : Int), (1 : Int), a)).1 = (k' : Int) at q1
        change (k_31 a (k : Int) (((a.length : Int) - 1).toNat + 1) ((k : Int), (1 : Int), a)).2.2 = cur' at q2
        rw [q1, q2, Int.toNat_natCast, List.take_take, Nat.min_self]; exact q3
      · rw [if_neg (by rw [decide_eq_true_eq]; exact e)]
        rw [if_neg e, h5] at hd
        cases r with
        | zero => omega
        | succ r => exact comp_l1 a r (k + 1) m (by omega) (by omega) (by omega) (by omega) (by rw [hd, List.take_add_one, List.getD_eq_getElem?_getD, List.getElem?_eq_getElem hn]; rfl)
    · rw [if_neg (show ¬ (k : Int) < (a.length : Int) by omega), LR.on_go]
      rw [List.take_of_length_le (by omega)] at h5; exact h5.symm
theorem comp_eq (a : List Int) : k_7a a = dd a := by
  unfold k_7a
  by_cases h : a.length < 2
  · rw [if_pos (by omega)]
    match a, h with
    | [], _ => rfl
    | [x], _ => rfl
  · rw [if_neg (by omega)]
    refine comp_l1 a (a.length - 1) 1 _ (Nat.le_refl _) (by omega) (Nat.le_refl _) (by omega) ?_
    cases a with
    | nil => rfl
    | cons x l => rfl
theorem ddF_mem (x : Int) : ∀ (l : List Int) (p : Int), x ∈ p :: ddF p l ↔ x ∈ p :: l
  | [], p => Iff.rfl
  | y :: ys, p => by
    rw [ddF]
    by_cases h : y = p
    · subst h; rw [if_pos rfl, ddF_mem x ys y]; simp
    · rw [if_neg h, List.mem_cons, ddF_mem x ys y, List.mem_cons (b := p) (l := y :: ys)]
theorem dd_mem (l : List Int) (x : Int) : x ∈ dd l ↔ x ∈ l := by
  cases l with
  | nil => rfl
  | cons p l => exact ddF_mem x l p
theorem ddF_up : ∀ (l : List Int) (p : Int), (p :: l).Pairwise (· ≤ ·) → (p :: ddF p l).Pairwise (· < ·)
  | [], p, _ => by simp [ddF]
  | y :: ys, p, h => by
    rw [List.pairwise_cons] at h
    rw [ddF]
    by_cases e : y = p
    · subst e; rw [if_pos rfl]; exact ddF_up ys y h.2
    · rw [if_neg e, List.pairwise_cons]
      have ih := ddF_up ys y h.2
      have hpy : p < y := by have := h.1 y (List.mem_cons_self ..); omega
      refine ⟨fun z hz => ?_, ih⟩
      rcases List.mem_cons.1 hz with rfl | hz
      · exact hpy
      · have := (List.pairwise_cons.1 ih).1 z hz; omega
theorem dd_up {l : List Int} (h : l.Pairwise (· ≤ ·)) : (dd l).Pairwise (· < ·) := by
  cases l with
  | nil => exact List.Pairwise.nil
  | cons p l => exact ddF_up l p h
/-- two rising rows with the same members are one -/
theorem up_ext : ∀ {a b : List Int}, a.Pairwise (· < ·) → b.Pairwise (· < ·) → (∀ x, x ∈ a ↔ x ∈ b) → a = b
  | [], [], _, _, _ => rfl
  | [], y :: ys, _, _, h => absurd ((h y).2 (List.mem_cons_self ..)) (by simp)
  | x :: xs, [], _, _, h => absurd ((h x).1 (List.mem_cons_self ..)) (by simp)
  | x :: xs, y :: ys, ha, hb, h => by
    rw [List.pairwise_cons] at ha hb
    have hxy : x = y := by
      rcases List.mem_cons.1 ((h x).1 (List.mem_cons_self ..)) with e | h1
      · exact e
      · rcases List.mem_cons.1 ((h y).2 (List.mem_cons_self ..)) with e | h2
        · exact e.symm
        · have := hb.1 x h1; have := ha.1 y h2; omega
    subst hxy
    rw [up_ext ha.2 hb.2 (fun z => ?_)]
    constructor
    · intro hz
      rcases List.mem_cons.1 ((h z).1 (List.mem_cons_of_mem _ hz)) with rfl | q
      · have := ha.1 z hz; omega
      · exact q
    · intro hz
      rcases List.mem_cons.1 ((h z).2 (List.mem_cons_of_mem _ hz)) with rfl | q
      · have := hb.1 z hz; omega
      · exact q
end Go.SX

set_option linter.unusedVariables false
set_option linter.unusedSimpArgs false
namespace Go.SX
open Go Go.Proofs

def k_8e (a0 : Int) : Bool :=
  if ((kindG a0) : Int) = 2 then true else ((decide (((kindG a0) : Int) = 3)))
set_option maxHeartbeats 3200000 in
theorem types_may_c (H : Heap) (a0 : Int) : Fv Tryz.prog (fnv 64) [.int .u64 a0] H (.bool (k_8e a0)) := by
 refine Fc.of_body (N := 12) Tryz.func64 rfl kA rfl rfl ?_
 intro w0
 refine sR ?_
 refine R.asE rfl cA ?_
 refine nN ?_
 refine sR ?_
 refine R.mvE rfl cA ?_
 refine R.callv rfl rfl rfl (kindG_c _ a0) ?_
 refine R.asE rfl cA ?_
 refine nN ?_
 refine sR ?_
 refine R.mvE rfl cA ?_
 refine R.eql rfl rfl rfl ?_
 refine R.mvE rfl cA ?_
 refine TL.gsplitD 8 rfl (fun g8 => ?_) (fun g8 => ?_)
 ·refine TL.off rfl rfl rfl ?_
  refine TL.off rfl rfl rfl ?_
  refine R.pkTE rfl rfl cA ?_
  refine R.asE rfl cA ?_
  refine nN ?_
  refine T.has Has.nil ?_
  refine T.ret ?_
  have hM : k_8e a0 = true := by rw [k_8e, if_pos g8]
  exact fin1L (v := .bool true) [] rfl rfl (List.Sublist.refl _) ⟨rfl, by first | rw [hM] | rfl⟩
 refine R.mvE rfl cA ?_
 refine R.eql rfl rfl rfl ?_
 refine R.pkFE rfl rfl cA ?_
 refine R.asE rfl cA ?_
 refine nN ?_
 refine T.has Has.nil ?_
 refine T.ret ?_
 have hM : k_8e a0 = (decide (((kindG a0) : Int) = 3)) := by rw [k_8e, if_neg g8]
 exact fin1L (v := .bool (decide (((kindG a0) : Int) = 3))) [] rfl rfl (List.Sublist.refl _) ⟨rfl, by first | rw [hM] | rfl⟩
def k_89 (a0 : List Int) : List Int → Nat → Bool → Bool
  | [], kl2, sl2 => sl2
  | yl2 :: ysl2, kl2, sl2 => LR.seq (if sl2 = true then (if (k_8e yl2) = true then (if (kl2 : Int) = 0 then true else ((decide ((a0.getD ((((kl2 : Int) - 1)).toNat) (0 : Int)) < yl2)))) else false) else false : Bool) (fun sc3 => if (!sc3) = true then sc3 else (k_89 a0 ysl2 (kl2 + 1) sc3))
def k_2e (a0 : List Int) : Int :=
  LR.seq (LR.seq (k_89 a0 a0 0 ((decide ((a0.length : Int) ≤ 12)))) (fun ol2 => ol2) : Bool) (fun sc1 => if (!sc1) = true then 130 else 0)
set_option maxHeartbeats 3200000 in
theorem types_Check_c (H : Heap) (va0 : Value) (a0 : List Int) (ha0 : RdS (intE .u64) H va0 a0) : Fv Tryz.prog (fnv 33) [va0] H (.int .i64 (k_2e a0)) := by
 refine Fc.of_body (N := 39) Tryz.func33 rfl kA rfl rfl ?_
 intro w0
 obtain ⟨Aa0, ca0, rfl, hca0, hda0, ha0⟩ := ha0.shape
 refine sR ?_
 refine R.asE rfl cA ?_
 refine nN ?_
 refine T.scope ?_
 refine sR ?_
 refine R.mvE rfl cA ?_
 refine R.len Tryz.underlying30 rfl rfl ?_
 refine R.leq rfl rfl rfl ?_
 refine R.asE rfl cA ?_
 refine nN ?_
 refine T.seq ?_
 refine T.label (Post.thnN ?_)
 refine T.seq ?_
 refine sR ?_
 refine R.mvE rfl cA ?_
 refine R.len Tryz.underlying30 rfl rfl ?_
 refine R.mvE rfl cA ?_
 refine nN ?_
 refine T.cutK (ι := Bool) (fun b3c1 H' L' ds' => Has L' [] ∧ (LR.seq (k_89 a0 a0 0 ((decide ((a0.length : Int) ≤ 12)))) (fun ol2 => ol2) : Bool) = b3c1) (fun b3c1 => [(3, .bool (b3c1))]) ?_ ?_
 ·refine T.block ?_
  refine T.loop (ι := Nat × Bool) (fun ⟨kl2, b3l2⟩ H' L' ds' => kl2 ≤ a0.length ∧ Has L' [] ∧ k_89 a0 (a0.drop kl2) kl2 b3l2 = k_89 a0 a0 0 ((decide ((a0.length : Int) ≤ 12)))) (fun ⟨kl2, b3l2⟩ => [(11, .int .i64 (kl2 : Int)), (0, .slice Aa0 a0.length ca0), (3, .bool (b3l2)), (9, .slice Aa0 a0.length ca0), (10, .int .i64 (a0.length : Int))]) (fun ⟨kl2, b3l2⟩ => a0.length - kl2) (0, (decide ((a0.length : Int) ≤ 12))) ?_ ?_ ?_
  ·exact ⟨oA, Has.nil, (by rfl)⟩
  ·exact ⟨rfl, rfl, rfl, rfl, rfl, trivial⟩
  intro ⟨kl2, b3l2⟩ σ_l2 H_l2 L_l2 ds_l2 s_l2 hI_l2
  obtain ⟨hkl2, hI_l2⟩ := hI_l2
  obtain ⟨hLl2, hQl2⟩ := hI_l2
  refine T.has hLl2 ?_
  refine sR ?_
  refine R.lss rfl rfl rfl ?_
  refine nN ?_
  refine T.seq ?_
  refine T.condD rfl (fun c12 => ?_) (fun c12 => ?_)
  ·have hltl2 : kl2 < a0.length := by omega
   obtain ⟨yl2, hyl2⟩ := getk (xs := a0) (k := kl2) oA
   refine T.skip (Post.thnN ?_)
   refine T.seq ?_
   refine T.block ?_
   refine sR ?_
   refine R.mvE rfl cA ?_
   obtain ⟨b14, o14, i14, k14⟩ := RdS.elem (ha0.mono s_l2) hyl2
   obtain ⟨l14, g14, k14⟩ := k14
   obtain rfl : l14 = [.int .u64 yl2] := g14
   refine R.ixp Tryz.underlying30 Tryz.sizeOf43 rfl rfl rfl oA i14 ?_
   refine R.ldC Tryz.isAgg43 rfl rfl (k14 0 _ rfl) ?_
   refine R.asE rfl cA ?_
   refine R.asE rfl cA ?_
   refine nN ?_
   refine T.seq ?_
   refine T.cutK (ι := Bool) (fun b3c3 H' L' ds' => Has L' [] ∧ (if b3l2 = true then (if (k_8e yl2) = true then (if (kl2 : Int) = 0 then true else ((decide ((a0.getD ((((kl2 : Int) - 1)).toNat) (0 : Int)) < yl2)))) else false) else false : Bool) = b3c3) (fun b3c3 => [(0, .slice Aa0 a0.length ca0), (3, .bool (b3c3)), (9, .slice Aa0 a0.length ca0), (10, .int .i64 (a0.length : Int)), (11, .int .i64 (kl2 : Int))]) ?_ ?_
   ·refine T.region ?_
    refine R.mvE rfl cA ?_
    refine R.mvE rfl cA ?_
    refine TL.gsplit 17 rfl (fun g17 => ?_) (fun g17 => ?_)
    ·refine R.mvE rfl cA ?_
     refine R.callv rfl rfl rfl (types_may_c _ (yl2)) ?_
     refine R.pkTE rfl rfl cA ?_
     refine R.mvE rfl cA ?_
     refine TL.gsplit 21 rfl (fun g21 => ?_) (fun g21 => ?_)
     ·refine R.mvE rfl cA ?_
      refine R.eql rfl rfl rfl ?_
      refine R.mvE rfl cA ?_
      refine TL.gsplitD 24 rfl (fun g24 => ?_) (fun g24 => ?_)
      ·refine TL.off rfl rfl rfl ?_
       refine TL.off rfl rfl rfl ?_
       refine TL.off rfl rfl rfl ?_
       refine TL.off rfl rfl rfl ?_
       refine TL.off rfl rfl rfl ?_
       refine TL.off rfl rfl rfl ?_
       refine TL.off rfl rfl rfl ?_
       refine R.pkTE rfl rfl cA ?_
       refine R.pkTE rfl rfl cA ?_
       refine R.asE rfl cA ?_
       refine nN ?_
       exact ⟨true, HLe.refl _, ⟨Has.nil, (by rw [if_t g17, if_t g21, if_pos g24])⟩, rfl, rfl, rfl, rfl, rfl, trivial⟩
      refine R.mvE rfl cA ?_
      refine R.mvE rfl cA ?_
      refine R.subI rfl rfl rfl oA ?_
      have hl28 : (((kl2 : Int) - 1)).toNat < a0.length := bA
      obtain ⟨y28, e28, h28⟩ : ∃ y, y = (a0.getD ((((kl2 : Int) - 1)).toNat) (0 : Int)) ∧ a0[(((kl2 : Int) - 1)).toNat]? = some y := ⟨_, rfl, k_6 (by first | exact hl28 | simpa using hl28 | (simp only [List.length_set]; omega) | omega | (rw [(k_1 _).length_eq]; exact hl28))⟩
      obtain ⟨b28, o28, i28, k28⟩ := RdS.elem (ha0.mono s_l2) h28
      obtain ⟨l28, g28, k28⟩ := k28
      obtain rfl : l28 = [.int .u64 y28] := g28
      refine R.ixp Tryz.underlying30 Tryz.sizeOf43 rfl rfl rfl bA i28 ?_
      refine R.ldC Tryz.isAgg43 rfl rfl (k28 0 _ rfl) ?_
      refine R.mvE rfl cA ?_
      refine R.lss rfl rfl rfl ?_
      refine R.pkFE rfl rfl cA ?_
      refine R.pkTE rfl rfl cA ?_
      refine R.asE rfl cA ?_
      refine nN ?_
      exact ⟨(decide (y28 < yl2)), HLe.refl _, ⟨Has.nil, (by subst e28; rw [if_t g17, if_t g21, if_neg g24])⟩, rfl, rfl, rfl, rfl, rfl, trivial⟩
     refine TL.off rfl rfl rfl ?_
     refine TL.off rfl rfl rfl ?_
     refine TL.off rfl rfl rfl ?_
     refine TL.offU rfl rfl ?_
     refine TL.offU rfl rfl ?_
     refine TL.offU rfl rfl ?_
     refine TL.offU rfl rfl ?_
     refine TL.offU rfl rfl ?_
     refine TL.offU rfl rfl ?_
     refine TL.offU rfl rfl ?_
     refine TL.off rfl rfl rfl ?_
     refine R.pkFE rfl rfl cA ?_
     refine R.asE rfl cA ?_
     refine nN ?_
     exact ⟨false, HLe.refl _, ⟨Has.nil, (by rw [if_t g17, if_f g21])⟩, rfl, rfl, rfl, rfl, rfl, trivial⟩
    refine TL.off rfl rfl rfl ?_
    refine TL.off rfl rfl rfl ?_
    refine R.pkFE rfl rfl cA ?_
    refine R.mvE rfl cA ?_
    refine TL.off rfl rfl rfl ?_
    refine TL.off rfl rfl rfl ?_
    refine TL.off rfl rfl rfl ?_
    refine TL.offU rfl rfl ?_
    refine TL.offU rfl rfl ?_
    refine TL.offU rfl rfl ?_
    refine TL.offU rfl rfl ?_
    refine TL.offU rfl rfl ?_
    refine TL.offU rfl rfl ?_
    refine TL.offU rfl rfl ?_
    refine TL.off rfl rfl rfl ?_
    refine R.pkFE rfl rfl cA ?_
    refine R.asE rfl cA ?_
    refine nN ?_
    exact ⟨false, HLe.refl _, ⟨Has.nil, (by rw [if_f g17])⟩, rfl, rfl, rfl, rfl, rfl, trivial⟩
   intro b3c3 σ_c3 H_c3 L_c3 ds_c3 s_c3 hI_c3
   obtain ⟨hLc3, hTc3⟩ := hI_c3
   refine T.has hLc3 ?_
   refine sR ?_
   refine R.mvE rfl cA ?_
   refine R.not rfl rfl ?_
   refine nN ?_
   refine T.cond rfl (fun c35 => ?_) (fun c35 => ?_)
   ·refine T.set 35 (.bool true) (congrArg Value.bool c35) ?_
    refine T.exit (Post.blkE rfl (Post.thnE (Post.thnE (Post.blkX ?_))))
    have hEl2 : k_89 a0 a0 0 ((decide ((a0.length : Int) ≤ 12))) = b3c3 := (by rw [← hQl2, k_16 hyl2, k_89]; rw [hTc3, LR.seq_go, if_t c35])
    refine id (Post.thnN ?_)
    exact ⟨b3c3, (s_l2.trans s_c3), ⟨Has.nil, (by rw [hEl2, LR.seq_go])⟩, rfl, trivial⟩
   refine T.set 35 (.bool false) (congrArg Value.bool c35) ?_
   refine T.skip (Post.blkN ?_)
   refine id (Post.thnN ?_)
   refine T.region ?_
   refine R.addI rfl rfl rfl oA ?_
   refine R.mvE rfl cA ?_
   refine nN ?_
   exact ⟨(kl2 + 1, b3c3), (s_l2.trans s_c3), ⟨oA, Has.nil, (by rw [← hQl2, k_16 hyl2, k_89]; rw [hTc3, LR.seq_go, if_f c35])⟩, by show a0.length - (kl2 + 1) < a0.length - kl2; omega, rfl, rfl, rfl, rfl, rfl, trivial⟩
  refine T.exit (Post.thnE (Post.thnE (Post.blkX ?_)))
  have hEl2 : k_89 a0 a0 0 ((decide ((a0.length : Int) ≤ 12))) = b3l2 := (hQl2.symm.trans (by rw [show kl2 = a0.length by omega, List.drop_length, k_89]))
  refine id (Post.thnN ?_)
  exact ⟨b3l2, s_l2, ⟨Has.nil, (by rw [hEl2, LR.seq_go])⟩, rfl, trivial⟩
 intro b3c1 σ_c1 H_c1 L_c1 ds_c1 s_c1 hI_c1
 obtain ⟨hLc1, hTc1⟩ := hI_c1
 refine T.has hLc1 ?_
 refine T.seq ?_
 refine sR ?_
 refine R.mvE rfl cA ?_
 refine R.not rfl rfl ?_
 refine nN ?_
 refine T.cond rfl (fun c38 => ?_) (fun c38 => ?_)
 ·refine T.set 38 (.bool true) (congrArg Value.bool c38) ?_
  refine sR ?_
  refine R.asE rfl cA ?_
  refine nN ?_
  refine T.has Has.nil ?_
  refine T.ret (Post.thnR (Post.ngR ?_))
  have hM : k_2e a0 = 130 := by rw [k_2e, hTc1, LR.seq_go, if_t c38]
  exact fin1L (v := .int .i64 130) [] rfl rfl (List.Sublist.refl _) ⟨rfl, by first | rw [hM] | rfl⟩
 refine T.set 38 (.bool false) (congrArg Value.bool c38) ?_
 refine T.skip (Post.thnN ?_)
 refine sR ?_
 refine R.asE rfl cA ?_
 refine nN ?_
 refine T.has Has.nil ?_
 refine T.ret (Post.ngR ?_)
 have hM : k_2e a0 = 0 := by rw [k_2e, hTc1, LR.seq_go, if_f c38]
 exact fin1L (v := .int .i64 0) [] rfl rfl (List.Sublist.refl _) ⟨rfl, by first | rw [hM] | rfl⟩
end Go.SX

set_option linter.unusedVariables false
set_option linter.unusedSimpArgs false
namespace Go.SX
open Go Go.Proofs

end Go.SX

set_option linter.unusedVariables false
set_option linter.unusedSimpArgs false
namespace Go.SX
open Go Go.Proofs

theorem midI {i j : Int} (h0 : 0 ≤ i) (h1 : i < j) (h2 : j ≤ 2000000) : IntKind.i64.wrap (bshr .u64 (IntKind.u64.wrap (i + j)) 1) = (i + j) / 2 := by
  have e1 : IntKind.u64.wrap (i + j) = i + j := k_c9 ⟨by omega, by omega⟩
  have e2 : bshr .u64 (i + j) 1 = (i + j) / 2 := by
    show (i + j).fdiv (2 ^ (min (1 : Int).toNat 64)) = _
    rw [Int.fdiv_eq_ediv_of_nonneg _ (by decide)]; rfl
  rw [e1, e2, wrap_i64 (by omega) (by omega)]
end Go.SX

set_option linter.unusedVariables false
set_option linter.unusedSimpArgs false
namespace Go.SX
open Go Go.Proofs

end Go.SX

set_option linter.unusedVariables false
set_option linter.unusedSimpArgs false
namespace Go.SX
open Go
theorem within_go (a b : Int) : ∀ l : List Int, k_92 a b l true = withinB a b l
  | [] => rfl
  | y :: ys => by
    rw [k_92]
    simp only [LR.seq, withinB, List.all_cons]
    by_cases h1 : a ≤ y
    · by_cases h2 : y ≤ b
      · simp [h1, h2, within_go a b ys, withinB]
      · simp [h1, h2]
    · simp [h1]
theorem within_eq (a b : Int) (l : List Int) : k_5a a b l = withinB a b l := by
  unfold k_5a; simp only [LR.seq]; exact within_go a b l
theorem within2 {a b n m : Int} : k_5a a b [n, m] = true ↔ (a ≤ n ∧ n ≤ b) ∧ (a ≤ m ∧ m ≤ b) := by
  rw [within_eq]; simp [withinB]
end Go.SX

set_option linter.unusedVariables false
set_option linter.unusedSimpArgs false
namespace Go.SX
open Go
theorem halves_i {x : Int} (h : U x) : k_4a x = (hA x, hB x) := by unfold k_4a; rw [halfA_eq h, halfB_eq h]
theorem halves_r {x : Int} (h : U x) : k_6a x = (hA x, hB x) := by unfold k_6a; rw [halfA_ref h, halfB_ref h]
theorem packed_i {m a b : Int} (hm : m = 0 ∨ m = 4611686018427387904 ∨ m = 9223372036854775808) (ha : 0 ≤ a ∧ a < 1073741824) (hb : 0 ≤ b ∧ b < 1073741824) : k_8b m a b = made m a b := by unfold k_8b; exact pack_eq hm ha hb
theorem made_r {m a b : Int} (hm : m = 0 ∨ m = 4611686018427387904 ∨ m = 9223372036854775808) (ha : 0 ≤ a ∧ a < 1073741824) (hb : 0 ≤ b ∧ b < 1073741824) : k_c m a b = made m a b := by unfold k_c; exact made_ref hm ha hb
theorem is_r (a lo hi : Int) : k_18 a lo hi = withinB lo hi [a] := by
  unfold k_18 withinB
  by_cases h : lo ≤ a <;> simp [h]
theorem within2_B (lo hi a b : Int) : withinB lo hi [a, b] = (withinB lo hi [a] && withinB lo hi [b]) := by simp [withinB]
theorem ite_d {p : Prop} [Decidable p] (b : Bool) : (if p then b else false) = (decide p && b) := by by_cases h : p <;> simp [h]
theorem ite_b (a b : Bool) : (if a = true then b else false) = (a && b) := by cases a <;> simp
theorem kind_i {x : Int} (h : U x) : kindG x = kindI x := by
  have hA' := hA_rng x
  have hB' := hB_rng x
  have e1 : kbG x 1 = kb x 1 := by
    unfold kbG kb k_bb
    rw [halves_i h]
    simp only
    rw [packed_i (.inl rfl) hA' hB', within_eq, within_eq, ite_b, ite_d, Bool.and_assoc]
  have e2 : kbG x 2 = kb x 2 := by
    unfold kbG kb k_c8
    rw [halves_i h]
    simp only
    rw [packed_i (.inr (.inl rfl)) ⟨by omega, by omega⟩ hB', within_eq, ite_d]
  have e3 : kbG x 3 = kb x 3 := by
    unfold kbG kb k_cc
    rw [halves_i h]
    simp only
    rw [packed_i (.inr (.inr rfl)) hA' hB', within_eq, ite_d]
  have e4 : kbG x 4 = kb x 4 := by
    unfold kbG kb k_cb
    rw [halves_i h]
    simp only
    rw [packed_i (.inr (.inr rfl)) hA' hB', within_eq, ite_d]
  unfold kindG kindI
  rw [e1, e2, e3, e4]
theorem kind_r {x : Int} (h : U x) : k_7 x = kindI x := by
  have hA' := hA_rng x
  have hB' := hB_rng x
  unfold k_7 kindI kb
  rw [halves_r h]
  simp only [LR.seq]
  rw [made_r (.inl rfl) hA' hB', made_r (.inr (.inl rfl)) ⟨by omega, by omega⟩ hB', made_r (.inr (.inr rfl)) hA' hB']
  simp only [is_r, ite_b, ite_d, within2_B, Bool.and_assoc, Bool.decide_eq_true]
theorem parts_i {x : Int} (h : U x) : k_40 x = partsI x := by
  unfold k_40 partsI
  rw [halves_i h, kind_i h]
  simp only [LR.seq]
  by_cases h1 : kindI x = 1
  · simp [h1]
  · by_cases h2 : kindI x = 2
    · simp [h2]
    · by_cases h3 : kindI x = 3
      · simp [h3]
      · by_cases h4 : kindI x = 4
        · simp [h4]
        · simp [h1, h2, h3, h4]
theorem parts_r {x : Int} (h : U x) : k_1b x = partsI x := by
  have hk := kind_rng x
  unfold k_1b partsI
  rw [halves_r h, kind_r h]
  simp only [LR.seq]
  by_cases h0 : kindI x = 0
  · simp [h0, LR.on]
  · by_cases h1 : kindI x = 1
    · simp [h1, LR.on]
    · by_cases h2 : kindI x = 2
      · simp [h2, LR.on]
      · have : kindI x = 3 ∨ kindI x = 4 := by omega
        simp [h0, h1, h2, this, LR.on]
end Go.SX

set_option linter.unusedVariables false
set_option linter.unusedSimpArgs false
namespace Go.SX
open Go
theorem adj_up {l : List Int} (h : ∀ i, i + 1 < l.length → l.getD i 0 < l.getD (i + 1) 0) : l.Pairwise (· < ·) := by
  rw [List.pairwise_iff_getElem]
  have key : ∀ (d i : Nat), i + d + 1 < l.length → l.getD i 0 < l.getD (i + d + 1) 0 := by
    intro d
    induction d with
    | zero => intro i hi; exact h i hi
    | succ d ih => intro i hi; exact Int.lt_trans (ih i (by omega)) (h (i + d + 1) (by omega))
  intro i j hi hj hij
  have := key (j - i - 1) i (by omega)
  rw [show i + (j - i - 1) + 1 = j by omega, List.getD_eq_getElem?_getD, List.getD_eq_getElem?_getD, List.getElem?_eq_getElem hi, List.getElem?_eq_getElem hj] at this
  exact this
theorem tcheck_l2 (a : List Int) : ∀ (xs : List Int) (k : Nat) (b : Bool), k_89 a xs k b = true → (b = true ∨ xs = []) ∧ ((xs = [] → b = true) ∧ ∀ (i : Nat) (y : Int), xs[i]? = some y → k_8e y = true ∧ (k + i = 0 ∨ a.getD (k + i - 1) 0 < y))
  | [], k, b, h => ⟨.inr rfl, fun _ => h, fun i y hy => by simp at hy⟩
  | x :: xs, k, b, h => by
    rw [k_89, LR.seq_go] at h
    cases hb : (if b = true then (if k_8e x = true then (if (k : Int) = 0 then true else decide (a.getD (((k : Int) - 1)).toNat 0 < x)) else false) else false) with
    | false => rw [hb] at h; cases h
    | true =>
      rw [hb, if_neg (by decide)] at h
      have ih := tcheck_l2 a xs (k + 1) true h
      have hb1 : b = true := by cases b with | true => rfl | false => simp at hb
      have hm : k_8e x = true := by
        cases hm : k_8e x with
        | true => rfl
        | false => rw [hb1, hm] at hb; simp at hb
      rw [if_pos hb1, if_pos hm] at hb
      refine ⟨.inl hb1, fun h => (by simp at h), fun i y hy => ?_⟩
      cases i with
      | zero =>
        obtain rfl : x = y := by simpa using hy
        refine ⟨hm, ?_⟩
        by_cases h0 : k = 0
        · exact .inl (by omega)
        · rw [if_neg (by omega)] at hb
          have := of_decide_eq_true hb
          rw [show ((k : Int) - 1).toNat = k + 0 - 1 by omega] at this
          exact .inr this
      | succ i =>
        obtain ⟨q1, q2⟩ := ih.2.2 i y (by simpa using hy)
        refine ⟨q1, .inr ?_⟩
        rcases q2 with q2 | q2
        · omega
        · rw [show k + (i + 1) - 1 = k + 1 + i - 1 by omega]; exact q2
theorem tcheck_ok {l : List Int} (h : k_2e l = 0) : l.length ≤ 12 ∧ l.Pairwise (· < ·) ∧ ∀ y ∈ l, k_8e y = true := by
  unfold k_2e at h
  simp only [LR.seq_go] at h
  cases hb : k_89 l l 0 (decide ((l.length : Int) ≤ 12)) with
  | false => rw [hb] at h; simp at h
  | true =>
    have q := tcheck_l2 l l 0 _ hb
    refine ⟨?_, adj_up (fun i hi => ?_), fun y hy => ?_⟩
    · rcases q.1 with q1 | q1
      · have := of_decide_eq_true q1; omega
      · rw [q1]; exact Nat.zero_le _
    · rcases (q.2.2 (i + 1) (l.getD (i + 1) 0) (by rw [List.getD_eq_getElem?_getD, List.getElem?_eq_getElem hi]; rfl)).2 with q1 | q1
      · omega
      · rw [show 0 + (i + 1) - 1 = i by omega] at q1; exact q1
    · obtain ⟨i, hi⟩ := List.mem_iff_getElem?.1 hy
      exact (q.2.2 i y hi).1
theorem made_halves {a b : Int} (ha : 0 ≤ a ∧ a < 1073741824) (hb : 0 ≤ b ∧ b < 1073741824) : U (made 9223372036854775808 a b) ∧ hA (made 9223372036854775808 a b) = a ∧ hB (made 9223372036854775808 a b) = b := by
  unfold made hA hB
  refine ⟨⟨by omega, by omega⟩, by omega, by omega⟩
theorem kind_pair {x : Int} (hu : U x) : kindI x = 3 ↔ x = made 9223372036854775808 (hA x) (hB x) ∧ (1 ≤ hA x ∧ hA x ≤ 1048578) ∧ (1 ≤ hB x ∧ hB x ≤ 1048578) := by
  unfold kindI kb withinB
  simp only [List.all_cons, List.all_nil, Bool.and_true, Bool.and_eq_true, decide_eq_true_eq]
  constructor
  · intro h
    split at h
    · cases h
    · split at h
      · cases h
      · split at h
        · rename_i h3; exact ⟨h3.1, h3.2.1, h3.2.2⟩
        · split at h <;> cases h
  · rintro ⟨h1, h2, h3⟩
    rw [if_neg, if_neg, if_pos ⟨h1, h2, h3⟩]
    · intro q; have := q.1; unfold made at this h1; omega
    · intro q; have := q.1.1; unfold made at this h1; omega
theorem kind_pat {a b : Int} (ha : 0 ≤ a ∧ a ≤ 1048578) (hb : 0 ≤ b ∧ b ≤ 1048578) (h : a = 0 ∨ b = 0) : kindI (made 9223372036854775808 a b) = 4 := by
  obtain ⟨hu, h1, h2⟩ := made_halves (a := a) (b := b) ⟨ha.1, by omega⟩ ⟨hb.1, by omega⟩
  unfold kindI kb withinB
  rw [h1, h2]
  simp only [List.all_cons, List.all_nil, Bool.and_true, Bool.and_eq_true, decide_eq_true_eq]
  rw [if_neg, if_neg, if_neg, if_pos (by simp only [true_and]; exact ⟨ha, hb⟩)]
  · intro q; omega
  · intro q; have := q.1; unfold made at this; omega
  · intro q; have := q.1.1; unfold made at this; omega
theorem pair_ok {a b : Int} (ha : 0 ≤ a ∧ a ≤ 1048578) (hb : 0 ≤ b ∧ b ≤ 1048578) : k_67 a b = (made 9223372036854775808 a b, 0) := by
  unfold k_67
  rw [within2.2 ⟨ha, hb⟩, Bool.not_true, if_neg Bool.false_ne_true, packed_i (.inr (.inr rfl)) ⟨ha.1, by omega⟩ ⟨hb.1, by omega⟩]
theorem parts_pair {y : Int} (hy : U y) (h : kindI y = 3) : k_40 y = (hA y, hB y) := by
  rw [parts_i hy]; unfold partsI
  rw [if_neg (by omega), if_pos (.inl h)]
end Go.SX

set_option linter.unusedVariables false
set_option linter.unusedSimpArgs false
namespace Go.SX
open Go Go.Proofs

def k_9c (a0 : Int) : Bool :=
  (decide (a0 ≠ a0))
set_option maxHeartbeats 3200000 in
theorem cmp_isNaN_Id_c (H : Heap) (a0 : Int) : Fv Tryz.prog (fnv 90) [.int .u64 a0] H (.bool (k_9c a0)) := by
 refine Fc.of_body (N := 6) Tryz.func90 rfl kA rfl rfl ?_
 intro w0
 refine sR ?_
 refine R.asE rfl cA ?_
 refine nN ?_
 refine sR ?_
 refine R.mvE rfl cA ?_
 refine R.mvE rfl cA ?_
 refine R.neq rfl rfl rfl ?_
 refine R.asE rfl cA ?_
 refine nN ?_
 refine T.has Has.nil ?_
 refine T.ret ?_
 have hM : k_9c a0 = (decide (a0 ≠ a0)) := by rw [k_9c]
 exact fin1L (v := .bool (decide (a0 ≠ a0))) [] rfl rfl (List.Sublist.refl _) ⟨rfl, by first | rw [hM] | rfl⟩
def k_8 (a0 : Int) (a1 : Int) : Bool :=
  if (k_9c a0) = true then (if (!(k_9c a1)) = true then true else ((decide (a0 < a1)))) else ((decide (a0 < a1)))
set_option maxHeartbeats 3200000 in
theorem k_41 (H : Heap) (a0 : Int) (a1 : Int) : Fv Tryz.prog (fnv 106) [.int .u64 a0, .int .u64 a1] H (.bool (k_8 a0 a1)) := by
 refine Fc.of_body (N := 17) Tryz.func106 rfl kA rfl rfl ?_
 intro w0
 refine sR ?_
 refine R.asE rfl cA ?_
 refine nN ?_
 refine sR ?_
 refine R.mvE rfl cA ?_
 refine R.callv rfl rfl rfl (cmp_isNaN_Id_c _ (a0)) ?_
 refine R.mvE rfl cA ?_
 refine TL.gsplit 7 rfl (fun g7 => ?_) (fun g7 => ?_)
 ·refine R.mvE rfl cA ?_
  refine R.callv rfl rfl rfl (cmp_isNaN_Id_c _ (a1)) ?_
  refine R.not rfl rfl ?_
  refine R.pkTE rfl rfl cA ?_
  refine R.mvE rfl cA ?_
  refine TL.gsplit 12 rfl (fun g12 => ?_) (fun g12 => ?_)
  ·refine TL.off rfl rfl rfl ?_
   refine TL.off rfl rfl rfl ?_
   refine TL.off rfl rfl rfl ?_
   refine R.pkTE rfl rfl cA ?_
   refine R.asE rfl cA ?_
   refine nN ?_
   refine T.has Has.nil ?_
   refine T.ret ?_
   have hM : k_8 a0 a1 = true := by rw [k_8, if_t g7, if_t g12]
   exact fin1L (v := .bool true) [] rfl rfl (List.Sublist.refl _) ⟨rfl, by first | rw [hM] | rfl⟩
  refine R.mvE rfl cA ?_
  refine R.mvE rfl cA ?_
  refine R.lss rfl rfl rfl ?_
  refine R.pkFE rfl rfl cA ?_
  refine R.asE rfl cA ?_
  refine nN ?_
  refine T.has Has.nil ?_
  refine T.ret ?_
  have hM : k_8 a0 a1 = (decide (a0 < a1)) := by rw [k_8, if_t g7, if_f g12]
  exact fin1L (v := .bool (decide (a0 < a1))) [] rfl rfl (List.Sublist.refl _) ⟨rfl, by first | rw [hM] | rfl⟩
 refine TL.off rfl rfl rfl ?_
 refine TL.off rfl rfl rfl ?_
 refine TL.off rfl rfl rfl ?_
 refine R.pkFE rfl rfl cA ?_
 refine R.mvE rfl cA ?_
 refine R.mvE rfl cA ?_
 refine R.mvE rfl cA ?_
 refine R.lss rfl rfl rfl ?_
 refine R.pkFE rfl rfl cA ?_
 refine R.asE rfl cA ?_
 refine nN ?_
 refine T.has Has.nil ?_
 refine T.ret ?_
 have hM : k_8 a0 a1 = (decide (a0 < a1)) := by rw [k_8, if_f g7]
 exact fin1L (v := .bool (decide (a0 < a1))) [] rfl rfl (List.Sublist.refl _) ⟨rfl, by first | rw [hM] | rfl⟩
end Go.SX

set_option linter.unusedVariables false
set_option linter.unusedSimpArgs false
namespace Go.SX
open Go Go.Proofs

def k_24 (a1 : Int) : Nat → (Int × (List Int)) → Int × (List Int)
  | 0, _ => default
  | ml2 + 1, sl2 => LR.seq (if a1 < sl2.1 then ((k_8 (sl2.2.getD sl2.1.toNat (0 : Int)) (sl2.2.getD (((sl2.1 - 1)).toNat) (0 : Int)))) else false : Bool) (fun sc3 => if sc3 = true then (k_24 a1 ml2 (((sl2.1 - 1), (((sl2.2.set sl2.1.toNat (sl2.2.getD (((sl2.1 - 1)).toNat) (0 : Int)))).set (((sl2.1 - 1)).toNat) (sl2.2.getD sl2.1.toNat (0 : Int)))))) else ((sl2.1, sl2.2)))
def k_30 (a1 : Int) (a2 : Int) : Nat → (Int × (List Int)) → Int × (List Int)
  | 0, _ => default
  | ml1 + 1, sl1 => if sl1.1 < a2 then (LR.seq (k_24 a1 ((sl1.1 - a1).toNat + 1) ((sl1.1, sl1.2))) (fun ol2 => k_30 a1 a2 ml1 (((sl1.1 + 1), ol2.2)))) else ((sl1.1, sl1.2))
def k_56 (a0 : List Int) (a1 : Int) (a2 : Int) : (List Int) :=
  LR.seq (k_30 a1 a2 ((a2 - ((a1 + 1))).toNat + 1) (((a1 + 1), a0))) (fun ol1 => ol1.2)
set_option maxHeartbeats 3200000 in
theorem slices_insertionSortOrdered_Id_c (H : Heap) (va0 : Value) (a0 : List Int) (Ca0 : Chunk) (ha0 : OwnS (intE .u64) 43 H va0 a0 Ca0) (a1 : Int) (a2 : Int) (h1 : 0 ≤ a1) (h2 : a1 ≤ a2) (h3 : a2 ≤ (a0.length : Int)) (hl : a0.length ≤ 4000000) : Fc Tryz.prog (fnv 100) [va0, .int .i64 a1, .int .i64 a2] H [Ca0] (fun v' H' L' => ∃ Da0, v' = .tuple #[] ∧ L' = [Da0] ∧ OwnS (intE .u64) 43 H' va0 (k_56 a0 a1 a2) Da0) := by
 refine Fc.of_body (N := 49) Tryz.func100 rfl kA rfl rfl ?_
 intro w0
 obtain ⟨Aa0, pa0, rfl, ma0, na0⟩ := OwnS.shape ha0
 refine sR ?_
 refine R.mvE rfl cA ?_
 refine R.addI rfl rfl rfl oA ?_
 refine R.asE rfl cA ?_
 refine nN ?_
 refine T.block ?_
 refine T.loop (ι := Nat × Int × (List Int) × Chunk) (fun ⟨kl1, n6l1, xPa0l1, cPa0l1⟩ H' L' ds' => (a2 - n6l1).toNat < kl1 ∧ Has L' [cPa0l1] ∧ OwnS (intE .u64) 43 H' (.slice Aa0 a0.length pa0) xPa0l1 cPa0l1 ∧ a1 ≤ n6l1 ∧ n6l1 ≤ a2 + 1 ∧ k_30 a1 a2 kl1 ((n6l1, xPa0l1)) = k_30 a1 a2 ((a2 - ((a1 + 1))).toNat + 1) (((a1 + 1), a0))) (fun ⟨kl1, n6l1, xPa0l1, cPa0l1⟩ => [(0, .slice Aa0 a0.length pa0), (1, .int .i64 a1), (2, .int .i64 a2), (6, .int .i64 n6l1)]) (fun ⟨kl1, n6l1, xPa0l1, cPa0l1⟩ => kl1) (((a2 - ((a1 + 1))).toNat + 1), (a1 + 1), a0, Ca0) ?_ ?_ ?_
 ·exact ⟨oA, (Has.cons .hd Has.nil), ha0, bA, bA, (by rfl)⟩
 ·exact ⟨rfl, rfl, rfl, rfl, trivial⟩
 intro ⟨kl1, n6l1, xPa0l1, cPa0l1⟩ σ_l1 H_l1 L_l1 ds_l1 s_l1 hI_l1
 obtain ⟨hkl1, hI_l1⟩ := hI_l1
 obtain ⟨ml1, rfl⟩ : ∃ m, kl1 = m + 1 := ⟨kl1 - 1, by omega⟩
 obtain ⟨hLl1, wPa0l1, hBl1_0, hBl1_1, hQl1⟩ := hI_l1
 have nPa0l1_ := OwnS.len wPa0l1
 refine T.has hLl1 ?_
 refine T.seq ?_
 refine sR ?_
 refine R.mvE rfl cA ?_
 refine R.mvE rfl cA ?_
 refine R.lss rfl rfl rfl ?_
 refine nN ?_
 refine T.condD rfl (fun c12 => ?_) (fun c12 => ?_)
 ·refine T.set 12 (.bool true) (congrArg Value.bool (decide_eq_true c12)) ?_
  refine T.skip (Post.thnN ?_)
  refine T.seq ?_
  refine T.block ?_
  refine sR ?_
  refine R.mvE rfl cA ?_
  refine R.asE rfl cA ?_
  refine nN ?_
  refine T.block ?_
  refine T.loop (ι := Nat × Int × (List Int) × Chunk) (fun ⟨kl2, n7l2, xPa0l2, cPa0l2⟩ H' L' ds' => (n7l2 - a1).toNat < kl2 ∧ Has L' [cPa0l2] ∧ OwnS (intE .u64) 43 H' (.slice Aa0 a0.length pa0) xPa0l2 cPa0l2 ∧ a1 ≤ n7l2 ∧ n7l2 < a2 ∧ k_24 a1 kl2 ((n7l2, xPa0l2)) = k_24 a1 ((n6l1 - a1).toNat + 1) ((n6l1, xPa0l1))) (fun ⟨kl2, n7l2, xPa0l2, cPa0l2⟩ => [(0, .slice Aa0 a0.length pa0), (1, .int .i64 a1), (2, .int .i64 a2), (6, .int .i64 n6l1), (7, .int .i64 n7l2)]) (fun ⟨kl2, n7l2, xPa0l2, cPa0l2⟩ => kl2) (((n6l1 - a1).toNat + 1), n6l1, xPa0l1, cPa0l1) ?_ ?_ ?_
  ·exact ⟨oA, (Has.cons .hd Has.nil), wPa0l1, bA, bA, (by rfl)⟩
  ·exact ⟨rfl, rfl, rfl, rfl, rfl, trivial⟩
  intro ⟨kl2, n7l2, xPa0l2, cPa0l2⟩ σ_l2 H_l2 L_l2 ds_l2 s_l2 hI_l2
  obtain ⟨hkl2, hI_l2⟩ := hI_l2
  obtain ⟨ml2, rfl⟩ : ∃ m, kl2 = m + 1 := ⟨kl2 - 1, by omega⟩
  obtain ⟨hLl2, wPa0l2, hBl2_0, hBl2_1, hQl2⟩ := hI_l2
  have nPa0l2_ := OwnS.len wPa0l2
  refine T.has hLl2 ?_
  refine T.seq ?_
  refine T.seq ?_
  refine T.cutK (ι := Bool) (fun b30c3 H' L' ds' => Has L' [cPa0l2] ∧ (if a1 < n7l2 then ((k_8 (xPa0l2.getD n7l2.toNat (0 : Int)) (xPa0l2.getD (((n7l2 - 1)).toNat) (0 : Int)))) else false : Bool) = b30c3) (fun b30c3 => [(0, .slice Aa0 a0.length pa0), (1, .int .i64 a1), (2, .int .i64 a2), (6, .int .i64 n6l1), (7, .int .i64 n7l2), (30, .bool (b30c3))]) ?_ ?_
  ·refine T.draw k_2b kA ?_
   refine vM 0 [1, 2, 3, 4, 5, 6, 7, 8, 9, 10, 11, 12, 13, 14] rfl rfl cA ?_
   refine vM 1 [2, 3, 4, 5, 6, 7, 8, 9, 10, 11, 12, 13, 14] rfl rfl cA ?_
   refine vA 2 [3, 4, 5, 6, 7, 8, 9, 10, 11, 12, 13, 14] rfl (fun _ _ h_ => R.gtr rfl rfl rfl (TL.nil h_)) ?_
   refine vM 3 [4, 5, 6, 7, 8, 9, 10, 11, 12, 13, 14] rfl rfl cA ?_
   refine Plan.gsplitD 19 rfl (fun g19 => ?_) (fun g19 => ?_)
   ·refine vM 4 [5, 6, 7, 8, 9, 10, 11, 12, 13, 14] rfl rfl cA ?_
    refine vM 5 [6, 7, 8, 9, 10, 11, 12, 13, 14] rfl rfl cA ?_
    have hl22 : n7l2.toNat < a0.length := bA
    obtain ⟨y22, e22, h22⟩ : ∃ y, y = (xPa0l2.getD n7l2.toNat (0 : Int)) ∧ xPa0l2[n7l2.toNat]? = some y := ⟨_, rfl, k_6 (by first | exact hl22 | simpa using hl22 | (simp only [List.length_set]; omega) | omega | (rw [(k_1 _).length_eq]; exact hl22))⟩
    obtain ⟨b22, u22, cs22, l22, f22, j22, i22, g22, k22⟩ := OwnS.elem wPa0l2 h22
    obtain rfl : l22 = [.int .u64 y22] := g22
    refine vA 6 [7, 8, 9, 10, 11, 12, 13, 14] rfl (fun _ _ h_ => R.ixp (sz := ((intE .u64)).size) Tryz.underlying30 Tryz.sizeOf43 rfl rfl rfl bA i22 (TL.nil h_)) ?_
    refine vM 8 [7, 9, 10, 11, 12, 13, 14] rfl rfl cA ?_
    refine vM 9 [7, 10, 11, 12, 13, 14] rfl rfl cA ?_
    refine vA 10 [7, 11, 12, 13, 14] rfl (fun _ _ h_ => R.subI rfl rfl rfl oA (TL.nil h_)) ?_
    have hl27 : ((n7l2 - 1)).toNat < a0.length := bA
    obtain ⟨y27, e27, h27⟩ : ∃ y, y = (xPa0l2.getD (((n7l2 - 1)).toNat) (0 : Int)) ∧ xPa0l2[((n7l2 - 1)).toNat]? = some y := ⟨_, rfl, k_6 (by first | exact hl27 | simpa using hl27 | (simp only [List.length_set]; omega) | omega | (rw [(k_1 _).length_eq]; exact hl27))⟩
    obtain ⟨b27, u27, cs27, l27, f27, j27, i27, g27, k27⟩ := OwnS.elem wPa0l2 h27
    obtain rfl : l27 = [.int .u64 y27] := g27
    refine vA 11 [7, 12, 13, 14] rfl (fun _ _ h_ => R.ixp (sz := ((intE .u64)).size) Tryz.underlying30 Tryz.sizeOf43 rfl rfl rfl bA i27 (TL.nil h_)) ?_
    refine Plan.s2 7 12 [12, 13, 14] [7, 13, 14] kA kA kA rfl rfl ?_ ?_
    ·refine R.ld Tryz.isAgg43 rfl rfl (by rw [← f22]; exact .hd) (k22 0 _ rfl) ?_
     refine TL.nil (Plan.e1 (HLe.refl _) ?_)
     refine Plan.s1 12 [13, 14] kA kA rfl ?_
     refine R.ld Tryz.isAgg43 rfl rfl (by rw [← f27]; exact .hd) (k27 0 _ rfl) ?_
     refine TL.nil (Plan.e1 (HLe.refl _) ?_)
     refine vA 13 [14] rfl (fun _ _ h_ => R.callv rfl rfl rfl (k_41 _ (y22) (y27)) (TL.nil h_)) ?_
     refine vA 14 [] rfl (fun _ _ h_ => R.pkTE rfl rfl cA (TL.nil h_)) ?_
     refine Plan.done (Post.thnN ?_)
     exact ⟨(k_8 y22 y27), HLe.refl _, ⟨(Has.cons .hd Has.nil), (by subst e27; subst e22; rw [if_pos g19])⟩, rfl, rfl, rfl, rfl, rfl, rfl, trivial⟩
    refine R.ld Tryz.isAgg43 rfl rfl (by rw [← f27]; exact .hd) (k27 0 _ rfl) ?_
    refine TL.nil (Plan.e1 (HLe.refl _) ?_)
    refine Plan.s1 7 [13, 14] kA kA rfl ?_
    refine R.ld Tryz.isAgg43 rfl rfl (by rw [← f22]; exact .hd) (k22 0 _ rfl) ?_
    refine TL.nil (Plan.e1 (HLe.refl _) ?_)
    refine vA 13 [14] rfl (fun _ _ h_ => R.callv rfl rfl rfl (k_41 _ (y22) (y27)) (TL.nil h_)) ?_
    refine vA 14 [] rfl (fun _ _ h_ => R.pkTE rfl rfl cA (TL.nil h_)) ?_
    refine Plan.done (Post.thnN ?_)
    exact ⟨(k_8 y22 y27), HLe.refl _, ⟨(Has.cons .hd Has.nil), (by subst e27; subst e22; rw [if_pos g19])⟩, rfl, rfl, rfl, rfl, rfl, rfl, trivial⟩
   refine vO 4 [5, 6, 7, 8, 9, 10, 11, 12, 13, 14] rfl rfl rfl rfl ?_
   refine vO 5 [6, 7, 8, 9, 10, 11, 12, 13, 14] rfl rfl rfl rfl ?_
   refine vO 6 [7, 8, 9, 10, 11, 12, 13, 14] rfl rfl rfl rfl ?_
   refine vO 7 [8, 9, 10, 11, 12, 13, 14] rfl rfl rfl rfl ?_
   refine vO 8 [9, 10, 11, 12, 13, 14] rfl rfl rfl rfl ?_
   refine vO 9 [10, 11, 12, 13, 14] rfl rfl rfl rfl ?_
   refine vO 10 [11, 12, 13, 14] rfl rfl rfl rfl ?_
   refine vO 11 [12, 13, 14] rfl rfl rfl rfl ?_
   refine vO 12 [13, 14] rfl rfl rfl rfl ?_
   refine vO 13 [14] rfl rfl rfl rfl ?_
   refine vA 14 [] rfl (fun _ _ h_ => R.pkFE rfl rfl cA (TL.nil h_)) ?_
   refine Plan.done (Post.thnN ?_)
   exact ⟨false, HLe.refl _, ⟨(Has.cons .hd Has.nil), (by rw [if_neg g19])⟩, rfl, rfl, rfl, rfl, rfl, rfl, trivial⟩
  intro b30c3 σ_c3 H_c3 L_c3 ds_c3 s_c3 hI_c3
  obtain ⟨hLc3, hTc3⟩ := hI_c3
  refine T.has hLc3 ?_
  refine T.cond rfl (fun c30 => ?_) (fun c30 => ?_)
  ·refine T.set 30 (.bool true) (congrArg Value.bool c30) ?_
   have hZ30 := hTc3.trans c30
   try simp only [or_f, or_t, k_bf, k_c0, decide_eq_true_eq, decide_eq_false_iff_not, Bool.not_eq_true'] at hZ30
   refine T.skip (Post.thnN ?_)
   refine T.seq ?_
   refine T.block ?_
   refine T.draw k_2b kA ?_
   refine vM 0 [1, 2, 3, 4, 5, 6, 7, 8, 9, 10, 11, 12, 13, 14, 15, 16, 17] rfl rfl cA ?_
   refine vM 1 [2, 3, 4, 5, 6, 7, 8, 9, 10, 11, 12, 13, 14, 15, 16, 17] rfl rfl cA ?_
   refine vM 2 [3, 4, 5, 6, 7, 8, 9, 10, 11, 12, 13, 14, 15, 16, 17] rfl rfl cA ?_
   refine vM 3 [4, 5, 6, 7, 8, 9, 10, 11, 12, 13, 14, 15, 16, 17] rfl rfl cA ?_
   refine vA 4 [5, 6, 7, 8, 9, 10, 11, 12, 13, 14, 15, 16, 17] rfl (fun _ _ h_ => R.subI rfl rfl rfl oA (TL.nil h_)) ?_
   refine vM 5 [6, 7, 8, 9, 10, 11, 12, 13, 14, 15, 16, 17] rfl rfl cA ?_
   refine vM 6 [7, 8, 9, 10, 11, 12, 13, 14, 15, 16, 17] rfl rfl cA ?_
   refine vA 7 [8, 9, 10, 11, 12, 13, 14, 15, 16, 17] rfl (fun _ _ h_ => R.subI rfl rfl rfl oA (TL.nil h_)) ?_
   have hl41 : ((n7l2 - 1)).toNat < a0.length := bA
   obtain ⟨y41, e41, h41⟩ : ∃ y, y = (xPa0l2.getD (((n7l2 - 1)).toNat) (0 : Int)) ∧ xPa0l2[((n7l2 - 1)).toNat]? = some y := ⟨_, rfl, k_6 (by first | exact hl41 | simpa using hl41 | (simp only [List.length_set]; omega) | omega | (rw [(k_1 _).length_eq]; exact hl41))⟩
   obtain ⟨b41, u41, cs41, l41, f41, j41, i41, g41, k41⟩ := OwnS.elem (OwnS.mono wPa0l2 s_c3) h41
   obtain rfl : l41 = [.int .u64 y41] := g41
   refine vA 8 [9, 10, 11, 12, 13, 14, 15, 16, 17] rfl (fun _ _ h_ => R.ixp (sz := ((intE .u64)).size) Tryz.underlying30 Tryz.sizeOf43 rfl rfl rfl bA i41 (TL.nil h_)) ?_
   refine vM 10 [9, 11, 12, 13, 14, 15, 16, 17] rfl rfl cA ?_
   refine vM 11 [9, 12, 13, 14, 15, 16, 17] rfl rfl cA ?_
   have hl45 : n7l2.toNat < a0.length := bA
   obtain ⟨y45, e45, h45⟩ : ∃ y, y = (xPa0l2.getD n7l2.toNat (0 : Int)) ∧ xPa0l2[n7l2.toNat]? = some y := ⟨_, rfl, k_6 (by first | exact hl45 | simpa using hl45 | (simp only [List.length_set]; omega) | omega | (rw [(k_1 _).length_eq]; exact hl45))⟩
   obtain ⟨b45, u45, cs45, l45, f45, j45, i45, g45, k45⟩ := OwnS.elem (OwnS.mono wPa0l2 s_c3) h45
   obtain rfl : l45 = [.int .u64 y45] := g45
   refine vA 12 [9, 13, 14, 15, 16, 17] rfl (fun _ _ h_ => R.ixp (sz := ((intE .u64)).size) Tryz.underlying30 Tryz.sizeOf43 rfl rfl rfl bA i45 (TL.nil h_)) ?_
   refine Plan.s2 9 13 [13, 14, 15, 16, 17] [9, 14, 15, 16, 17] kA kA kA rfl rfl ?_ ?_
   ·refine R.ld Tryz.isAgg43 rfl rfl (by rw [← f41]; exact .hd) (k41 0 _ rfl) ?_
    refine TL.nil (Plan.e1 (HLe.refl _) ?_)
    refine Plan.s1 13 [14, 15, 16, 17] kA kA rfl ?_
    refine R.ld Tryz.isAgg43 rfl rfl (by rw [← f45]; exact .hd) (k45 0 _ rfl) ?_
    refine TL.nil (Plan.e1 (HLe.refl _) ?_)
    have hl47 : n7l2.toNat < a0.length := bA
    obtain ⟨y47, e47, h47⟩ : ∃ y, y = (xPa0l2.getD n7l2.toNat (0 : Int)) ∧ xPa0l2[n7l2.toNat]? = some y := ⟨_, rfl, k_6 (by first | exact hl47 | simpa using hl47 | (simp only [List.length_set]; omega) | omega | (rw [(k_1 _).length_eq]; exact hl47))⟩
    obtain ⟨b47, u47, cs47, l47, f47, j47, i47, g47, k47⟩ := OwnS.elem (OwnS.mono wPa0l2 s_c3) h47
    obtain rfl : l47 = [.int .u64 y47] := g47
    refine vA 14 [15, 16, 17] rfl (fun _ _ h_ => R.ixp (sz := ((intE .u64)).size) Tryz.underlying30 Tryz.sizeOf43 rfl rfl rfl bA i47 (TL.nil h_)) ?_
    refine Plan.s1 15 [16, 17] kA kA rfl ?_
    refine R.stEF (E := (intE .u64)) (e := 43) (v := (.slice Aa0 a0.length pa0)) (m := [.int .u64 y41]) (o := 0) (y := y47) (y' := y41) (j := n7l2.toNat) Tryz.sizeOf43 rfl (OwnS.mono wPa0l2 s_c3) .hd i47 rfl rfl (cells1 rfl) (k_20 rfl) h47 (by show 0 + 1 ≤ 1; decide) (fun l hl => by have e0 : l = [.int .u64 y47] := hl; subst e0; exact rfl) ?_
    intro cst23 wst23
    refine TL.nil (Plan.e0 (HLe.refl _) ?_)
    have hl48 : ((n7l2 - 1)).toNat < a0.length := bA
    obtain ⟨y48, e48, h48⟩ : ∃ y, y = (((xPa0l2.set n7l2.toNat y41)).getD (((n7l2 - 1)).toNat) (0 : Int)) ∧ ((xPa0l2.set n7l2.toNat y41))[((n7l2 - 1)).toNat]? = some y := ⟨_, rfl, k_6 (by first | exact hl48 | simpa using hl48 | (simp only [List.length_set]; omega) | omega | (rw [(k_1 _).length_eq]; exact hl48))⟩
    obtain ⟨b48, u48, cs48, l48, f48, j48, i48, g48, k48⟩ := OwnS.elem wst23 h48
    obtain rfl : l48 = [.int .u64 y48] := g48
    refine vA 16 [17] rfl (fun _ _ h_ => R.ixp (sz := ((intE .u64)).size) Tryz.underlying30 Tryz.sizeOf43 rfl rfl rfl bA i48 (TL.nil h_)) ?_
    refine Plan.s1 17 [] kA kA rfl ?_
    refine R.stEF (E := (intE .u64)) (e := 43) (v := (.slice Aa0 a0.length pa0)) (m := [.int .u64 y45]) (o := 0) (y := y48) (y' := y45) (j := ((n7l2 - 1)).toNat) Tryz.sizeOf43 rfl wst23 .hd i48 rfl rfl (cells1 rfl) (k_20 rfl) h48 (by show 0 + 1 ≤ 1; decide) (fun l hl => by have e0 : l = [.int .u64 y48] := hl; subst e0; exact rfl) ?_
    intro cst24 wst24
    refine TL.nil (Plan.e0 (HLe.refl _) ?_)
    refine Plan.done (Post.blkN ?_)
    refine id (Post.thnN ?_)
    refine T.region ?_
    refine R.mvE rfl cA ?_
    refine R.subI rfl rfl rfl oA ?_
    refine R.asE rfl cA ?_
    refine nN ?_
    exact ⟨(ml2, (n7l2 - 1), (((xPa0l2.set n7l2.toNat y41)).set (((n7l2 - 1)).toNat) y45), cst24), (s_l2.trans s_c3), ⟨(by first | omega | (simp; omega) | (simp at *; omega)), (Has.cons .hd Has.nil), wst24, bA, bA, (by subst e48; subst e47; subst e45; subst e41; rw [← hQl2, k_24]; rw [hTc3, LR.seq_go, if_t c30])⟩, by show ml2 < ml2 + 1; omega, rfl, rfl, rfl, rfl, rfl, trivial⟩
   refine R.ld Tryz.isAgg43 rfl rfl (by rw [← f45]; exact .hd) (k45 0 _ rfl) ?_
   refine TL.nil (Plan.e1 (HLe.refl _) ?_)
   refine Plan.s1 9 [14, 15, 16, 17] kA kA rfl ?_
   refine R.ld Tryz.isAgg43 rfl rfl (by rw [← f41]; exact .hd) (k41 0 _ rfl) ?_
   refine TL.nil (Plan.e1 (HLe.refl _) ?_)
   have hl47 : n7l2.toNat < a0.length := bA
   obtain ⟨y47, e47, h47⟩ : ∃ y, y = (xPa0l2.getD n7l2.toNat (0 : Int)) ∧ xPa0l2[n7l2.toNat]? = some y := ⟨_, rfl, k_6 (by first | exact hl47 | simpa using hl47 | (simp only [List.length_set]; omega) | omega | (rw [(k_1 _).length_eq]; exact hl47))⟩
   obtain ⟨b47, u47, cs47, l47, f47, j47, i47, g47, k47⟩ := OwnS.elem (OwnS.mono wPa0l2 s_c3) h47
   obtain rfl : l47 = [.int .u64 y47] := g47
   refine vA 14 [15, 16, 17] rfl (fun _ _ h_ => R.ixp (sz := ((intE .u64)).size) Tryz.underlying30 Tryz.sizeOf43 rfl rfl rfl bA i47 (TL.nil h_)) ?_
   refine Plan.s1 15 [16, 17] kA kA rfl ?_
   refine R.stEF (E := (intE .u64)) (e := 43) (v := (.slice Aa0 a0.length pa0)) (m := [.int .u64 y41]) (o := 0) (y := y47) (y' := y41) (j := n7l2.toNat) Tryz.sizeOf43 rfl (OwnS.mono wPa0l2 s_c3) .hd i47 rfl rfl (cells1 rfl) (k_20 rfl) h47 (by show 0 + 1 ≤ 1; decide) (fun l hl => by have e0 : l = [.int .u64 y47] := hl; subst e0; exact rfl) ?_
   intro cst25 wst25
   refine TL.nil (Plan.e0 (HLe.refl _) ?_)
   have hl48 : ((n7l2 - 1)).toNat < a0.length := bA
   obtain ⟨y48, e48, h48⟩ : ∃ y, y = (((xPa0l2.set n7l2.toNat y41)).getD (((n7l2 - 1)).toNat) (0 : Int)) ∧ ((xPa0l2.set n7l2.toNat y41))[((n7l2 - 1)).toNat]? = some y := ⟨_, rfl, k_6 (by first | exact hl48 | simpa using hl48 | (simp only [List.length_set]; omega) | omega | (rw [(k_1 _).length_eq]; exact hl48))⟩
   obtain ⟨b48, u48, cs48, l48, f48, j48, i48, g48, k48⟩ := OwnS.elem wst25 h48
   obtain rfl : l48 = [.int .u64 y48] := g48
   refine vA 16 [17] rfl (fun _ _ h_ => R.ixp (sz := ((intE .u64)).size) Tryz.underlying30 Tryz.sizeOf43 rfl rfl rfl bA i48 (TL.nil h_)) ?_
   refine Plan.s1 17 [] kA kA rfl ?_
   refine R.stEF (E := (intE .u64)) (e := 43) (v := (.slice Aa0 a0.length pa0)) (m := [.int .u64 y45]) (o := 0) (y := y48) (y' := y45) (j := ((n7l2 - 1)).toNat) Tryz.sizeOf43 rfl wst25 .hd i48 rfl rfl (cells1 rfl) (k_20 rfl) h48 (by show 0 + 1 ≤ 1; decide) (fun l hl => by have e0 : l = [.int .u64 y48] := hl; subst e0; exact rfl) ?_
   intro cst26 wst26
   refine TL.nil (Plan.e0 (HLe.refl _) ?_)
   refine Plan.done (Post.blkN ?_)
   refine id (Post.thnN ?_)
   refine T.region ?_
   refine R.mvE rfl cA ?_
   refine R.subI rfl rfl rfl oA ?_
   refine R.asE rfl cA ?_
   refine nN ?_
   exact ⟨(ml2, (n7l2 - 1), (((xPa0l2.set n7l2.toNat y41)).set (((n7l2 - 1)).toNat) y45), cst26), (s_l2.trans s_c3), ⟨(by first | omega | (simp; omega) | (simp at *; omega)), (Has.cons .hd Has.nil), wst26, bA, bA, (by subst e48; subst e47; subst e45; subst e41; rw [← hQl2, k_24]; rw [hTc3, LR.seq_go, if_t c30])⟩, by show ml2 < ml2 + 1; omega, rfl, rfl, rfl, rfl, rfl, trivial⟩
  refine T.set 30 (.bool false) (congrArg Value.bool c30) ?_
  have hZ30 := hTc3.trans c30
  try simp only [or_f, or_t, k_bf, k_c0, decide_eq_true_eq, decide_eq_false_iff_not, Bool.not_eq_true'] at hZ30
  refine T.exit (Post.thnE (Post.thnE (Post.blkX ?_)))
  have hEl2 : k_24 a1 ((n6l1 - a1).toNat + 1) ((n6l1, xPa0l1)) = (n7l2, xPa0l2) := (by rw [← hQl2, k_24]; rw [hTc3, LR.seq_go, if_f c30])
  refine id (Post.blkN ?_)
  refine id (Post.thnN ?_)
  refine T.region ?_
  refine R.mvE rfl cA ?_
  refine R.addI rfl rfl rfl oA ?_
  refine R.asE rfl cA ?_
  refine nN ?_
  exact ⟨(ml1, (n6l1 + 1), xPa0l2, cPa0l2), (s_l1.trans (s_l2.trans s_c3)), ⟨(by first | omega | (simp; omega) | (simp at *; omega)), (Has.cons .hd Has.nil), (OwnS.mono wPa0l2 s_c3), bA, bA, (by rw [← hQl1, k_30]; rw [if_pos c12, hEl2, LR.seq_go])⟩, by show ml1 < ml1 + 1; omega, rfl, rfl, rfl, rfl, trivial⟩
 refine T.set 12 (.bool false) (congrArg Value.bool (decide_eq_false c12)) ?_
 refine T.exit (Post.thnE (Post.thnE (Post.blkX ?_)))
 have hEl1 : k_30 a1 a2 ((a2 - ((a1 + 1))).toNat + 1) (((a1 + 1), a0)) = (n6l1, xPa0l1) := (by rw [← hQl1, k_30]; rw [if_neg c12])
 refine id ?_
 have hM : k_56 a0 a1 a2 = xPa0l1 := by rw [k_56, hEl1, LR.seq_go]
 exact fin0N [cPa0l1] rfl (List.Sublist.cons_cons _ (List.nil_sublist _)) ⟨cPa0l1, by first | rw [hM] | rfl, by first | rw [hM] | rfl, by rw [hM]; exact wPa0l1⟩
end Go.SX

set_option linter.unusedVariables false
set_option linter.unusedSimpArgs false
namespace Go.SX
open Go Go.Proofs

def k_27 (a2 : Int) (a3 : Int) : Nat → (Int × (List Int)) → LR ((List Int)) (Int × (List Int))
  | 0, _ => .go default
  | ml1 + 1, sl1 => if a2 ≤ ((2 * sl1.1) + 1) then (.go ((sl1.1, sl1.2))) else (LR.seq (if ((((2 * sl1.1) + 1) + 1) : Int) < a2 then ((k_8 (sl1.2.getD (((a3 + ((2 * sl1.1) + 1))).toNat) (0 : Int)) (sl1.2.getD ((((a3 + ((2 * sl1.1) + 1)) + 1)).toNat) (0 : Int)))) else false : Bool) (fun sc2 => LR.seq (if sc2 = true then ((((2 * sl1.1) + 1) + 1)) else (((2 * sl1.1) + 1)) : Int) (fun sc3 => LR.seq ((!(k_8 (sl1.2.getD (((a3 + sl1.1)).toNat) (0 : Int)) (sl1.2.getD (((a3 + sc3)).toNat) (0 : Int)))) : Bool) (fun sc4 => if sc4 = true then (.ret sl1.2) else (k_27 a2 a3 ml1 ((sc3, (((sl1.2.set (((a3 + sl1.1)).toNat) (sl1.2.getD (((a3 + sc3)).toNat) (0 : Int)))).set (((a3 + sc3)).toNat) (sl1.2.getD (((a3 + sl1.1)).toNat) (0 : Int))))))))))
def k_36 (a0 : List Int) (a1 : Int) (a2 : Int) (a3 : Int) : (List Int) :=
  LR.on (k_27 a2 a3 ((a2 - a1).toNat + 1) ((a1, a0))) (fun r => r) (fun ol1 => ol1.2)
set_option maxHeartbeats 3200000 in
theorem k_c6 (H : Heap) (va0 : Value) (a0 : List Int) (Ca0 : Chunk) (ha0 : OwnS (intE .u64) 43 H va0 a0 Ca0) (a1 : Int) (a2 : Int) (a3 : Int) (h1 : 0 ≤ a1) (h2 : a1 ≤ 4000000) (h3 : 0 ≤ a3) (h4 : a2 + a3 ≤ (a0.length : Int)) (hl : a0.length ≤ 4000000) : Fc Tryz.prog (fnv 111) [va0, .int .i64 a1, .int .i64 a2, .int .i64 a3] H [Ca0] (fun v' H' L' => ∃ Da0, v' = .tuple #[] ∧ L' = [Da0] ∧ OwnS (intE .u64) 43 H' va0 (k_36 a0 a1 a2 a3) Da0) := by
 refine Fc.of_body (N := 76) Tryz.func111 rfl kA rfl rfl ?_
 intro w0
 obtain ⟨Aa0, pa0, rfl, ma0, na0⟩ := OwnS.shape ha0
 refine sR ?_
 refine R.mvE rfl cA ?_
 refine R.asE rfl cA ?_
 refine nN ?_
 refine T.block ?_
 refine T.loop (ι := Nat × Int × (List Int) × Chunk) (fun ⟨kl1, n8l1, xPa0l1, cPa0l1⟩ H' L' ds' => (a2 - n8l1).toNat < kl1 ∧ Has L' [cPa0l1] ∧ OwnS (intE .u64) 43 H' (.slice Aa0 a0.length pa0) xPa0l1 cPa0l1 ∧ 0 ≤ n8l1 ∧ n8l1 ≤ 4000000 ∧ k_27 a2 a3 kl1 ((n8l1, xPa0l1)) = k_27 a2 a3 ((a2 - a1).toNat + 1) ((a1, a0))) (fun ⟨kl1, n8l1, xPa0l1, cPa0l1⟩ => [(0, .slice Aa0 a0.length pa0), (2, .int .i64 a2), (3, .int .i64 a3), (8, .int .i64 n8l1)]) (fun ⟨kl1, n8l1, xPa0l1, cPa0l1⟩ => kl1) (((a2 - a1).toNat + 1), a1, a0, Ca0) ?_ ?_ ?_
 ·exact ⟨oA, (Has.cons .hd Has.nil), ha0, bA, bA, (by rfl)⟩
 ·exact ⟨rfl, rfl, rfl, rfl, trivial⟩
 intro ⟨kl1, n8l1, xPa0l1, cPa0l1⟩ σ_l1 H_l1 L_l1 ds_l1 s_l1 hI_l1
 obtain ⟨hkl1, hI_l1⟩ := hI_l1
 obtain ⟨ml1, rfl⟩ : ∃ m, kl1 = m + 1 := ⟨kl1 - 1, by omega⟩
 obtain ⟨hLl1, wPa0l1, hBl1_0, hBl1_1, hQl1⟩ := hI_l1
 have nPa0l1_ := OwnS.len wPa0l1
 refine T.has hLl1 ?_
 refine T.block ?_
 refine sR ?_
 refine R.mvE rfl cA ?_
 refine R.mulI rfl rfl rfl oA ?_
 refine R.addI rfl rfl rfl oA ?_
 refine R.asE rfl cA ?_
 refine nN ?_
 refine T.seq ?_
 refine sR ?_
 refine R.mvE rfl cA ?_
 refine R.mvE rfl cA ?_
 refine R.geq rfl rfl rfl ?_
 refine nN ?_
 refine T.condD rfl (fun c16 => ?_) (fun c16 => ?_)
 ·refine T.set 16 (.bool true) (congrArg Value.bool (decide_eq_true c16)) ?_
  refine T.exit (Post.thnE (Post.blkE rfl (Post.thnE (Post.blkX ?_))))
  have hEl1 : k_27 a2 a3 ((a2 - a1).toNat + 1) ((a1, a0)) = .go ((n8l1, xPa0l1)) := (by rw [← hQl1, k_27]; rw [if_pos c16])
  refine id ?_
  have hM : k_36 a0 a1 a2 a3 = xPa0l1 := by rw [k_36, hEl1, LR.on_go]
  exact fin0N [cPa0l1] rfl (List.Sublist.cons_cons _ (List.nil_sublist _)) ⟨cPa0l1, by first | rw [hM] | rfl, by first | rw [hM] | rfl, by rw [hM]; exact wPa0l1⟩
 refine T.set 16 (.bool false) (congrArg Value.bool (decide_eq_false c16)) ?_
 refine T.skip (Post.thnN ?_)
 refine T.seq ?_
 refine T.seq ?_
 refine T.cutK (ι := Bool) (fun b36c2 H' L' ds' => Has L' [cPa0l1] ∧ (if ((((2 * n8l1) + 1) + 1) : Int) < a2 then ((k_8 (xPa0l1.getD (((a3 + ((2 * n8l1) + 1))).toNat) (0 : Int)) (xPa0l1.getD ((((a3 + ((2 * n8l1) + 1)) + 1)).toNat) (0 : Int)))) else false : Bool) = b36c2) (fun b36c2 => [(0, .slice Aa0 a0.length pa0), (2, .int .i64 a2), (3, .int .i64 a3), (8, .int .i64 n8l1), (9, .int .i64 ((2 * n8l1) + 1)), (36, .bool (b36c2))]) ?_ ?_
 ·refine T.draw k_2b kA ?_
  refine vM 0 [1, 2, 3, 4, 5, 6, 7, 8, 9, 10, 11, 12, 13, 14, 15, 16, 17, 18, 19] rfl rfl cA ?_
  refine vA 1 [2, 3, 4, 5, 6, 7, 8, 9, 10, 11, 12, 13, 14, 15, 16, 17, 18, 19] rfl (fun _ _ h_ => R.addI rfl rfl rfl oA (TL.nil h_)) ?_
  refine vM 2 [3, 4, 5, 6, 7, 8, 9, 10, 11, 12, 13, 14, 15, 16, 17, 18, 19] rfl rfl cA ?_
  refine vA 3 [4, 5, 6, 7, 8, 9, 10, 11, 12, 13, 14, 15, 16, 17, 18, 19] rfl (fun _ _ h_ => R.lss rfl rfl rfl (TL.nil h_)) ?_
  refine vM 4 [5, 6, 7, 8, 9, 10, 11, 12, 13, 14, 15, 16, 17, 18, 19] rfl rfl cA ?_
  refine Plan.gsplitD 21 rfl (fun g21 => ?_) (fun g21 => ?_)
  ·refine vM 5 [6, 7, 8, 9, 10, 11, 12, 13, 14, 15, 16, 17, 18, 19] rfl rfl cA ?_
   refine vM 6 [7, 8, 9, 10, 11, 12, 13, 14, 15, 16, 17, 18, 19] rfl rfl cA ?_
   refine vM 7 [8, 9, 10, 11, 12, 13, 14, 15, 16, 17, 18, 19] rfl rfl cA ?_
   refine vA 8 [9, 10, 11, 12, 13, 14, 15, 16, 17, 18, 19] rfl (fun _ _ h_ => R.addI rfl rfl rfl oA (TL.nil h_)) ?_
   have hl26 : ((a3 + ((2 * n8l1) + 1))).toNat < a0.length := bA
   obtain ⟨y26, e26, h26⟩ : ∃ y, y = (xPa0l1.getD (((a3 + ((2 * n8l1) + 1))).toNat) (0 : Int)) ∧ xPa0l1[((a3 + ((2 * n8l1) + 1))).toNat]? = some y := ⟨_, rfl, k_6 (by first | exact hl26 | simpa using hl26 | (simp only [List.length_set]; omega) | omega | (rw [(k_1 _).length_eq]; exact hl26))⟩
   obtain ⟨b26, u26, cs26, l26, f26, j26, i26, g26, k26⟩ := OwnS.elem wPa0l1 h26
   obtain rfl : l26 = [.int .u64 y26] := g26
   refine vA 9 [10, 11, 12, 13, 14, 15, 16, 17, 18, 19] rfl (fun _ _ h_ => R.ixp (sz := ((intE .u64)).size) Tryz.underlying30 Tryz.sizeOf43 rfl rfl rfl bA i26 (TL.nil h_)) ?_
   refine vM 11 [10, 12, 13, 14, 15, 16, 17, 18, 19] rfl rfl cA ?_
   refine vM 12 [10, 13, 14, 15, 16, 17, 18, 19] rfl rfl cA ?_
   refine vM 13 [10, 14, 15, 16, 17, 18, 19] rfl rfl cA ?_
   refine vA 14 [10, 15, 16, 17, 18, 19] rfl (fun _ _ h_ => R.addI rfl rfl rfl oA (TL.nil h_)) ?_
   refine vA 15 [10, 16, 17, 18, 19] rfl (fun _ _ h_ => R.addI rfl rfl rfl oA (TL.nil h_)) ?_
   have hl33 : (((a3 + ((2 * n8l1) + 1)) + 1)).toNat < a0.length := bA
   obtain ⟨y33, e33, h33⟩ : ∃ y, y = (xPa0l1.getD ((((a3 + ((2 * n8l1) + 1)) + 1)).toNat) (0 : Int)) ∧ xPa0l1[(((a3 + ((2 * n8l1) + 1)) + 1)).toNat]? = some y := ⟨_, rfl, k_6 (by first | exact hl33 | simpa using hl33 | (simp only [List.length_set]; omega) | omega | (rw [(k_1 _).length_eq]; exact hl33))⟩
   obtain ⟨b33, u33, cs33, l33, f33, j33, i33, g33, k33⟩ := OwnS.elem wPa0l1 h33
   obtain rfl : l33 = [.int .u64 y33] := g33
   refine vA 16 [10, 17, 18, 19] rfl (fun _ _ h_ => R.ixp (sz := ((intE .u64)).size) Tryz.underlying30 Tryz.sizeOf43 rfl rfl rfl bA i33 (TL.nil h_)) ?_
   refine Plan.s2 10 17 [17, 18, 19] [10, 18, 19] kA kA kA rfl rfl ?_ ?_
   ·refine R.ld Tryz.isAgg43 rfl rfl (by rw [← f26]; exact .hd) (k26 0 _ rfl) ?_
    refine TL.nil (Plan.e1 (HLe.refl _) ?_)
    refine Plan.s1 17 [18, 19] kA kA rfl ?_
    refine R.ld Tryz.isAgg43 rfl rfl (by rw [← f33]; exact .hd) (k33 0 _ rfl) ?_
    refine TL.nil (Plan.e1 (HLe.refl _) ?_)
    refine vA 18 [19] rfl (fun _ _ h_ => R.callv rfl rfl rfl (k_41 _ (y26) (y33)) (TL.nil h_)) ?_
    refine vA 19 [] rfl (fun _ _ h_ => R.pkTE rfl rfl cA (TL.nil h_)) ?_
    refine Plan.done (Post.thnN ?_)
    exact ⟨(k_8 y26 y33), HLe.refl _, ⟨(Has.cons .hd Has.nil), (by subst e33; subst e26; rw [if_pos g21])⟩, rfl, rfl, rfl, rfl, rfl, rfl, trivial⟩
   refine R.ld Tryz.isAgg43 rfl rfl (by rw [← f33]; exact .hd) (k33 0 _ rfl) ?_
   refine TL.nil (Plan.e1 (HLe.refl _) ?_)
   refine Plan.s1 10 [18, 19] kA kA rfl ?_
   refine R.ld Tryz.isAgg43 rfl rfl (by rw [← f26]; exact .hd) (k26 0 _ rfl) ?_
   refine TL.nil (Plan.e1 (HLe.refl _) ?_)
   refine vA 18 [19] rfl (fun _ _ h_ => R.callv rfl rfl rfl (k_41 _ (y26) (y33)) (TL.nil h_)) ?_
   refine vA 19 [] rfl (fun _ _ h_ => R.pkTE rfl rfl cA (TL.nil h_)) ?_
   refine Plan.done (Post.thnN ?_)
   exact ⟨(k_8 y26 y33), HLe.refl _, ⟨(Has.cons .hd Has.nil), (by subst e33; subst e26; rw [if_pos g21])⟩, rfl, rfl, rfl, rfl, rfl, rfl, trivial⟩
  refine vO 5 [6, 7, 8, 9, 10, 11, 12, 13, 14, 15, 16, 17, 18, 19] rfl rfl rfl rfl ?_
  refine vO 6 [7, 8, 9, 10, 11, 12, 13, 14, 15, 16, 17, 18, 19] rfl rfl rfl rfl ?_
  refine vO 7 [8, 9, 10, 11, 12, 13, 14, 15, 16, 17, 18, 19] rfl rfl rfl rfl ?_
  refine vO 8 [9, 10, 11, 12, 13, 14, 15, 16, 17, 18, 19] rfl rfl rfl rfl ?_
  refine vO 9 [10, 11, 12, 13, 14, 15, 16, 17, 18, 19] rfl rfl rfl rfl ?_
  refine vO 10 [11, 12, 13, 14, 15, 16, 17, 18, 19] rfl rfl rfl rfl ?_
  refine vO 11 [12, 13, 14, 15, 16, 17, 18, 19] rfl rfl rfl rfl ?_
  refine vO 12 [13, 14, 15, 16, 17, 18, 19] rfl rfl rfl rfl ?_
  refine vO 13 [14, 15, 16, 17, 18, 19] rfl rfl rfl rfl ?_
  refine vO 14 [15, 16, 17, 18, 19] rfl rfl rfl rfl ?_
  refine vO 15 [16, 17, 18, 19] rfl rfl rfl rfl ?_
  refine vO 16 [17, 18, 19] rfl rfl rfl rfl ?_
  refine vO 17 [18, 19] rfl rfl rfl rfl ?_
  refine vO 18 [19] rfl rfl rfl rfl ?_
  refine vA 19 [] rfl (fun _ _ h_ => R.pkFE rfl rfl cA (TL.nil h_)) ?_
  refine Plan.done (Post.thnN ?_)
  exact ⟨false, HLe.refl _, ⟨(Has.cons .hd Has.nil), (by rw [if_neg g21])⟩, rfl, rfl, rfl, rfl, rfl, rfl, trivial⟩
 intro b36c2 σ_c2 H_c2 L_c2 ds_c2 s_c2 hI_c2
 obtain ⟨hLc2, hTc2⟩ := hI_c2
 refine T.has hLc2 ?_
 refine T.cutK (ι := Int) (fun n9c3 H' L' ds' => Has L' [cPa0l1] ∧ n9c3 < a2 ∧ n8l1 < n9c3 ∧ (if b36c2 = true then ((((2 * n8l1) + 1) + 1)) else (((2 * n8l1) + 1)) : Int) = n9c3) (fun n9c3 => [(0, .slice Aa0 a0.length pa0), (2, .int .i64 a2), (3, .int .i64 a3), (8, .int .i64 n8l1), (9, .int .i64 n9c3)]) ?_ ?_
 ·refine T.cond rfl (fun c36 => ?_) (fun c36 => ?_)
  ·refine T.set 36 (.bool true) (congrArg Value.bool c36) ?_
   have hZ36 := hTc2.trans c36
   try simp only [or_f, or_t, k_bf, k_c0, decide_eq_true_eq, decide_eq_false_iff_not, Bool.not_eq_true'] at hZ36
   refine T.region ?_
   refine R.mvE rfl cA ?_
   refine R.addI rfl rfl rfl oA ?_
   refine R.asE rfl cA ?_
   refine nN ?_
   exact ⟨(((2 * n8l1) + 1) + 1), HLe.refl _, ⟨(Has.cons .hd Has.nil), bA, bA, (by rw [if_t c36])⟩, rfl, rfl, rfl, rfl, rfl, trivial⟩
  refine T.set 36 (.bool false) (congrArg Value.bool c36) ?_
  have hZ36 := hTc2.trans c36
  try simp only [or_f, or_t, k_bf, k_c0, decide_eq_true_eq, decide_eq_false_iff_not, Bool.not_eq_true'] at hZ36
  refine T.skip (Post.thnN ?_)
  exact ⟨((2 * n8l1) + 1), HLe.refl _, ⟨(Has.cons .hd Has.nil), bA, bA, (by rw [if_f c36])⟩, rfl, rfl, rfl, rfl, rfl, trivial⟩
 intro n9c3 σ_c3 H_c3 L_c3 ds_c3 s_c3 hI_c3
 obtain ⟨hLc3, hBc3_0, hBc3_1, hTc3⟩ := hI_c3
 refine T.has hLc3 ?_
 refine T.seq ?_
 refine T.seq ?_
 refine T.cutK (ι := Bool) (fun b52c4 H' L' ds' => Has L' [cPa0l1] ∧ ((!(k_8 (xPa0l1.getD (((a3 + n8l1)).toNat) (0 : Int)) (xPa0l1.getD (((a3 + n9c3)).toNat) (0 : Int)))) : Bool) = b52c4) (fun b52c4 => [(0, .slice Aa0 a0.length pa0), (2, .int .i64 a2), (3, .int .i64 a3), (8, .int .i64 n8l1), (9, .int .i64 n9c3), (52, .bool (b52c4))]) ?_ ?_
 ·refine T.draw k_2b kA ?_
  refine vM 0 [1, 2, 3, 4, 5, 6, 7, 8, 9, 10, 11, 12, 13] rfl rfl cA ?_
  refine vM 1 [2, 3, 4, 5, 6, 7, 8, 9, 10, 11, 12, 13] rfl rfl cA ?_
  refine vM 2 [3, 4, 5, 6, 7, 8, 9, 10, 11, 12, 13] rfl rfl cA ?_
  refine vA 3 [4, 5, 6, 7, 8, 9, 10, 11, 12, 13] rfl (fun _ _ h_ => R.addI rfl rfl rfl oA (TL.nil h_)) ?_
  have hl43 : ((a3 + n8l1)).toNat < a0.length := bA
  obtain ⟨y43, e43, h43⟩ : ∃ y, y = (xPa0l1.getD (((a3 + n8l1)).toNat) (0 : Int)) ∧ xPa0l1[((a3 + n8l1)).toNat]? = some y := ⟨_, rfl, k_6 (by first | exact hl43 | simpa using hl43 | (simp only [List.length_set]; omega) | omega | (rw [(k_1 _).length_eq]; exact hl43))⟩
  obtain ⟨b43, u43, cs43, l43, f43, j43, i43, g43, k43⟩ := OwnS.elem (OwnS.mono wPa0l1 (s_c2.trans s_c3)) h43
  obtain rfl : l43 = [.int .u64 y43] := g43
  refine vA 4 [5, 6, 7, 8, 9, 10, 11, 12, 13] rfl (fun _ _ h_ => R.ixp (sz := ((intE .u64)).size) Tryz.underlying30 Tryz.sizeOf43 rfl rfl rfl bA i43 (TL.nil h_)) ?_
  refine vM 6 [5, 7, 8, 9, 10, 11, 12, 13] rfl rfl cA ?_
  refine vM 7 [5, 8, 9, 10, 11, 12, 13] rfl rfl cA ?_
  refine vM 8 [5, 9, 10, 11, 12, 13] rfl rfl cA ?_
  refine vA 9 [5, 10, 11, 12, 13] rfl (fun _ _ h_ => R.addI rfl rfl rfl oA (TL.nil h_)) ?_
  have hl49 : ((a3 + n9c3)).toNat < a0.length := bA
  obtain ⟨y49, e49, h49⟩ : ∃ y, y = (xPa0l1.getD (((a3 + n9c3)).toNat) (0 : Int)) ∧ xPa0l1[((a3 + n9c3)).toNat]? = some y := ⟨_, rfl, k_6 (by first | exact hl49 | simpa using hl49 | (simp only [List.length_set]; omega) | omega | (rw [(k_1 _).length_eq]; exact hl49))⟩
  obtain ⟨b49, u49, cs49, l49, f49, j49, i49, g49, k49⟩ := OwnS.elem (OwnS.mono wPa0l1 (s_c2.trans s_c3)) h49
  obtain rfl : l49 = [.int .u64 y49] := g49
  refine vA 10 [5, 11, 12, 13] rfl (fun _ _ h_ => R.ixp (sz := ((intE .u64)).size) Tryz.underlying30 Tryz.sizeOf43 rfl rfl rfl bA i49 (TL.nil h_)) ?_
  refine Plan.s2 5 11 [11, 12, 13] [5, 12, 13] kA kA kA rfl rfl ?_ ?_
  ·refine R.ld Tryz.isAgg43 rfl rfl (by rw [← f43]; exact .hd) (k43 0 _ rfl) ?_
   refine TL.nil (Plan.e1 (HLe.refl _) ?_)
   refine Plan.s1 11 [12, 13] kA kA rfl ?_
   refine R.ld Tryz.isAgg43 rfl rfl (by rw [← f49]; exact .hd) (k49 0 _ rfl) ?_
   refine TL.nil (Plan.e1 (HLe.refl _) ?_)
   refine vA 12 [13] rfl (fun _ _ h_ => R.callv rfl rfl rfl (k_41 _ (y43) (y49)) (TL.nil h_)) ?_
   refine vA 13 [] rfl (fun _ _ h_ => R.not rfl rfl (TL.nil h_)) ?_
   refine Plan.done (Post.thnN ?_)
   exact ⟨(!(k_8 y43 y49)), HLe.refl _, ⟨(Has.cons .hd Has.nil), (by subst e49; subst e43; rfl)⟩, rfl, rfl, rfl, rfl, rfl, rfl, trivial⟩
  refine R.ld Tryz.isAgg43 rfl rfl (by rw [← f49]; exact .hd) (k49 0 _ rfl) ?_
  refine TL.nil (Plan.e1 (HLe.refl _) ?_)
  refine Plan.s1 5 [12, 13] kA kA rfl ?_
  refine R.ld Tryz.isAgg43 rfl rfl (by rw [← f43]; exact .hd) (k43 0 _ rfl) ?_
  refine TL.nil (Plan.e1 (HLe.refl _) ?_)
  refine vA 12 [13] rfl (fun _ _ h_ => R.callv rfl rfl rfl (k_41 _ (y43) (y49)) (TL.nil h_)) ?_
  refine vA 13 [] rfl (fun _ _ h_ => R.not rfl rfl (TL.nil h_)) ?_
  refine Plan.done (Post.thnN ?_)
  exact ⟨(!(k_8 y43 y49)), HLe.refl _, ⟨(Has.cons .hd Has.nil), (by subst e49; subst e43; rfl)⟩, rfl, rfl, rfl, rfl, rfl, rfl, trivial⟩
 intro b52c4 σ_c4 H_c4 L_c4 ds_c4 s_c4 hI_c4
 obtain ⟨hLc4, hTc4⟩ := hI_c4
 refine T.has hLc4 ?_
 refine T.cond rfl (fun c52 => ?_) (fun c52 => ?_)
 ·refine T.set 52 (.bool true) (congrArg Value.bool c52) ?_
  have hZ52 := hTc4.trans c52
  try simp only [or_f, or_t, k_bf, k_c0, decide_eq_true_eq, decide_eq_false_iff_not, Bool.not_eq_true'] at hZ52
  refine T.has (Has.cons .hd Has.nil) ?_
  refine T.ret (Post.thnR (Post.blkR (Post.thnR (Post.blkR ?_))))
  have hXl1 : k_27 a2 a3 ((a2 - a1).toNat + 1) ((a1, a0)) = .ret xPa0l1 := by rw [← hQl1, k_27]; rw [if_neg c16, hTc2, LR.seq_go, hTc3, LR.seq_go, hTc4, LR.seq_go, if_t c52]
  have hM : k_36 a0 a1 a2 a3 = xPa0l1 := by rw [k_36, hXl1, LR.on_ret]
  exact fin0L [cPa0l1] rfl (List.Sublist.refl _) ⟨cPa0l1, by first | rw [hM] | rfl, by first | rw [hM] | rfl, by rw [hM]; exact (OwnS.mono wPa0l1 (s_c2.trans (s_c3.trans s_c4)))⟩
 refine T.set 52 (.bool false) (congrArg Value.bool c52) ?_
 have hZ52 := hTc4.trans c52
 try simp only [or_f, or_t, k_bf, k_c0, decide_eq_true_eq, decide_eq_false_iff_not, Bool.not_eq_true'] at hZ52
 refine T.skip (Post.thnN ?_)
 refine T.seq ?_
 refine T.draw k_2b kA ?_
 refine vM 0 [1, 2, 3, 4, 5, 6, 7, 8, 9, 10, 11, 12, 13, 14, 15, 16, 17, 18, 19, 20, 21, 22, 23] rfl rfl cA ?_
 refine vM 1 [2, 3, 4, 5, 6, 7, 8, 9, 10, 11, 12, 13, 14, 15, 16, 17, 18, 19, 20, 21, 22, 23] rfl rfl cA ?_
 refine vM 2 [3, 4, 5, 6, 7, 8, 9, 10, 11, 12, 13, 14, 15, 16, 17, 18, 19, 20, 21, 22, 23] rfl rfl cA ?_
 refine vA 3 [4, 5, 6, 7, 8, 9, 10, 11, 12, 13, 14, 15, 16, 17, 18, 19, 20, 21, 22, 23] rfl (fun _ _ h_ => R.addI rfl rfl rfl oA (TL.nil h_)) ?_
 refine vM 4 [5, 6, 7, 8, 9, 10, 11, 12, 13, 14, 15, 16, 17, 18, 19, 20, 21, 22, 23] rfl rfl cA ?_
 refine vM 5 [6, 7, 8, 9, 10, 11, 12, 13, 14, 15, 16, 17, 18, 19, 20, 21, 22, 23] rfl rfl cA ?_
 refine vM 6 [7, 8, 9, 10, 11, 12, 13, 14, 15, 16, 17, 18, 19, 20, 21, 22, 23] rfl rfl cA ?_
 refine vA 7 [8, 9, 10, 11, 12, 13, 14, 15, 16, 17, 18, 19, 20, 21, 22, 23] rfl (fun _ _ h_ => R.addI rfl rfl rfl oA (TL.nil h_)) ?_
 refine vM 8 [9, 10, 11, 12, 13, 14, 15, 16, 17, 18, 19, 20, 21, 22, 23] rfl rfl cA ?_
 refine vM 9 [10, 11, 12, 13, 14, 15, 16, 17, 18, 19, 20, 21, 22, 23] rfl rfl cA ?_
 refine vM 10 [11, 12, 13, 14, 15, 16, 17, 18, 19, 20, 21, 22, 23] rfl rfl cA ?_
 refine vA 11 [12, 13, 14, 15, 16, 17, 18, 19, 20, 21, 22, 23] rfl (fun _ _ h_ => R.addI rfl rfl rfl oA (TL.nil h_)) ?_
 have hl65 : ((a3 + n9c3)).toNat < a0.length := bA
 obtain ⟨y65, e65, h65⟩ : ∃ y, y = (xPa0l1.getD (((a3 + n9c3)).toNat) (0 : Int)) ∧ xPa0l1[((a3 + n9c3)).toNat]? = some y := ⟨_, rfl, k_6 (by first | exact hl65 | simpa using hl65 | (simp only [List.length_set]; omega) | omega | (rw [(k_1 _).length_eq]; exact hl65))⟩
 obtain ⟨b65, u65, cs65, l65, f65, j65, i65, g65, k65⟩ := OwnS.elem (OwnS.mono wPa0l1 (s_c2.trans (s_c3.trans s_c4))) h65
 obtain rfl : l65 = [.int .u64 y65] := g65
 refine vA 12 [13, 14, 15, 16, 17, 18, 19, 20, 21, 22, 23] rfl (fun _ _ h_ => R.ixp (sz := ((intE .u64)).size) Tryz.underlying30 Tryz.sizeOf43 rfl rfl rfl bA i65 (TL.nil h_)) ?_
 refine vM 14 [13, 15, 16, 17, 18, 19, 20, 21, 22, 23] rfl rfl cA ?_
 refine vM 15 [13, 16, 17, 18, 19, 20, 21, 22, 23] rfl rfl cA ?_
 refine vM 16 [13, 17, 18, 19, 20, 21, 22, 23] rfl rfl cA ?_
 refine vA 17 [13, 18, 19, 20, 21, 22, 23] rfl (fun _ _ h_ => R.addI rfl rfl rfl oA (TL.nil h_)) ?_
 have hl71 : ((a3 + n8l1)).toNat < a0.length := bA
 obtain ⟨y71, e71, h71⟩ : ∃ y, y = (xPa0l1.getD (((a3 + n8l1)).toNat) (0 : Int)) ∧ xPa0l1[((a3 + n8l1)).toNat]? = some y := ⟨_, rfl, k_6 (by first | exact hl71 | simpa using hl71 | (simp only [List.length_set]; omega) | omega | (rw [(k_1 _).length_eq]; exact hl71))⟩
 obtain ⟨b71, u71, cs71, l71, f71, j71, i71, g71, k71⟩ := OwnS.elem (OwnS.mono wPa0l1 (s_c2.trans (s_c3.trans s_c4))) h71
 obtain rfl : l71 = [.int .u64 y71] := g71
 refine vA 18 [13, 19, 20, 21, 22, 23] rfl (fun _ _ h_ => R.ixp (sz := ((intE .u64)).size) Tryz.underlying30 Tryz.sizeOf43 rfl rfl rfl bA i71 (TL.nil h_)) ?_
 refine Plan.s2 13 19 [19, 20, 21, 22, 23] [13, 20, 21, 22, 23] kA kA kA rfl rfl ?_ ?_
 ·refine R.ld Tryz.isAgg43 rfl rfl (by rw [← f65]; exact .hd) (k65 0 _ rfl) ?_
  refine TL.nil (Plan.e1 (HLe.refl _) ?_)
  refine Plan.s1 19 [20, 21, 22, 23] kA kA rfl ?_
  refine R.ld Tryz.isAgg43 rfl rfl (by rw [← f71]; exact .hd) (k71 0 _ rfl) ?_
  refine TL.nil (Plan.e1 (HLe.refl _) ?_)
  have hl73 : ((a3 + n8l1)).toNat < a0.length := bA
  obtain ⟨y73, e73, h73⟩ : ∃ y, y = (xPa0l1.getD (((a3 + n8l1)).toNat) (0 : Int)) ∧ xPa0l1[((a3 + n8l1)).toNat]? = some y := ⟨_, rfl, k_6 (by first | exact hl73 | simpa using hl73 | (simp only [List.length_set]; omega) | omega | (rw [(k_1 _).length_eq]; exact hl73))⟩
  obtain ⟨b73, u73, cs73, l73, f73, j73, i73, g73, k73⟩ := OwnS.elem (OwnS.mono wPa0l1 (s_c2.trans (s_c3.trans s_c4))) h73
  obtain rfl : l73 = [.int .u64 y73] := g73
  refine vA 20 [21, 22, 23] rfl (fun _ _ h_ => R.ixp (sz := ((intE .u64)).size) Tryz.underlying30 Tryz.sizeOf43 rfl rfl rfl bA i73 (TL.nil h_)) ?_
  refine Plan.s1 21 [22, 23] kA kA rfl ?_
  refine R.stEF (E := (intE .u64)) (e := 43) (v := (.slice Aa0 a0.length pa0)) (m := [.int .u64 y65]) (o := 0) (y := y73) (y' := y65) (j := ((a3 + n8l1)).toNat) Tryz.sizeOf43 rfl (OwnS.mono wPa0l1 (s_c2.trans (s_c3.trans s_c4))) .hd i73 rfl rfl (cells1 rfl) (k_20 rfl) h73 (by show 0 + 1 ≤ 1; decide) (fun l hl => by have e0 : l = [.int .u64 y73] := hl; subst e0; exact rfl) ?_
  intro cst11 wst11
  refine TL.nil (Plan.e0 (HLe.refl _) ?_)
  have hl74 : ((a3 + n9c3)).toNat < a0.length := bA
  obtain ⟨y74, e74, h74⟩ : ∃ y, y = (((xPa0l1.set (((a3 + n8l1)).toNat) y65)).getD (((a3 + n9c3)).toNat) (0 : Int)) ∧ ((xPa0l1.set (((a3 + n8l1)).toNat) y65))[((a3 + n9c3)).toNat]? = some y := ⟨_, rfl, k_6 (by first | exact hl74 | simpa using hl74 | (simp only [List.length_set]; omega) | omega | (rw [(k_1 _).length_eq]; exact hl74))⟩
  obtain ⟨b74, u74, cs74, l74, f74, j74, i74, g74, k74⟩ := OwnS.elem wst11 h74
  obtain rfl : l74 = [.int .u64 y74] := g74
  refine vA 22 [23] rfl (fun _ _ h_ => R.ixp (sz := ((intE .u64)).size) Tryz.underlying30 Tryz.sizeOf43 rfl rfl rfl bA i74 (TL.nil h_)) ?_
  refine Plan.s1 23 [] kA kA rfl ?_
  refine R.stEF (E := (intE .u64)) (e := 43) (v := (.slice Aa0 a0.length pa0)) (m := [.int .u64 y71]) (o := 0) (y := y74) (y' := y71) (j := ((a3 + n9c3)).toNat) Tryz.sizeOf43 rfl wst11 .hd i74 rfl rfl (cells1 rfl) (k_20 rfl) h74 (by show 0 + 1 ≤ 1; decide) (fun l hl => by have e0 : l = [.int .u64 y74] := hl; subst e0; exact rfl) ?_
  intro cst12 wst12
  refine TL.nil (Plan.e0 (HLe.refl _) ?_)
  refine Plan.done (Post.thnN ?_)
  refine T.region ?_
  refine R.mvE rfl cA ?_
  refine R.asE rfl cA ?_
  refine TL.nil (Post.blkN ?_)
  refine id (Post.thnN ?_)
  exact ⟨(ml1, n9c3, (((xPa0l1.set (((a3 + n8l1)).toNat) y65)).set (((a3 + n9c3)).toNat) y71), cst12), (s_l1.trans (s_c2.trans (s_c3.trans s_c4))), ⟨(by first | omega | (simp; omega) | (simp at *; omega)), (Has.cons .hd Has.nil), wst12, bA, bA, (by subst e74; subst e73; subst e71; subst e65; rw [← hQl1, k_27]; rw [if_neg c16, hTc2, LR.seq_go, hTc3, LR.seq_go, hTc4, LR.seq_go, if_f c52])⟩, by show ml1 < ml1 + 1; omega, rfl, rfl, rfl, rfl, trivial⟩
 refine R.ld Tryz.isAgg43 rfl rfl (by rw [← f71]; exact .hd) (k71 0 _ rfl) ?_
 refine TL.nil (Plan.e1 (HLe.refl _) ?_)
 refine Plan.s1 13 [20, 21, 22, 23] kA kA rfl ?_
 refine R.ld Tryz.isAgg43 rfl rfl (by rw [← f65]; exact .hd) (k65 0 _ rfl) ?_
 refine TL.nil (Plan.e1 (HLe.refl _) ?_)
 have hl73 : ((a3 + n8l1)).toNat < a0.length := bA
 obtain ⟨y73, e73, h73⟩ : ∃ y, y = (xPa0l1.getD (((a3 + n8l1)).toNat) (0 : Int)) ∧ xPa0l1[((a3 + n8l1)).toNat]? = some y := ⟨_, rfl, k_6 (by first | exact hl73 | simpa using hl73 | (simp only [List.length_set]; omega) | omega | (rw [(k_1 _).length_eq]; exact hl73))⟩
 obtain ⟨b73, u73, cs73, l73, f73, j73, i73, g73, k73⟩ := OwnS.elem (OwnS.mono wPa0l1 (s_c2.trans (s_c3.trans s_c4))) h73
 obtain rfl : l73 = [.int .u64 y73] := g73
 refine vA 20 [21, 22, 23] rfl (fun _ _ h_ => R.ixp (sz := ((intE .u64)).size) Tryz.underlying30 Tryz.sizeOf43 rfl rfl rfl bA i73 (TL.nil h_)) ?_
 refine Plan.s1 21 [22, 23] kA kA rfl ?_
 refine R.stEF (E := (intE .u64)) (e := 43) (v := (.slice Aa0 a0.length pa0)) (m := [.int .u64 y65]) (o := 0) (y := y73) (y' := y65) (j := ((a3 + n8l1)).toNat) Tryz.sizeOf43 rfl (OwnS.mono wPa0l1 (s_c2.trans (s_c3.trans s_c4))) .hd i73 rfl rfl (cells1 rfl) (k_20 rfl) h73 (by show 0 + 1 ≤ 1; decide) (fun l hl => by have e0 : l = [.int .u64 y73] := hl; subst e0; exact rfl) ?_
 intro cst13 wst13
 refine TL.nil (Plan.e0 (HLe.refl _) ?_)
 have hl74 : ((a3 + n9c3)).toNat < a0.length := bA
 obtain ⟨y74, e74, h74⟩ : ∃ y, y = (((xPa0l1.set (((a3 + n8l1)).toNat) y65)).getD (((a3 + n9c3)).toNat) (0 : Int)) ∧ ((xPa0l1.set (((a3 + n8l1)).toNat) y65))[((a3 + n9c3)).toNat]? = some y := ⟨_, rfl, k_6 (by first | exact hl74 | simpa using hl74 | (simp only [List.length_set]; omega) | omega | (rw [(k_1 _).length_eq]; exact hl74))⟩
 obtain ⟨b74, u74, cs74, l74, f74, j74, i74, g74, k74⟩ := OwnS.elem wst13 h74
 obtain rfl : l74 = [.int .u64 y74] := g74
 refine vA 22 [23] rfl (fun _ _ h_ => R.ixp (sz := ((intE .u64)).size) Tryz.underlying30 Tryz.sizeOf43 rfl rfl rfl bA i74 (TL.nil h_)) ?_
 refine Plan.s1 23 [] kA kA rfl ?_
 refine R.stEF (E := (intE .u64)) (e := 43) (v := (.slice Aa0 a0.length pa0)) (m := [.int .u64 y71]) (o := 0) (y := y74) (y' := y71) (j := ((a3 + n9c3)).toNat) Tryz.sizeOf43 rfl wst13 .hd i74 rfl rfl (cells1 rfl) (k_20 rfl) h74 (by show 0 + 1 ≤ 1; decide) (fun l hl => by have e0 : l = [.int .u64 y74] := hl; subst e0; exact rfl) ?_
 intro cst14 wst14
 refine TL.nil (Plan.e0 (HLe.refl _) ?_)
 refine Plan.done (Post.thnN ?_)
 refine T.region ?_
 refine R.mvE rfl cA ?_
 refine R.asE rfl cA ?_
 refine TL.nil (Post.blkN ?_)
 refine id (Post.thnN ?_)
 exact ⟨(ml1, n9c3, (((xPa0l1.set (((a3 + n8l1)).toNat) y65)).set (((a3 + n9c3)).toNat) y71), cst14), (s_l1.trans (s_c2.trans (s_c3.trans s_c4))), ⟨(by first | omega | (simp; omega) | (simp at *; omega)), (Has.cons .hd Has.nil), wst14, bA, bA, (by subst e74; subst e73; subst e71; subst e65; rw [← hQl1, k_27]; rw [if_neg c16, hTc2, LR.seq_go, hTc3, LR.seq_go, hTc4, LR.seq_go, if_f c52])⟩, by show ml1 < ml1 + 1; omega, rfl, rfl, rfl, rfl, trivial⟩
def k_3e (a1 : Int) : Nat → (Int × (List Int)) → Int × (List Int)
  | 0, _ => default
  | ml2 + 1, sl2 => if (0 : Int) ≤ sl2.1 then (LR.seq ((((sl2.2.set a1.toNat (sl2.2.getD (((a1 + sl2.1)).toNat) (0 : Int)))).set (((a1 + sl2.1)).toNat) (sl2.2.getD a1.toNat (0 : Int))) : (List Int)) (fun sc3 => LR.seq (k_36 sc3 0 sl2.1 a1) (fun r55 => k_3e a1 ml2 (((sl2.1 - 1), r55))))) else ((sl2.1, sl2.2))
def k_3c (a1 : Int) (a2 : Int) : Nat → (Int × (List Int)) → Int × (List Int)
  | 0, _ => default
  | ml1 + 1, sl1 => if (0 : Int) ≤ sl1.1 then (LR.seq (k_36 sl1.2 sl1.1 ((a2 - a1)) a1) (fun r26 => k_3c a1 a2 ml1 (((sl1.1 - 1), r26)))) else ((sl1.1, sl1.2))
def k_75 (a0 : List Int) (a1 : Int) (a2 : Int) : (List Int) :=
  LR.seq (k_3c a1 a2 ((((((a2 - a1) - 1) / 2)) + 1).toNat + 1) (((((a2 - a1) - 1) / 2), a0))) (fun ol1 => LR.seq (k_3e a1 (((((a2 - a1) - 1)) + 1).toNat + 1) ((((a2 - a1) - 1), ol1.2))) (fun ol2 => ol2.2))
set_option maxHeartbeats 3200000 in
theorem slices_heapSortOrdered_Id_c (H : Heap) (va0 : Value) (a0 : List Int) (Ca0 : Chunk) (ha0 : OwnS (intE .u64) 43 H va0 a0 Ca0) (a1 : Int) (a2 : Int) (h1 : 0 ≤ a1) (h2 : a1 < a2) (h3 : a2 ≤ (a0.length : Int)) (hl : a0.length ≤ 4000000) : Fc Tryz.prog (fnv 101) [va0, .int .i64 a1, .int .i64 a2] H [Ca0] (fun v' H' L' => ∃ Da0, v' = .tuple #[] ∧ L' = [Da0] ∧ OwnS (intE .u64) 43 H' va0 (k_75 a0 a1 a2) Da0) := by
 refine Fc.of_body (N := 56) Tryz.func101 rfl kA rfl rfl ?_
 intro w0
 obtain ⟨Aa0, pa0, rfl, ma0, na0⟩ := OwnS.shape ha0
 refine sR ?_
 refine R.mvE rfl cA ?_
 refine R.asE rfl cA ?_
 refine nN ?_
 refine sR ?_
 refine R.asE rfl cA ?_
 refine nN ?_
 refine sR ?_
 refine R.mvE rfl cA ?_
 refine R.mvE rfl cA ?_
 refine R.subI rfl rfl rfl oA ?_
 refine R.asE rfl cA ?_
 refine nN ?_
 refine T.seq ?_
 refine sR ?_
 refine R.mvE rfl cA ?_
 refine R.subI rfl rfl rfl oA ?_
 refine R.quoI rfl rfl rfl oA ?_
 refine R.asE rfl cA ?_
 refine nN ?_
 refine T.block ?_
 refine T.loop (ι := Nat × Int × (List Int) × Chunk) (fun ⟨kl1, n9l1, xPa0l1, cPa0l1⟩ H' L' ds' => (n9l1 + 1).toNat < kl1 ∧ Has L' [cPa0l1] ∧ OwnS (intE .u64) 43 H' (.slice Aa0 a0.length pa0) xPa0l1 cPa0l1 ∧ -1 ≤ n9l1 ∧ n9l1 < a2 - a1 ∧ k_3c a1 a2 kl1 ((n9l1, xPa0l1)) = k_3c a1 a2 ((((((a2 - a1) - 1) / 2)) + 1).toNat + 1) (((((a2 - a1) - 1) / 2), a0))) (fun ⟨kl1, n9l1, xPa0l1, cPa0l1⟩ => [(0, .slice Aa0 a0.length pa0), (6, .int .i64 a1), (7, .int .i64 0), (8, .int .i64 (a2 - a1)), (9, .int .i64 n9l1)]) (fun ⟨kl1, n9l1, xPa0l1, cPa0l1⟩ => kl1) (((((((a2 - a1) - 1) / 2)) + 1).toNat + 1), (((a2 - a1) - 1) / 2), a0, Ca0) ?_ ?_ ?_
 ·exact ⟨oA, (Has.cons .hd Has.nil), ha0, bA, bA, (by rfl)⟩
 ·exact ⟨rfl, rfl, rfl, rfl, rfl, trivial⟩
 intro ⟨kl1, n9l1, xPa0l1, cPa0l1⟩ σ_l1 H_l1 L_l1 ds_l1 s_l1 hI_l1
 obtain ⟨hkl1, hI_l1⟩ := hI_l1
 obtain ⟨ml1, rfl⟩ : ∃ m, kl1 = m + 1 := ⟨kl1 - 1, by omega⟩
 obtain ⟨hLl1, wPa0l1, hBl1_0, hBl1_1, hQl1⟩ := hI_l1
 have nPa0l1_ := OwnS.len wPa0l1
 refine T.has hLl1 ?_
 refine T.seq ?_
 refine sR ?_
 refine R.mvE rfl cA ?_
 refine R.geq rfl rfl rfl ?_
 refine nN ?_
 refine T.condD rfl (fun c19 => ?_) (fun c19 => ?_)
 ·refine T.set 19 (.bool true) (congrArg Value.bool (decide_eq_true c19)) ?_
  refine T.skip (Post.thnN ?_)
  refine T.seq ?_
  refine T.block ?_
  refine T.region ?_
  refine R.mvE rfl cA ?_
  refine R.mvE rfl cA ?_
  refine R.mvE rfl cA ?_
  refine R.mvE rfl cA ?_
  obtain ⟨r26, er26⟩ : ∃ r, r = (k_36 xPa0l1 n9l1 ((a2 - a1)) a1) := ⟨_, rfl⟩
  refine TL.call [true] rfl rfl rfl (k_c6 _ _ xPa0l1 _ wPa0l1 (n9l1) ((a2 - a1)) (a1) bA bA bA bA bA) ?_
  intro v26 H26 L26 s26 q26
  rw [← er26] at q26
  obtain ⟨D26_a0, rfl, rfl, w26_a0⟩ := q26
  have n26_a0_ := OwnS.len w26_a0
  refine TL.nil (Post.blkN ?_)
  refine id (Post.thnN ?_)
  refine T.region ?_
  refine R.mvE rfl cA ?_
  refine R.subI rfl rfl rfl oA ?_
  refine R.asE rfl cA ?_
  refine nN ?_
  exact ⟨(ml1, (n9l1 - 1), r26, D26_a0), (s_l1.trans s26), ⟨(by first | omega | (simp; omega) | (simp at *; omega)), (Has.cons .hd Has.nil), w26_a0, bA, bA, (by subst er26; rw [← hQl1, k_3c]; rw [if_pos c19, LR.seq_go])⟩, by show ml1 < ml1 + 1; omega, rfl, rfl, rfl, rfl, rfl, trivial⟩
 refine T.set 19 (.bool false) (congrArg Value.bool (decide_eq_false c19)) ?_
 refine T.exit (Post.thnE (Post.thnE (Post.blkX ?_)))
 have hEl1 : k_3c a1 a2 ((((((a2 - a1) - 1) / 2)) + 1).toNat + 1) (((((a2 - a1) - 1) / 2), a0)) = (n9l1, xPa0l1) := (by rw [← hQl1, k_3c]; rw [if_neg c19])
 refine id (Post.thnN ?_)
 refine sR ?_
 refine R.mvE rfl cA ?_
 refine R.subI rfl rfl rfl oA ?_
 refine R.asE rfl cA ?_
 refine nN ?_
 refine T.block ?_
 refine T.loop (ι := Nat × Int × (List Int) × Chunk) (fun ⟨kl2, n10l2, xPa0l2, cPa0l2⟩ H' L' ds' => (n10l2 + 1).toNat < kl2 ∧ Has L' [cPa0l2] ∧ OwnS (intE .u64) 43 H' (.slice Aa0 a0.length pa0) xPa0l2 cPa0l2 ∧ -1 ≤ n10l2 ∧ n10l2 < a2 - a1 ∧ k_3e a1 kl2 ((n10l2, xPa0l2)) = k_3e a1 (((((a2 - a1) - 1)) + 1).toNat + 1) ((((a2 - a1) - 1), xPa0l1))) (fun ⟨kl2, n10l2, xPa0l2, cPa0l2⟩ => [(0, .slice Aa0 a0.length pa0), (6, .int .i64 a1), (7, .int .i64 0), (10, .int .i64 n10l2)]) (fun ⟨kl2, n10l2, xPa0l2, cPa0l2⟩ => kl2) ((((((a2 - a1) - 1)) + 1).toNat + 1), ((a2 - a1) - 1), xPa0l1, cPa0l1) ?_ ?_ ?_
 ·exact ⟨oA, (Has.cons .hd Has.nil), wPa0l1, bA, bA, (by rfl)⟩
 ·exact ⟨rfl, rfl, rfl, rfl, trivial⟩
 intro ⟨kl2, n10l2, xPa0l2, cPa0l2⟩ σ_l2 H_l2 L_l2 ds_l2 s_l2 hI_l2
 obtain ⟨hkl2, hI_l2⟩ := hI_l2
 obtain ⟨ml2, rfl⟩ : ∃ m, kl2 = m + 1 := ⟨kl2 - 1, by omega⟩
 obtain ⟨hLl2, wPa0l2, hBl2_0, hBl2_1, hQl2⟩ := hI_l2
 have nPa0l2_ := OwnS.len wPa0l2
 refine T.has hLl2 ?_
 refine T.seq ?_
 refine sR ?_
 refine R.mvE rfl cA ?_
 refine R.geq rfl rfl rfl ?_
 refine nN ?_
 refine T.condD rfl (fun c30 => ?_) (fun c30 => ?_)
 ·refine T.set 30 (.bool true) (congrArg Value.bool (decide_eq_true c30)) ?_
  refine T.skip (Post.thnN ?_)
  refine T.seq ?_
  refine T.block ?_
  refine T.seq ?_
  refine T.cutK (ι := (List Int) × Chunk) (fun ⟨xPa0c3, cPa0c3⟩ H' L' ds' => Has L' [cPa0c3] ∧ OwnS (intE .u64) 43 H' (.slice Aa0 a0.length pa0) xPa0c3 cPa0c3 ∧ ((((xPa0l2.set a1.toNat (xPa0l2.getD (((a1 + n10l2)).toNat) (0 : Int)))).set (((a1 + n10l2)).toNat) (xPa0l2.getD a1.toNat (0 : Int))) : (List Int)) = xPa0c3) (fun ⟨xPa0c3, cPa0c3⟩ => [(0, .slice Aa0 a0.length pa0), (6, .int .i64 a1), (7, .int .i64 0), (10, .int .i64 n10l2)]) ?_ ?_
  ·refine T.draw k_2b kA ?_
   refine vM 0 [1, 2, 3, 4, 5, 6, 7, 8, 9, 10, 11, 12, 13, 14, 15, 16, 17, 18, 19] rfl rfl cA ?_
   refine vM 1 [2, 3, 4, 5, 6, 7, 8, 9, 10, 11, 12, 13, 14, 15, 16, 17, 18, 19] rfl rfl cA ?_
   refine vM 2 [3, 4, 5, 6, 7, 8, 9, 10, 11, 12, 13, 14, 15, 16, 17, 18, 19] rfl rfl cA ?_
   refine vM 3 [4, 5, 6, 7, 8, 9, 10, 11, 12, 13, 14, 15, 16, 17, 18, 19] rfl rfl cA ?_
   refine vM 4 [5, 6, 7, 8, 9, 10, 11, 12, 13, 14, 15, 16, 17, 18, 19] rfl rfl cA ?_
   refine vA 5 [6, 7, 8, 9, 10, 11, 12, 13, 14, 15, 16, 17, 18, 19] rfl (fun _ _ h_ => R.addI rfl rfl rfl oA (TL.nil h_)) ?_
   refine vM 6 [7, 8, 9, 10, 11, 12, 13, 14, 15, 16, 17, 18, 19] rfl rfl cA ?_
   refine vM 7 [8, 9, 10, 11, 12, 13, 14, 15, 16, 17, 18, 19] rfl rfl cA ?_
   refine vM 8 [9, 10, 11, 12, 13, 14, 15, 16, 17, 18, 19] rfl rfl cA ?_
   refine vA 9 [10, 11, 12, 13, 14, 15, 16, 17, 18, 19] rfl (fun _ _ h_ => R.addI rfl rfl rfl oA (TL.nil h_)) ?_
   have hl43 : ((a1 + n10l2)).toNat < a0.length := bA
   obtain ⟨y43, e43, h43⟩ : ∃ y, y = (xPa0l2.getD (((a1 + n10l2)).toNat) (0 : Int)) ∧ xPa0l2[((a1 + n10l2)).toNat]? = some y := ⟨_, rfl, k_6 (by first | exact hl43 | simpa using hl43 | (simp only [List.length_set]; omega) | omega | (rw [(k_1 _).length_eq]; exact hl43))⟩
   obtain ⟨b43, u43, cs43, l43, f43, j43, i43, g43, k43⟩ := OwnS.elem wPa0l2 h43
   obtain rfl : l43 = [.int .u64 y43] := g43
   refine vA 10 [11, 12, 13, 14, 15, 16, 17, 18, 19] rfl (fun _ _ h_ => R.ixp (sz := ((intE .u64)).size) Tryz.underlying30 Tryz.sizeOf43 rfl rfl rfl bA i43 (TL.nil h_)) ?_
   refine vM 12 [11, 13, 14, 15, 16, 17, 18, 19] rfl rfl cA ?_
   refine vM 13 [11, 14, 15, 16, 17, 18, 19] rfl rfl cA ?_
   have hl47 : a1.toNat < a0.length := bA
   obtain ⟨y47, e47, h47⟩ : ∃ y, y = (xPa0l2.getD a1.toNat (0 : Int)) ∧ xPa0l2[a1.toNat]? = some y := ⟨_, rfl, k_6 (by first | exact hl47 | simpa using hl47 | (simp only [List.length_set]; omega) | omega | (rw [(k_1 _).length_eq]; exact hl47))⟩
   obtain ⟨b47, u47, cs47, l47, f47, j47, i47, g47, k47⟩ := OwnS.elem wPa0l2 h47
   obtain rfl : l47 = [.int .u64 y47] := g47
   refine vA 14 [11, 15, 16, 17, 18, 19] rfl (fun _ _ h_ => R.ixp (sz := ((intE .u64)).size) Tryz.underlying30 Tryz.sizeOf43 rfl rfl rfl bA i47 (TL.nil h_)) ?_
   refine Plan.s2 11 15 [15, 16, 17, 18, 19] [11, 16, 17, 18, 19] kA kA kA rfl rfl ?_ ?_
   ·refine R.ld Tryz.isAgg43 rfl rfl (by rw [← f43]; exact .hd) (k43 0 _ rfl) ?_
    refine TL.nil (Plan.e1 (HLe.refl _) ?_)
    refine Plan.s1 15 [16, 17, 18, 19] kA kA rfl ?_
    refine R.ld Tryz.isAgg43 rfl rfl (by rw [← f47]; exact .hd) (k47 0 _ rfl) ?_
    refine TL.nil (Plan.e1 (HLe.refl _) ?_)
    have hl49 : a1.toNat < a0.length := bA
    obtain ⟨y49, e49, h49⟩ : ∃ y, y = (xPa0l2.getD a1.toNat (0 : Int)) ∧ xPa0l2[a1.toNat]? = some y := ⟨_, rfl, k_6 (by first | exact hl49 | simpa using hl49 | (simp only [List.length_set]; omega) | omega | (rw [(k_1 _).length_eq]; exact hl49))⟩
    obtain ⟨b49, u49, cs49, l49, f49, j49, i49, g49, k49⟩ := OwnS.elem wPa0l2 h49
    obtain rfl : l49 = [.int .u64 y49] := g49
    refine vA 16 [17, 18, 19] rfl (fun _ _ h_ => R.ixp (sz := ((intE .u64)).size) Tryz.underlying30 Tryz.sizeOf43 rfl rfl rfl bA i49 (TL.nil h_)) ?_
    refine Plan.s1 17 [18, 19] kA kA rfl ?_
    refine R.stEF (E := (intE .u64)) (e := 43) (v := (.slice Aa0 a0.length pa0)) (m := [.int .u64 y43]) (o := 0) (y := y49) (y' := y43) (j := a1.toNat) Tryz.sizeOf43 rfl wPa0l2 .hd i49 rfl rfl (cells1 rfl) (k_20 rfl) h49 (by show 0 + 1 ≤ 1; decide) (fun l hl => by have e0 : l = [.int .u64 y49] := hl; subst e0; exact rfl) ?_
    intro cst27 wst27
    refine TL.nil (Plan.e0 (HLe.refl _) ?_)
    have hl50 : ((a1 + n10l2)).toNat < a0.length := bA
    obtain ⟨y50, e50, h50⟩ : ∃ y, y = (((xPa0l2.set a1.toNat y43)).getD (((a1 + n10l2)).toNat) (0 : Int)) ∧ ((xPa0l2.set a1.toNat y43))[((a1 + n10l2)).toNat]? = some y := ⟨_, rfl, k_6 (by first | exact hl50 | simpa using hl50 | (simp only [List.length_set]; omega) | omega | (rw [(k_1 _).length_eq]; exact hl50))⟩
    obtain ⟨b50, u50, cs50, l50, f50, j50, i50, g50, k50⟩ := OwnS.elem wst27 h50
    obtain rfl : l50 = [.int .u64 y50] := g50
    refine vA 18 [19] rfl (fun _ _ h_ => R.ixp (sz := ((intE .u64)).size) Tryz.underlying30 Tryz.sizeOf43 rfl rfl rfl bA i50 (TL.nil h_)) ?_
    refine Plan.s1 19 [] kA kA rfl ?_
    refine R.stEF (E := (intE .u64)) (e := 43) (v := (.slice Aa0 a0.length pa0)) (m := [.int .u64 y47]) (o := 0) (y := y50) (y' := y47) (j := ((a1 + n10l2)).toNat) Tryz.sizeOf43 rfl wst27 .hd i50 rfl rfl (cells1 rfl) (k_20 rfl) h50 (by show 0 + 1 ≤ 1; decide) (fun l hl => by have e0 : l = [.int .u64 y50] := hl; subst e0; exact rfl) ?_
    intro cst28 wst28
    refine TL.nil (Plan.e0 (HLe.refl _) ?_)
    refine Plan.done (Post.thnN ?_)
    exact ⟨((((xPa0l2.set a1.toNat y43)).set (((a1 + n10l2)).toNat) y47), cst28), HLe.refl _, ⟨(Has.cons .hd Has.nil), wst28, (by subst e50; subst e49; subst e47; subst e43; rfl)⟩, rfl, rfl, rfl, rfl, trivial⟩
   refine R.ld Tryz.isAgg43 rfl rfl (by rw [← f47]; exact .hd) (k47 0 _ rfl) ?_
   refine TL.nil (Plan.e1 (HLe.refl _) ?_)
   refine Plan.s1 11 [16, 17, 18, 19] kA kA rfl ?_
   refine R.ld Tryz.isAgg43 rfl rfl (by rw [← f43]; exact .hd) (k43 0 _ rfl) ?_
   refine TL.nil (Plan.e1 (HLe.refl _) ?_)
   have hl49 : a1.toNat < a0.length := bA
   obtain ⟨y49, e49, h49⟩ : ∃ y, y = (xPa0l2.getD a1.toNat (0 : Int)) ∧ xPa0l2[a1.toNat]? = some y := ⟨_, rfl, k_6 (by first | exact hl49 | simpa using hl49 | (simp only [List.length_set]; omega) | omega | (rw [(k_1 _).length_eq]; exact hl49))⟩
   obtain ⟨b49, u49, cs49, l49, f49, j49, i49, g49, k49⟩ := OwnS.elem wPa0l2 h49
   obtain rfl : l49 = [.int .u64 y49] := g49
   refine vA 16 [17, 18, 19] rfl (fun _ _ h_ => R.ixp (sz := ((intE .u64)).size) Tryz.underlying30 Tryz.sizeOf43 rfl rfl rfl bA i49 (TL.nil h_)) ?_
   refine Plan.s1 17 [18, 19] kA kA rfl ?_
   refine R.stEF (E := (intE .u64)) (e := 43) (v := (.slice Aa0 a0.length pa0)) (m := [.int .u64 y43]) (o := 0) (y := y49) (y' := y43) (j := a1.toNat) Tryz.sizeOf43 rfl wPa0l2 .hd i49 rfl rfl (cells1 rfl) (k_20 rfl) h49 (by show 0 + 1 ≤ 1; decide) (fun l hl => by have e0 : l = [.int .u64 y49] := hl; subst e0; exact rfl) ?_
   intro cst29 wst29
   refine TL.nil (Plan.e0 (HLe.refl _) ?_)
   have hl50 : ((a1 + n10l2)).toNat < a0.length := bA
   obtain ⟨y50, e50, h50⟩ : ∃ y, y = (((xPa0l2.set a1.toNat y43)).getD (((a1 + n10l2)).toNat) (0 : Int)) ∧ ((xPa0l2.set a1.toNat y43))[((a1 + n10l2)).toNat]? = some y := ⟨_, rfl, k_6 (by first | exact hl50 | simpa using hl50 | (simp only [List.length_set]; omega) | omega | (rw [(k_1 _).length_eq]; exact hl50))⟩
   obtain ⟨b50, u50, cs50, l50, f50, j50, i50, g50, k50⟩ := OwnS.elem wst29 h50
   obtain rfl : l50 = [.int .u64 y50] := g50
   refine vA 18 [19] rfl (fun _ _ h_ => R.ixp (sz := ((intE .u64)).size) Tryz.underlying30 Tryz.sizeOf43 rfl rfl rfl bA i50 (TL.nil h_)) ?_
   refine Plan.s1 19 [] kA kA rfl ?_
   refine R.stEF (E := (intE .u64)) (e := 43) (v := (.slice Aa0 a0.length pa0)) (m := [.int .u64 y47]) (o := 0) (y := y50) (y' := y47) (j := ((a1 + n10l2)).toNat) Tryz.sizeOf43 rfl wst29 .hd i50 rfl rfl (cells1 rfl) (k_20 rfl) h50 (by show 0 + 1 ≤ 1; decide) (fun l hl => by have e0 : l = [.int .u64 y50] := hl; subst e0; exact rfl) ?_
   intro cst30 wst30
   refine TL.nil (Plan.e0 (HLe.refl _) ?_)
   refine Plan.done (Post.thnN ?_)
   exact ⟨((((xPa0l2.set a1.toNat y43)).set (((a1 + n10l2)).toNat) y47), cst30), HLe.refl _, ⟨(Has.cons .hd Has.nil), wst30, (by subst e50; subst e49; subst e47; subst e43; rfl)⟩, rfl, rfl, rfl, rfl, trivial⟩
  intro ⟨xPa0c3, cPa0c3⟩ σ_c3 H_c3 L_c3 ds_c3 s_c3 hI_c3
  obtain ⟨hLc3, wPa0c3, hTc3⟩ := hI_c3
  have nPa0c3_ := OwnS.len wPa0c3
  refine T.has hLc3 ?_
  refine T.region ?_
  refine R.mvE rfl cA ?_
  refine R.mvE rfl cA ?_
  refine R.mvE rfl cA ?_
  refine R.mvE rfl cA ?_
  obtain ⟨r55, er55⟩ : ∃ r, r = (k_36 xPa0c3 0 n10l2 a1) := ⟨_, rfl⟩
  refine TL.call [true] rfl rfl rfl (k_c6 _ _ xPa0c3 _ wPa0c3 (0) (n10l2) (a1) bA bA bA bA bA) ?_
  intro v55 H55 L55 s55 q55
  rw [← er55] at q55
  obtain ⟨D55_a0, rfl, rfl, w55_a0⟩ := q55
  have n55_a0_ := OwnS.len w55_a0
  refine TL.nil (Post.blkN ?_)
  refine id (Post.thnN ?_)
  refine T.region ?_
  refine R.mvE rfl cA ?_
  refine R.subI rfl rfl rfl oA ?_
  refine R.asE rfl cA ?_
  refine nN ?_
  exact ⟨(ml2, (n10l2 - 1), r55, D55_a0), (s_l2.trans (s_c3.trans s55)), ⟨(by first | omega | (simp; omega) | (simp at *; omega)), (Has.cons .hd Has.nil), w55_a0, bA, bA, (by subst er55; rw [← hQl2, k_3e]; rw [if_pos c30, hTc3, LR.seq_go, LR.seq_go])⟩, by show ml2 < ml2 + 1; omega, rfl, rfl, rfl, rfl, trivial⟩
 refine T.set 30 (.bool false) (congrArg Value.bool (decide_eq_false c30)) ?_
 refine T.exit (Post.thnE (Post.thnE (Post.blkX ?_)))
 have hEl2 : k_3e a1 (((((a2 - a1) - 1)) + 1).toNat + 1) ((((a2 - a1) - 1), xPa0l1)) = (n10l2, xPa0l2) := (by rw [← hQl2, k_3e]; rw [if_neg c30])
 refine id ?_
 have hM : k_75 a0 a1 a2 = xPa0l2 := by rw [k_75, hEl1, LR.seq_go, hEl2, LR.seq_go]
 exact fin0N [cPa0l2] rfl (List.Sublist.cons_cons _ (List.nil_sublist _)) ⟨cPa0l2, by first | rw [hM] | rfl, by first | rw [hM] | rfl, by rw [hM]; exact wPa0l2⟩
end Go.SX

set_option linter.unusedVariables false
set_option linter.unusedSimpArgs false
namespace Go.SX
open Go Go.Proofs

def k_35  : Nat → (Int × Int × (List Int)) → Int × Int × (List Int)
  | 0, _ => default
  | ml1 + 1, sl1 => if sl1.1 < sl1.2.1 then (LR.seq ((((sl1.2.2.set sl1.1.toNat (sl1.2.2.getD sl1.2.1.toNat (0 : Int)))).set sl1.2.1.toNat (sl1.2.2.getD sl1.1.toNat (0 : Int))) : (List Int)) (fun sc2 => k_35 ml1 (((sl1.1 + 1), (sl1.2.1 - 1), sc2)))) else ((sl1.1, sl1.2.1, sl1.2.2))
def k_3b (a0 : List Int) (a1 : Int) (a2 : Int) : (List Int) :=
  LR.seq (k_35 ((((a2 - 1)) - a1).toNat + 1) ((a1, (a2 - 1), a0))) (fun ol1 => ol1.2.2)
set_option maxHeartbeats 3200000 in
theorem slices_reverseRangeOrdered_Id_c (H : Heap) (va0 : Value) (a0 : List Int) (Ca0 : Chunk) (ha0 : OwnS (intE .u64) 43 H va0 a0 Ca0) (a1 : Int) (a2 : Int) (h1 : 0 ≤ a1) (h2 : a1 < a2) (h3 : a2 ≤ (a0.length : Int)) (hl : a0.length ≤ 4000000) : Fc Tryz.prog (fnv 104) [va0, .int .i64 a1, .int .i64 a2] H [Ca0] (fun v' H' L' => ∃ Da0, v' = .tuple #[] ∧ L' = [Da0] ∧ OwnS (intE .u64) 43 H' va0 (k_3b a0 a1 a2) Da0) := by
 refine Fc.of_body (N := 32) Tryz.func104 rfl kA rfl rfl ?_
 intro w0
 obtain ⟨Aa0, pa0, rfl, ma0, na0⟩ := OwnS.shape ha0
 refine sR ?_
 refine R.mvE rfl cA ?_
 refine R.asE rfl cA ?_
 refine nN ?_
 refine sR ?_
 refine R.mvE rfl cA ?_
 refine R.subI rfl rfl rfl oA ?_
 refine R.asE rfl cA ?_
 refine nN ?_
 refine T.block ?_
 refine T.loop (ι := Nat × Int × Int × (List Int) × Chunk) (fun ⟨kl1, n6l1, n7l1, xPa0l1, cPa0l1⟩ H' L' ds' => (n7l1 - n6l1).toNat < kl1 ∧ Has L' [cPa0l1] ∧ OwnS (intE .u64) 43 H' (.slice Aa0 a0.length pa0) xPa0l1 cPa0l1 ∧ a1 ≤ n6l1 ∧ n7l1 < a2 ∧ n6l1 ≤ a2 ∧ a1 - 1 ≤ n7l1 ∧ k_35 kl1 ((n6l1, n7l1, xPa0l1)) = k_35 ((((a2 - 1)) - a1).toNat + 1) ((a1, (a2 - 1), a0))) (fun ⟨kl1, n6l1, n7l1, xPa0l1, cPa0l1⟩ => [(0, .slice Aa0 a0.length pa0), (6, .int .i64 n6l1), (7, .int .i64 n7l1)]) (fun ⟨kl1, n6l1, n7l1, xPa0l1, cPa0l1⟩ => kl1) (((((a2 - 1)) - a1).toNat + 1), a1, (a2 - 1), a0, Ca0) ?_ ?_ ?_
 ·exact ⟨oA, (Has.cons .hd Has.nil), ha0, bA, bA, bA, bA, (by rfl)⟩
 ·exact ⟨rfl, rfl, rfl, trivial⟩
 intro ⟨kl1, n6l1, n7l1, xPa0l1, cPa0l1⟩ σ_l1 H_l1 L_l1 ds_l1 s_l1 hI_l1
 obtain ⟨hkl1, hI_l1⟩ := hI_l1
 obtain ⟨ml1, rfl⟩ : ∃ m, kl1 = m + 1 := ⟨kl1 - 1, by omega⟩
 obtain ⟨hLl1, wPa0l1, hBl1_0, hBl1_1, hBl1_2, hBl1_3, hQl1⟩ := hI_l1
 have nPa0l1_ := OwnS.len wPa0l1
 refine T.has hLl1 ?_
 refine T.seq ?_
 refine sR ?_
 refine R.mvE rfl cA ?_
 refine R.mvE rfl cA ?_
 refine R.lss rfl rfl rfl ?_
 refine nN ?_
 refine T.condD rfl (fun c13 => ?_) (fun c13 => ?_)
 ·refine T.set 13 (.bool true) (congrArg Value.bool (decide_eq_true c13)) ?_
  refine T.skip (Post.thnN ?_)
  refine T.block ?_
  refine T.seq ?_
  refine T.cutK (ι := (List Int) × Chunk) (fun ⟨xPa0c2, cPa0c2⟩ H' L' ds' => Has L' [cPa0c2] ∧ OwnS (intE .u64) 43 H' (.slice Aa0 a0.length pa0) xPa0c2 cPa0c2 ∧ ((((xPa0l1.set n6l1.toNat (xPa0l1.getD n7l1.toNat (0 : Int)))).set n7l1.toNat (xPa0l1.getD n6l1.toNat (0 : Int))) : (List Int)) = xPa0c2) (fun ⟨xPa0c2, cPa0c2⟩ => [(0, .slice Aa0 a0.length pa0), (6, .int .i64 n6l1), (7, .int .i64 n7l1)]) ?_ ?_
  ·refine T.draw k_2b kA ?_
   refine vM 0 [1, 2, 3, 4, 5, 6, 7, 8, 9, 10, 11, 12, 13, 14, 15] rfl rfl cA ?_
   refine vM 1 [2, 3, 4, 5, 6, 7, 8, 9, 10, 11, 12, 13, 14, 15] rfl rfl cA ?_
   refine vM 2 [3, 4, 5, 6, 7, 8, 9, 10, 11, 12, 13, 14, 15] rfl rfl cA ?_
   refine vM 3 [4, 5, 6, 7, 8, 9, 10, 11, 12, 13, 14, 15] rfl rfl cA ?_
   refine vM 4 [5, 6, 7, 8, 9, 10, 11, 12, 13, 14, 15] rfl rfl cA ?_
   refine vM 5 [6, 7, 8, 9, 10, 11, 12, 13, 14, 15] rfl rfl cA ?_
   have hl20 : n7l1.toNat < a0.length := bA
   obtain ⟨y20, e20, h20⟩ : ∃ y, y = (xPa0l1.getD n7l1.toNat (0 : Int)) ∧ xPa0l1[n7l1.toNat]? = some y := ⟨_, rfl, k_6 (by first | exact hl20 | simpa using hl20 | (simp only [List.length_set]; omega) | omega | (rw [(k_1 _).length_eq]; exact hl20))⟩
   obtain ⟨b20, u20, cs20, l20, f20, j20, i20, g20, k20⟩ := OwnS.elem wPa0l1 h20
   obtain rfl : l20 = [.int .u64 y20] := g20
   refine vA 6 [7, 8, 9, 10, 11, 12, 13, 14, 15] rfl (fun _ _ h_ => R.ixp (sz := ((intE .u64)).size) Tryz.underlying30 Tryz.sizeOf43 rfl rfl rfl bA i20 (TL.nil h_)) ?_
   refine vM 8 [7, 9, 10, 11, 12, 13, 14, 15] rfl rfl cA ?_
   refine vM 9 [7, 10, 11, 12, 13, 14, 15] rfl rfl cA ?_
   have hl24 : n6l1.toNat < a0.length := bA
   obtain ⟨y24, e24, h24⟩ : ∃ y, y = (xPa0l1.getD n6l1.toNat (0 : Int)) ∧ xPa0l1[n6l1.toNat]? = some y := ⟨_, rfl, k_6 (by first | exact hl24 | simpa using hl24 | (simp only [List.length_set]; omega) | omega | (rw [(k_1 _).length_eq]; exact hl24))⟩
   obtain ⟨b24, u24, cs24, l24, f24, j24, i24, g24, k24⟩ := OwnS.elem wPa0l1 h24
   obtain rfl : l24 = [.int .u64 y24] := g24
   refine vA 10 [7, 11, 12, 13, 14, 15] rfl (fun _ _ h_ => R.ixp (sz := ((intE .u64)).size) Tryz.underlying30 Tryz.sizeOf43 rfl rfl rfl bA i24 (TL.nil h_)) ?_
   refine Plan.s2 7 11 [11, 12, 13, 14, 15] [7, 12, 13, 14, 15] kA kA kA rfl rfl ?_ ?_
   ·refine R.ld Tryz.isAgg43 rfl rfl (by rw [← f20]; exact .hd) (k20 0 _ rfl) ?_
    refine TL.nil (Plan.e1 (HLe.refl _) ?_)
    refine Plan.s1 11 [12, 13, 14, 15] kA kA rfl ?_
    refine R.ld Tryz.isAgg43 rfl rfl (by rw [← f24]; exact .hd) (k24 0 _ rfl) ?_
    refine TL.nil (Plan.e1 (HLe.refl _) ?_)
    have hl26 : n6l1.toNat < a0.length := bA
    obtain ⟨y26, e26, h26⟩ : ∃ y, y = (xPa0l1.getD n6l1.toNat (0 : Int)) ∧ xPa0l1[n6l1.toNat]? = some y := ⟨_, rfl, k_6 (by first | exact hl26 | simpa using hl26 | (simp only [List.length_set]; omega) | omega | (rw [(k_1 _).length_eq]; exact hl26))⟩
    obtain ⟨b26, u26, cs26, l26, f26, j26, i26, g26, k26⟩ := OwnS.elem wPa0l1 h26
    obtain rfl : l26 = [.int .u64 y26] := g26
    refine vA 12 [13, 14, 15] rfl (fun _ _ h_ => R.ixp (sz := ((intE .u64)).size) Tryz.underlying30 Tryz.sizeOf43 rfl rfl rfl bA i26 (TL.nil h_)) ?_
    refine Plan.s1 13 [14, 15] kA kA rfl ?_
    refine R.stEF (E := (intE .u64)) (e := 43) (v := (.slice Aa0 a0.length pa0)) (m := [.int .u64 y20]) (o := 0) (y := y26) (y' := y20) (j := n6l1.toNat) Tryz.sizeOf43 rfl wPa0l1 .hd i26 rfl rfl (cells1 rfl) (k_20 rfl) h26 (by show 0 + 1 ≤ 1; decide) (fun l hl => by have e0 : l = [.int .u64 y26] := hl; subst e0; exact rfl) ?_
    intro cst15 wst15
    refine TL.nil (Plan.e0 (HLe.refl _) ?_)
    have hl27 : n7l1.toNat < a0.length := bA
    obtain ⟨y27, e27, h27⟩ : ∃ y, y = (((xPa0l1.set n6l1.toNat y20)).getD n7l1.toNat (0 : Int)) ∧ ((xPa0l1.set n6l1.toNat y20))[n7l1.toNat]? = some y := ⟨_, rfl, k_6 (by first | exact hl27 | simpa using hl27 | (simp only [List.length_set]; omega) | omega | (rw [(k_1 _).length_eq]; exact hl27))⟩
    obtain ⟨b27, u27, cs27, l27, f27, j27, i27, g27, k27⟩ := OwnS.elem wst15 h27
    obtain rfl : l27 = [.int .u64 y27] := g27
    refine vA 14 [15] rfl (fun _ _ h_ => R.ixp (sz := ((intE .u64)).size) Tryz.underlying30 Tryz.sizeOf43 rfl rfl rfl bA i27 (TL.nil h_)) ?_
    refine Plan.s1 15 [] kA kA rfl ?_
    refine R.stEF (E := (intE .u64)) (e := 43) (v := (.slice Aa0 a0.length pa0)) (m := [.int .u64 y24]) (o := 0) (y := y27) (y' := y24) (j := n7l1.toNat) Tryz.sizeOf43 rfl wst15 .hd i27 rfl rfl (cells1 rfl) (k_20 rfl) h27 (by show 0 + 1 ≤ 1; decide) (fun l hl => by have e0 : l = [.int .u64 y27] := hl; subst e0; exact rfl) ?_
    intro cst16 wst16
    refine TL.nil (Plan.e0 (HLe.refl _) ?_)
    refine Plan.done (Post.thnN ?_)
    exact ⟨((((xPa0l1.set n6l1.toNat y20)).set n7l1.toNat y24), cst16), HLe.refl _, ⟨(Has.cons .hd Has.nil), wst16, (by subst e27; subst e26; subst e24; subst e20; rfl)⟩, rfl, rfl, rfl, trivial⟩
   refine R.ld Tryz.isAgg43 rfl rfl (by rw [← f24]; exact .hd) (k24 0 _ rfl) ?_
   refine TL.nil (Plan.e1 (HLe.refl _) ?_)
   refine Plan.s1 7 [12, 13, 14, 15] kA kA rfl ?_
   refine R.ld Tryz.isAgg43 rfl rfl (by rw [← f20]; exact .hd) (k20 0 _ rfl) ?_
   refine TL.nil (Plan.e1 (HLe.refl _) ?_)
   have hl26 : n6l1.toNat < a0.length := bA
   obtain ⟨y26, e26, h26⟩ : ∃ y, y = (xPa0l1.getD n6l1.toNat (0 : Int)) ∧ xPa0l1[n6l1.toNat]? = some y := ⟨_, rfl, k_6 (by first | exact hl26 | simpa using hl26 | (simp only [List.length_set]; omega) | omega | (rw [(k_1 _).length_eq]; exact hl26))⟩
   obtain ⟨b26, u26, cs26, l26, f26, j26, i26, g26, k26⟩ := OwnS.elem wPa0l1 h26
   obtain rfl : l26 = [.int .u64 y26] := g26
   refine vA 12 [13, 14, 15] rfl (fun _ _ h_ => R.ixp (sz := ((intE .u64)).size) Tryz.underlying30 Tryz.sizeOf43 rfl rfl rfl bA i26 (TL.nil h_)) ?_
   refine Plan.s1 13 [14, 15] kA kA rfl ?_
   refine R.stEF (E := (intE .u64)) (e := 43) (v := (.slice Aa0 a0.length pa0)) (m := [.int .u64 y20]) (o := 0) (y := y26) (y' := y20) (j := n6l1.toNat) Tryz.sizeOf43 rfl wPa0l1 .hd i26 rfl rfl (cells1 rfl) (k_20 rfl) h26 (by show 0 + 1 ≤ 1; decide) (fun l hl => by have e0 : l = [.int .u64 y26] := hl; subst e0; exact rfl) ?_
   intro cst17 wst17
   refine TL.nil (Plan.e0 (HLe.refl _) ?_)
   have hl27 : n7l1.toNat < a0.length := bA
   obtain ⟨y27, e27, h27⟩ : ∃ y, y = (((xPa0l1.set n6l1.toNat y20)).getD n7l1.toNat (0 : Int)) ∧ ((xPa0l1.set n6l1.toNat y20))[n7l1.toNat]? = some y := ⟨_, rfl, k_6 (by first | exact hl27 | simpa using hl27 | (simp only [List.length_set]; omega) | omega | (rw [(k_1 _).length_eq]; exact hl27))⟩
   obtain ⟨b27, u27, cs27, l27, f27, j27, i27, g27, k27⟩ := OwnS.elem wst17 h27
   obtain rfl : l27 = [.int .u64 y27] := g27
   refine vA 14 [15] rfl (fun _ _ h_ => R.ixp (sz := ((intE .u64)).size) Tryz.underlying30 Tryz.sizeOf43 rfl rfl rfl bA i27 (TL.nil h_)) ?_
   refine Plan.s1 15 [] kA kA rfl ?_
   refine R.stEF (E := (intE .u64)) (e := 43) (v := (.slice Aa0 a0.length pa0)) (m := [.int .u64 y24]) (o := 0) (y := y27) (y' := y24) (j := n7l1.toNat) Tryz.sizeOf43 rfl wst17 .hd i27 rfl rfl (cells1 rfl) (k_20 rfl) h27 (by show 0 + 1 ≤ 1; decide) (fun l hl => by have e0 : l = [.int .u64 y27] := hl; subst e0; exact rfl) ?_
   intro cst18 wst18
   refine TL.nil (Plan.e0 (HLe.refl _) ?_)
   refine Plan.done (Post.thnN ?_)
   exact ⟨((((xPa0l1.set n6l1.toNat y20)).set n7l1.toNat y24), cst18), HLe.refl _, ⟨(Has.cons .hd Has.nil), wst18, (by subst e27; subst e26; subst e24; subst e20; rfl)⟩, rfl, rfl, rfl, trivial⟩
  intro ⟨xPa0c2, cPa0c2⟩ σ_c2 H_c2 L_c2 ds_c2 s_c2 hI_c2
  obtain ⟨hLc2, wPa0c2, hTc2⟩ := hI_c2
  have nPa0c2_ := OwnS.len wPa0c2
  refine T.has hLc2 ?_
  refine sR ?_
  refine R.mvE rfl cA ?_
  refine R.addI rfl rfl rfl oA ?_
  refine R.asE rfl cA ?_
  refine nN ?_
  refine T.region ?_
  refine R.mvE rfl cA ?_
  refine R.subI rfl rfl rfl oA ?_
  refine R.asE rfl cA ?_
  refine TL.nil (Post.blkN ?_)
  refine id (Post.thnN ?_)
  exact ⟨(ml1, (n6l1 + 1), (n7l1 - 1), xPa0c2, cPa0c2), (s_l1.trans s_c2), ⟨(by first | omega | (simp; omega) | (simp at *; omega)), (Has.cons .hd Has.nil), wPa0c2, bA, bA, bA, bA, (by rw [← hQl1, k_35]; rw [if_pos c13, hTc2, LR.seq_go])⟩, by show ml1 < ml1 + 1; omega, rfl, rfl, rfl, trivial⟩
 refine T.set 13 (.bool false) (congrArg Value.bool (decide_eq_false c13)) ?_
 refine T.exit (Post.thnE (Post.thnE (Post.blkX ?_)))
 have hEl1 : k_35 ((((a2 - 1)) - a1).toNat + 1) ((a1, (a2 - 1), a0)) = (n6l1, n7l1, xPa0l1) := (by rw [← hQl1, k_35]; rw [if_neg c13])
 refine id ?_
 have hM : k_3b a0 a1 a2 = xPa0l1 := by rw [k_3b, hEl1, LR.seq_go]
 exact fin0N [cPa0l1] rfl (List.Sublist.cons_cons _ (List.nil_sublist _)) ⟨cPa0l1, by first | rw [hM] | rfl, by first | rw [hM] | rfl, by rw [hM]; exact wPa0l1⟩
end Go.SX
