/- 'PlanOf' answers true, whatever it is handed, and what it is handed reads behind it as it did: the row, and its tied card. -/
import Derived.RangeFuncNested
import Derived.RangeFuncBound
import Derived.RangeFuncCalls
import Derived.RangeFuncLeaves
import Derived.Shelf.Abstract
import Derived.Laws.AppendOwn
import Derived.Laws.OwnMore
import Derived.KernelRfl
import Derived.IntWalk
import Derived.Laws.Append
import Derived.WideLaws
import Derived.Laws.Slices
import Derived.Laws.MakeOwn
import Derived.OrdersIn
import Derived.Laws.Cover3
import Derived.Test.YtmhoclmjgjopfaaGreatDoorProg
import Derived.Laws.StructEq
import Derived.Shelf.Sort.Plain
import Derived.Sort.OwnSortedInts
import Derived.Shelf.Slices.In.SortNone
import Derived.Shelf.Slices.CompactI
import Derived.ProofKit
import Derived.ChangeSlices
import Derived.Carry
import Derived.Deep.Slices
import Derived.OpenShut
import Derived.Test.YtmhoclmjgjopfaaGreatDoorCards
import Derived.Test.YtmhoclmjgjopfaaGreatDoorTie
import Derived.LaidMore
import Derived.Stop.Joined
import Derived.MakeChecks
import Derived.Test.YtmhoclmjgjopfaaGreatDoorKO1
set_option linter.unusedVariables false
set_option linter.unusedSimpArgs false
namespace Go.SX
open Go Go.Proofs

/-- what Kind asks -/
def kbG (x : Int) : Nat → Bool
  | 1 => identKind1_m x (ident_halves_m x).1 (ident_halves_m x).2
  | 2 => identKind2_m x (ident_halves_m x).2
  | 3 => identKind3_m x (ident_halves_m x).1 (ident_halves_m x).2
  | 4 => identKind4_m x (ident_halves_m x).1 (ident_halves_m x).2
  | _ => false
def kindG (x : Int) : Int := if kbG x 1 then 1 else if kbG x 2 then 2 else if kbG x 3 then 3 else if kbG x 4 then 4 else 0
theorem kindG_at {x : Int} {k : Nat} (h1 : 1 ≤ k) (h4 : k ≤ 4) (hk : kbG x k = true) (hlt : ∀ j, 1 ≤ j → j < k → kbG x j = false) : kindG x = k := by
  unfold kindG
  have h : k = 1 ∨ k = 2 ∨ k = 3 ∨ k = 4 := by omega
  rcases h with rfl | rfl | rfl | rfl
  · simp [hk]
  · simp [hk, hlt 1 (by omega) (by omega)]
  · simp [hk, hlt 1 (by omega) (by omega), hlt 2 (by omega) (by omega)]
  · simp [hk, hlt 1 (by omega) (by omega), hlt 2 (by omega) (by omega), hlt 3 (by omega) (by omega)]
theorem kindG_none {x : Int} (hlt : ∀ j, 1 ≤ j → j < 5 → kbG x j = false) : kindG x = 0 := by
  unfold kindG
  simp [hlt 1 (by omega) (by omega), hlt 2 (by omega) (by omega), hlt 3 (by omega) (by omega), hlt 4 (by omega) (by omega)]
set_option maxHeartbeats 1600000 in
theorem kindG_c (H : Heap) (x : Int) : Fv Tryz.prog (fnv 32) [.int .u64 x] H (.int .i64 (kindG x)) := by
  refine Fc.of_body (N := 26) Tryz.func32 rfl (by kernel_rfl) rfl rfl ?_
  intro w0
  refine T.seq ?_
  refine T.region ?_
  refine R.box rfl (by conv => lhs; whnf) ?_
  intro b1
  refine R.asE rfl (by conv => lhs; whnf) ?_
  refine TL.nil (Post.thnN ?_)
  refine T.seq ?_
  refine T.region ?_
  refine R.ld Tryz.isAgg48 rfl rfl (by repeat (first | exact .hd | refine .tl ?_)) rfl ?_
  refine R.callv rfl rfl rfl (ident_halves_c _ x) ?_
  refine R.mvE rfl (by conv => lhs; whnf) ?_
  refine R.ext rfl rfl rfl ?_
  refine R.ext rfl rfl rfl ?_
  refine R.alloc Tryz.zeroValue3 rfl ?_
  intro b3
  refine R.alloc Tryz.zeroValue3 rfl ?_
  intro b4
  refine R.st Tryz.sizeOf3 rfl rfl (by conv => lhs; whnf) rfl (by first | exact .hd | exact .tl .hd | exact .tl (.tl .hd) | exact .tl (.tl (.tl .hd)) | exact .tl (.tl (.tl (.tl .hd))) | exact .tl (.tl (.tl (.tl (.tl .hd)))) | exact .tl (.tl (.tl (.tl (.tl (.tl .hd))))) | exact .tl (.tl (.tl (.tl (.tl (.tl (.tl .hd)))))) | exact .tl (.tl (.tl (.tl (.tl (.tl (.tl (.tl .hd))))))) | exact .tl (.tl (.tl (.tl (.tl (.tl (.tl (.tl (.tl .hd))))))))) ?_
  refine R.st Tryz.sizeOf3 rfl rfl (by conv => lhs; whnf) rfl (by first | exact .hd | exact .tl .hd | exact .tl (.tl .hd) | exact .tl (.tl (.tl .hd)) | exact .tl (.tl (.tl (.tl .hd))) | exact .tl (.tl (.tl (.tl (.tl .hd)))) | exact .tl (.tl (.tl (.tl (.tl (.tl .hd))))) | exact .tl (.tl (.tl (.tl (.tl (.tl (.tl .hd)))))) | exact .tl (.tl (.tl (.tl (.tl (.tl (.tl (.tl .hd))))))) | exact .tl (.tl (.tl (.tl (.tl (.tl (.tl (.tl (.tl .hd))))))))) ?_
  refine TL.nil (Post.thnN ?_)
  refine T.seq ?_
  refine T.shut .hd ?_
  intro H4 s4 q4
  refine T.shut .hd ?_
  intro H3 s3 q3
  refine T.shut .hd ?_
  intro H1 s1 q1
  have h4 : H1 b4 = some (.cells #[.int .i64 (ident_halves_m x).2] 3) := s1 _ _ (s3 _ _ (shut1 q4))
  have h3 : H1 b3 = some (.cells #[.int .i64 (ident_halves_m x).1] 3) := s1 _ _ (shut1 q3)
  have h1 : H1 b1 = some (.cells #[.int .u64 x] 48) := shut1 q1
  refine T.region ?_
  refine R.mkf (cs := [_, _, _]) rfl rfl ?_
  refine R.mkf (cs := [_, _]) rfl rfl ?_
  refine R.mkf (cs := [_, _, _]) rfl rfl ?_
  refine R.mkf (cs := [_, _, _]) rfl rfl ?_
  refine R.bld (cs := ([.nilFunc, .func (.func 67) #[] ([.pointer (some ⟨b1, 0, none⟩), .pointer (some ⟨b3, 0, none⟩), .pointer (some ⟨b4, 0, none⟩)] : List Value).toArray, .func (.func 70) #[] ([.pointer (some ⟨b1, 0, none⟩), .pointer (some ⟨b4, 0, none⟩)] : List Value).toArray, .func (.func 71) #[] ([.pointer (some ⟨b1, 0, none⟩), .pointer (some ⟨b3, 0, none⟩), .pointer (some ⟨b4, 0, none⟩)] : List Value).toArray, .func (.func 72) #[] ([.pointer (some ⟨b1, 0, none⟩), .pointer (some ⟨b3, 0, none⟩), .pointer (some ⟨b4, 0, none⟩)] : List Value).toArray])) rfl (fun _ => by kernel_rfl) ?_
  refine R.alloc Tryz.zeroValue107 rfl ?_
  intro b5
  refine R.stA (old := [.nilFunc, .nilFunc, .nilFunc, .nilFunc, .nilFunc]) Tryz.sizeOf107 rfl rfl rfl rfl rfl (by intro v hv; simp at hv; rcases hv with rfl | rfl | rfl | rfl | rfl <;> rfl) .hd ?_
  refine TL.shut .hd ?_
  intro H5 s5 q5
  have h5 := shut1 q5
  refine TL.nil (Post.thnN ?_)
  refine T.seq ?_
  refine T.seq ?_
  refine T.region ?_
  refine R.asE rfl (by conv => lhs; whnf) ?_
  refine TL.nil (Post.thnN ?_)
  refine T.block ?_
  refine T.loop (ι := Nat) (fun k H' L' ds' => (1 ≤ k ∧ k ≤ 5) ∧ ∀ j, 1 ≤ j → j < k → kbG x j = false) (fun k => [(5, .pointer (some ⟨b5, 0, none⟩)), (6, .int .i64 (k : Nat))]) (fun k => 5 - k) (1) ?_ ?_ ?_
  · exact ⟨⟨by omega, by omega⟩, fun j h1 h2 => absurd h2 (by omega)⟩
  · exact ⟨rfl, rfl, trivial⟩
  · intro k σ0 H_0 L_0 ds_0 s_0 hI_0
    obtain ⟨hk, hlt⟩ := hI_0
    refine T.seq ?_
    refine T.seq ?_
    refine T.region ?_
    refine R.mvE rfl (by conv => lhs; whnf) ?_
    refine R.leq rfl rfl rfl ?_
    refine TL.nil (Post.thnN ?_)
    refine T.condD rfl (fun c18 => ?_) (fun c18 => ?_)
    · obtain ⟨fv, hfv, hcall⟩ : ∃ fv, ([.nilFunc, .func (.func 67) #[] ([.pointer (some ⟨b1, 0, none⟩), .pointer (some ⟨b3, 0, none⟩), .pointer (some ⟨b4, 0, none⟩)] : List Value).toArray, .func (.func 70) #[] ([.pointer (some ⟨b1, 0, none⟩), .pointer (some ⟨b4, 0, none⟩)] : List Value).toArray, .func (.func 71) #[] ([.pointer (some ⟨b1, 0, none⟩), .pointer (some ⟨b3, 0, none⟩), .pointer (some ⟨b4, 0, none⟩)] : List Value).toArray, .func (.func 72) #[] ([.pointer (some ⟨b1, 0, none⟩), .pointer (some ⟨b3, 0, none⟩), .pointer (some ⟨b4, 0, none⟩)] : List Value).toArray] : List Value).toArray[0 + ((k : Nat) : Int).toNat * 1]? = some fv ∧ ∀ H', HLe H5 H' → Fv Tryz.prog fv [] H' (.bool (kbG x k)) := by
        have hk4 : k = 1 ∨ k = 2 ∨ k = 3 ∨ k = 4 := by omega
        rcases hk4 with rfl | rfl | rfl | rfl
        · exact ⟨_, rfl, fun H' s => identKind1_c H' b1 x (s _ _ (s5 _ _ h1)) b3 (ident_halves_m x).1 (s _ _ (s5 _ _ h3)) b4 (ident_halves_m x).2 (s _ _ (s5 _ _ h4))⟩
        · exact ⟨_, rfl, fun H' s => identKind2_c H' b1 x (s _ _ (s5 _ _ h1)) b4 (ident_halves_m x).2 (s _ _ (s5 _ _ h4))⟩
        · exact ⟨_, rfl, fun H' s => identKind3_c H' b1 x (s _ _ (s5 _ _ h1)) b3 (ident_halves_m x).1 (s _ _ (s5 _ _ h3)) b4 (ident_halves_m x).2 (s _ _ (s5 _ _ h4))⟩
        · exact ⟨_, rfl, fun H' s => identKind4_c H' b1 x (s _ _ (s5 _ _ h1)) b3 (ident_halves_m x).1 (s _ _ (s5 _ _ h3)) b4 (ident_halves_m x).2 (s _ _ (s5 _ _ h4))⟩
      refine T.skip (Post.thnN ?_)
      refine T.seq ?_
      refine T.block ?_
      refine T.seq ?_
      refine T.region ?_
      refine R.mvE rfl (by conv => lhs; whnf) ?_
      refine R.ixA Tryz.underlying107 Tryz.sizeOf25 rfl rfl rfl (by omega) (by omega) ?_
      refine R.ldH Tryz.isAgg25 rfl rfl (s_0 _ _ h5) (hfv) ?_
      refine R.callv rfl rfl rfl (hcall _ s_0) ?_
      refine TL.nil (Post.thnN ?_)
      refine T.cond rfl (fun c24 => ?_) (fun c24 => ?_)
      · refine T.seq ?_
        refine T.region ?_
        refine R.mvE rfl (by conv => lhs; whnf) ?_
        refine R.asE rfl (by conv => lhs; whnf) ?_
        refine TL.nil (Post.thnN ?_)
        refine T.ret (Post.blkR (Post.thnR (Post.thnR (Post.blkR (Post.thnR ?_)))))
        -- way yy
        exact fin1 rfl rfl ⟨rfl, congrArg (Value.int .i64) (kindG_at hk.1 (by omega) c24 hlt).symm⟩
      · refine T.skip (Post.blkN ?_)
        refine id (Post.thnN ?_)
        refine T.region ?_
        refine R.mvE rfl (by conv => lhs; whnf) ?_
        refine R.addI rfl rfl rfl (by omega) ?_
        refine R.asE rfl (by conv => lhs; whnf) ?_
        refine TL.nil (Post.thnN ?_)
        -- round's end, way yn
        exact ⟨k + 1, s_0, ⟨⟨by omega, by omega⟩, fun j j1 j2 => if e : j = k then by rw [e]; exact c24 else hlt j j1 (by omega)⟩, by omega, ⟨rfl, rfl, trivial⟩⟩
    · refine T.exit (Post.thnE (Post.thnE (Post.blkX ?_)))
      refine id (Post.thnN ?_)
      refine T.seq ?_
      refine T.region ?_
      refine R.asE rfl (by conv => lhs; whnf) ?_
      refine TL.nil (Post.thnN ?_)
      refine T.ret ?_
      -- way n
      exact fin1 rfl rfl ⟨rfl, congrArg (Value.int .i64) (kindG_none (fun j j1 j2 => hlt j j1 (by omega))).symm⟩
def ident_Parts_m (a0 : Int) : Int × Int :=
  LR.seq (ident_halves_m a0) (fun r8 => LR.seq (if ((kindG a0) : Int) = 1 then true else ((decide (((kindG a0) : Int) = 2))) : Bool) (fun sc1 => if sc1 = true then ((r8.2, r8.1)) else (LR.seq (if ((kindG a0) : Int) = 3 then true else ((decide (((kindG a0) : Int) = 4))) : Bool) (fun sc2 => if sc2 = true then ((r8.1, r8.2)) else ((0, 0))))))
set_option maxHeartbeats 3200000 in
theorem ident_Parts_c (H : Heap) (a0 : Int) : Fv Tryz.prog (fnv 29) [.int .u64 a0] H (.tuple #[.int .i64 (ident_Parts_m a0).1, .int .i64 (ident_Parts_m a0).2]) := by
  refine Fc.of_body (N := 23) Tryz.func29 rfl (by kernel_rfl) rfl rfl ?_
  intro w0
  refine T.seq ?_
  refine T.region ?_
  refine R.asE rfl (by conv => lhs; whnf) ?_
  refine R.asE rfl (by conv => lhs; whnf) ?_
  refine TL.nil (Post.thnN ?_)
  refine T.seq ?_
  refine T.region ?_
  refine R.mvE rfl (by conv => lhs; whnf) ?_
  obtain ⟨r8, er8⟩ : ∃ r, r = (ident_halves_m a0) := ⟨_, rfl⟩
  refine R.callv (v := .tuple #[.int .i64 r8.1, .int .i64 r8.2]) rfl rfl rfl (by rw [er8]; exact ident_halves_c _ (a0)) ?_
  refine R.mvE rfl (by conv => lhs; whnf) ?_
  refine R.ext rfl rfl rfl ?_
  refine R.ext rfl rfl rfl ?_
  refine R.asE rfl (by conv => lhs; whnf) ?_
  refine R.asE rfl (by conv => lhs; whnf) ?_
  refine TL.nil (Post.thnN ?_)
  refine T.seq ?_
  refine T.seq ?_
  refine T.region ?_
  refine R.mvE rfl (by conv => lhs; whnf) ?_
  refine R.callv rfl rfl rfl (kindG_c _ a0) ?_
  refine TL.nil (Post.thnN ?_)
  refine T.block ?_
  refine T.seq ?_
  refine T.seq ?_
  refine T.region ?_
  refine R.eql rfl rfl rfl ?_
  refine R.asE rfl (by conv => lhs; whnf) ?_
  refine TL.nil (Post.thnN ?_)
  refine T.cutK (ι := Bool) (fun b13c1 H' L' ds' => Has L' [] ∧ (if ((kindG a0) : Int) = 1 then true else ((decide (((kindG a0) : Int) = 2))) : Bool) = b13c1) (fun b13c1 => [(4, .int .i64 (r8.1)), (5, .int .i64 (r8.2)), (12, .int .i64 (kindG a0)), (13, .bool (b13c1))]) ?_ ?_
  · refine T.condD rfl (fun c13 => ?_) (fun c13 => ?_)
    · refine T.set 13 (.bool true) (congrArg Value.bool (decide_eq_true c13)) ?_
      refine T.skip (Post.thnN ?_)
      exact ⟨true, HLe.refl _, ⟨Has.nil, (by rw [if_pos c13])⟩, rfl, rfl, rfl, rfl, trivial⟩
    · refine T.set 13 (.bool false) (congrArg Value.bool (decide_eq_false c13)) ?_
      refine T.region ?_
      refine R.eql rfl rfl rfl ?_
      refine R.asE rfl (by conv => lhs; whnf) ?_
      refine TL.nil (Post.thnN ?_)
      exact ⟨(decide (((kindG a0) : Int) = 2)), HLe.refl _, ⟨Has.nil, (by rw [if_neg c13])⟩, rfl, rfl, rfl, rfl, trivial⟩
  · intro b13c1 σ_c1 H_c1 L_c1 ds_c1 s_c1 hI_c1
    obtain ⟨hLc1, hTc1⟩ := hI_c1
    refine T.has hLc1 ?_
    refine T.cond rfl (fun c13 => ?_) (fun c13 => ?_)
    · refine T.set 13 (.bool true) (congrArg Value.bool c13) ?_
      have hZ13 := hTc1.trans c13
      try simp only [or_f, or_t, and_f, and_t, decide_eq_true_eq, decide_eq_false_iff_not, Bool.not_eq_true'] at hZ13
      refine T.seq ?_
      refine T.region ?_
      refine R.mvE rfl (by conv => lhs; whnf) ?_
      refine R.mvE rfl (by conv => lhs; whnf) ?_
      refine R.asE rfl (by conv => lhs; whnf) ?_
      refine R.asE rfl (by conv => lhs; whnf) ?_
      refine TL.nil (Post.thnN ?_)
      refine T.has Has.nil ?_
      refine T.ret (Post.blkR (Post.thnR ?_))
      have hM : ident_Parts_m a0 = (r8.2, r8.1) := by subst er8; rw [ident_Parts_m, LR.seq_go, hTc1, LR.seq_go, if_t c13]
      exact fin2L (v := .int .i64 (r8.2)) (v' := .int .i64 (r8.1)) [] rfl rfl rfl (List.Sublist.refl _) ⟨rfl, by first | rw [hM] | rfl⟩
    · refine T.set 13 (.bool false) (congrArg Value.bool c13) ?_
      have hZ13 := hTc1.trans c13
      try simp only [or_f, or_t, and_f, and_t, decide_eq_true_eq, decide_eq_false_iff_not, Bool.not_eq_true'] at hZ13
      refine T.seq ?_
      refine T.seq ?_
      refine T.region ?_
      refine R.eql rfl rfl rfl ?_
      refine R.asE rfl (by conv => lhs; whnf) ?_
      refine TL.nil (Post.thnN ?_)
      refine T.cutK (ι := Bool) (fun b18c2 H' L' ds' => Has L' [] ∧ (if ((kindG a0) : Int) = 3 then true else ((decide (((kindG a0) : Int) = 4))) : Bool) = b18c2) (fun b18c2 => [(4, .int .i64 (r8.1)), (5, .int .i64 (r8.2)), (18, .bool (b18c2))]) ?_ ?_
      · refine T.condD rfl (fun c18 => ?_) (fun c18 => ?_)
        · refine T.set 18 (.bool true) (congrArg Value.bool (decide_eq_true c18)) ?_
          refine T.skip (Post.thnN ?_)
          exact ⟨true, HLe.refl _, ⟨Has.nil, (by rw [if_pos c18])⟩, rfl, rfl, rfl, trivial⟩
        · refine T.set 18 (.bool false) (congrArg Value.bool (decide_eq_false c18)) ?_
          refine T.region ?_
          refine R.eql rfl rfl rfl ?_
          refine R.asE rfl (by conv => lhs; whnf) ?_
          refine TL.nil (Post.thnN ?_)
          exact ⟨(decide (((kindG a0) : Int) = 4)), HLe.refl _, ⟨Has.nil, (by rw [if_neg c18])⟩, rfl, rfl, rfl, trivial⟩
      · intro b18c2 σ_c2 H_c2 L_c2 ds_c2 s_c2 hI_c2
        obtain ⟨hLc2, hTc2⟩ := hI_c2
        refine T.has hLc2 ?_
        refine T.cond rfl (fun c18 => ?_) (fun c18 => ?_)
        · refine T.set 18 (.bool true) (congrArg Value.bool c18) ?_
          have hZ18 := hTc2.trans c18
          try simp only [or_f, or_t, and_f, and_t, decide_eq_true_eq, decide_eq_false_iff_not, Bool.not_eq_true'] at hZ18
          refine T.seq ?_
          refine T.region ?_
          refine R.mvE rfl (by conv => lhs; whnf) ?_
          refine R.mvE rfl (by conv => lhs; whnf) ?_
          refine R.asE rfl (by conv => lhs; whnf) ?_
          refine R.asE rfl (by conv => lhs; whnf) ?_
          refine TL.nil (Post.thnN ?_)
          refine T.has Has.nil ?_
          refine T.ret (Post.blkR (Post.thnR ?_))
          have hM : ident_Parts_m a0 = (r8.1, r8.2) := by subst er8; rw [ident_Parts_m, LR.seq_go, hTc1, LR.seq_go, if_f c13, hTc2, LR.seq_go, if_t c18]
          exact fin2L (v := .int .i64 (r8.1)) (v' := .int .i64 (r8.2)) [] rfl rfl rfl (List.Sublist.refl _) ⟨rfl, by first | rw [hM] | rfl⟩
        · refine T.set 18 (.bool false) (congrArg Value.bool c18) ?_
          have hZ18 := hTc2.trans c18
          try simp only [or_f, or_t, and_f, and_t, decide_eq_true_eq, decide_eq_false_iff_not, Bool.not_eq_true'] at hZ18
          refine T.skip (Post.blkN ?_)
          refine id (Post.thnN ?_)
          refine T.seq ?_
          refine T.region ?_
          refine R.asE rfl (by conv => lhs; whnf) ?_
          refine R.asE rfl (by conv => lhs; whnf) ?_
          refine TL.nil (Post.thnN ?_)
          refine T.has Has.nil ?_
          refine T.ret ?_
          have hM : ident_Parts_m a0 = (0, 0) := by subst er8; rw [ident_Parts_m, LR.seq_go, hTc1, LR.seq_go, if_f c13, hTc2, LR.seq_go, if_f c18]
          exact fin2L (v := .int .i64 0) (v' := .int .i64 0) [] rfl rfl rfl (List.Sublist.refl _) ⟨rfl, by first | rw [hM] | rfl⟩

def ident_Pair_m (a0 : Int) (a1 : Int) : Int × Int :=
  if (!(ident_within_m 0 1048578 ([a0, a1]))) = true then ((0, 2)) else (((ident_packed_m 9223372036854775808 a0 a1), 0))
set_option maxHeartbeats 3200000 in
theorem ident_Pair_c (H : Heap) (a0 : Int) (a1 : Int) : Fv Tryz.prog (fnv 54) [.int .i64 a0, .int .i64 a1] H (.tuple #[.int .u64 (ident_Pair_m a0 a1).1, .int .i64 (ident_Pair_m a0 a1).2]) := by
  refine Fc.of_body (N := 14) Tryz.func54 rfl (by kernel_rfl) rfl rfl ?_
  intro w0
  refine T.seq ?_
  refine T.region ?_
  refine R.asE rfl (by conv => lhs; whnf) ?_
  refine R.asE rfl (by conv => lhs; whnf) ?_
  refine TL.nil (Post.thnN ?_)
  refine T.seq ?_
  refine T.seq ?_
  refine T.region ?_
  refine R.mvE rfl (by conv => lhs; whnf) ?_
  refine R.mvE rfl (by conv => lhs; whnf) ?_
  refine R.bsN [.int .i64 a0, .int .i64 a1] rfl Tryz.underlying30 Tryz.sizeOf3 Tryz.zeroValue3 rfl rfl rfl rfl rfl rfl ?_
  intro b8
  have w8 : OwnS (intE .i64) 3 H (.slice (some ⟨b8, 0, none⟩) 2 2) [a0, a1] [(b8, .cells #[.int .i64 a0, .int .i64 a1] 3)] := OwnS.lit (xs := [a0, a1]) (cellsOf_cons (a := [.int .i64 a0]) rfl (cellsOf_cons (a := [.int .i64 a1]) rfl cellsOf_nil)) (by show 2 ≤ maxLen; decide)
  refine TL.shut .hd ?_
  intro HF8_1 sF8_1 qF8_1
  have fF8_1 := OwnS.read w8 sF8_1 qF8_1
  refine R.callv rfl rfl rfl (ident_within_c _ (0) (1048578) _ ([a0, a1]) fF8_1) ?_
  refine R.not rfl rfl ?_
  refine TL.nil (Post.thnN ?_)
  refine T.cond rfl (fun c10 => ?_) (fun c10 => ?_)
  · refine T.set 10 (.bool true) (congrArg Value.bool c10) ?_
    refine T.seq ?_
    refine T.region ?_
    refine R.asE rfl (by conv => lhs; whnf) ?_
    refine R.asE rfl (by conv => lhs; whnf) ?_
    refine TL.nil (Post.thnN ?_)
    refine T.has Has.nil ?_
    refine T.ret (Post.thnR ?_)
    have hM : ident_Pair_m a0 a1 = (0, 2) := by rw [ident_Pair_m, if_t c10]
    exact fin2L (v := .int .u64 0) (v' := .int .i64 2) [] rfl rfl rfl (List.Sublist.refl _) ⟨rfl, by first | rw [hM] | rfl⟩
  · refine T.set 10 (.bool false) (congrArg Value.bool c10) ?_
    refine T.skip (Post.thnN ?_)
    refine T.seq ?_
    refine T.region ?_
    refine R.mvE rfl (by conv => lhs; whnf) ?_
    refine R.mvE rfl (by conv => lhs; whnf) ?_
    refine R.callv rfl rfl rfl (ident_packed_c _ (9223372036854775808) (a0) (a1)) ?_
    refine R.asE rfl (by conv => lhs; whnf) ?_
    refine R.asE rfl (by conv => lhs; whnf) ?_
    refine TL.nil (Post.thnN ?_)
    refine T.has Has.nil ?_
    refine T.ret ?_
    have hM : ident_Pair_m a0 a1 = ((ident_packed_m 9223372036854775808 a0 a1), 0) := by rw [ident_Pair_m, if_f c10]
    exact fin2L (v := .int .u64 (ident_packed_m 9223372036854775808 a0 a1)) (v' := .int .i64 0) [] rfl rfl rfl (List.Sublist.refl _) ⟨rfl, by first | rw [hM] | rfl⟩

def windroseref01_Halves_m (a0 : Int) : Int × Int :=
  ((IntKind.i64.wrap (Int.tmod (IntKind.u64.wrap (Int.tdiv a0 4294967296)) 1073741824)), (IntKind.i64.wrap (Int.tmod a0 1073741824)))
set_option maxHeartbeats 3200000 in
theorem windroseref01_Halves_c (H : Heap) (a0 : Int) : Fv Tryz.prog (fnv 106) [.int .u64 a0] H (.tuple #[.int .i64 (windroseref01_Halves_m a0).1, .int .i64 (windroseref01_Halves_m a0).2]) := by
  refine Fc.of_body (N := 11) Tryz.func106 rfl (by kernel_rfl) rfl rfl ?_
  intro w0
  refine T.seq ?_
  refine T.region ?_
  refine R.asE rfl (by conv => lhs; whnf) ?_
  refine R.asE rfl (by conv => lhs; whnf) ?_
  refine TL.nil (Post.thnN ?_)
  refine T.seq ?_
  refine T.region ?_
  refine R.mvE rfl (by conv => lhs; whnf) ?_
  refine R.quo rfl rfl rfl (by omega) ?_
  refine R.rem rfl rfl rfl (by omega) ?_
  refine R.conv Tryz.underlying47 Tryz.underlying3 rfl rfl ?_
  refine R.mvE rfl (by conv => lhs; whnf) ?_
  refine R.rem rfl rfl rfl (by omega) ?_
  refine R.conv Tryz.underlying47 Tryz.underlying3 rfl rfl ?_
  refine R.asE rfl (by conv => lhs; whnf) ?_
  refine R.asE rfl (by conv => lhs; whnf) ?_
  refine TL.nil (Post.thnN ?_)
  refine T.has Has.nil ?_
  refine T.ret ?_
  have hM : windroseref01_Halves_m a0 = ((IntKind.i64.wrap (Int.tmod (IntKind.u64.wrap (Int.tdiv a0 4294967296)) 1073741824)), (IntKind.i64.wrap (Int.tmod a0 1073741824))) := by rw [windroseref01_Halves_m]
  exact fin2L (v := .int .i64 (IntKind.i64.wrap (Int.tmod (IntKind.u64.wrap (Int.tdiv a0 4294967296)) 1073741824))) (v' := .int .i64 (IntKind.i64.wrap (Int.tmod a0 1073741824))) [] rfl rfl rfl (List.Sublist.refl _) ⟨rfl, by first | rw [hM] | rfl⟩

def windroseref01_Made_m (a0 : Int) (a1 : Int) (a2 : Int) : Int :=
  (IntKind.u64.wrap ((IntKind.u64.wrap (a0 + (IntKind.u64.wrap ((IntKind.u64.wrap a1) * 4294967296)))) + (IntKind.u64.wrap a2)))
set_option maxHeartbeats 3200000 in
theorem windroseref01_Made_c (H : Heap) (a0 : Int) (a1 : Int) (a2 : Int) : Fv Tryz.prog (fnv 107) [.int .u64 a0, .int .i64 a1, .int .i64 a2] H (.int .u64 (windroseref01_Made_m a0 a1 a2)) := by
  refine Fc.of_body (N := 15) Tryz.func107 rfl (by kernel_rfl) rfl rfl ?_
  intro w0
  refine T.seq ?_
  refine T.region ?_
  refine R.asE rfl (by conv => lhs; whnf) ?_
  refine TL.nil (Post.thnN ?_)
  refine T.seq ?_
  refine T.region ?_
  refine R.mvE rfl (by conv => lhs; whnf) ?_
  refine R.mvE rfl (by conv => lhs; whnf) ?_
  refine R.conv Tryz.underlying3 Tryz.underlying47 rfl rfl ?_
  refine R.mul rfl rfl rfl ?_
  refine R.add rfl rfl rfl ?_
  refine R.mvE rfl (by conv => lhs; whnf) ?_
  refine R.conv Tryz.underlying3 Tryz.underlying47 rfl rfl ?_
  refine R.add rfl rfl rfl ?_
  refine R.asE rfl (by conv => lhs; whnf) ?_
  refine TL.nil (Post.thnN ?_)
  refine T.has Has.nil ?_
  refine T.ret ?_
  have hM : windroseref01_Made_m a0 a1 a2 = (IntKind.u64.wrap ((IntKind.u64.wrap (a0 + (IntKind.u64.wrap ((IntKind.u64.wrap a1) * 4294967296)))) + (IntKind.u64.wrap a2))) := by rw [windroseref01_Made_m]
  exact fin1L (v := .int .u64 (IntKind.u64.wrap ((IntKind.u64.wrap (a0 + (IntKind.u64.wrap ((IntKind.u64.wrap a1) * 4294967296)))) + (IntKind.u64.wrap a2)))) [] rfl rfl (List.Sublist.refl _) ⟨rfl, by first | rw [hM] | rfl⟩

def windroseref01_Is_m (a0 : Int) (a1 : Int) (a2 : Int) : Bool :=
  if a1 ≤ a0 then ((decide (a0 ≤ a2))) else false
set_option maxHeartbeats 3200000 in
theorem windroseref01_Is_c (H : Heap) (a0 : Int) (a1 : Int) (a2 : Int) : Fv Tryz.prog (fnv 57) [.int .i64 a0, .int .i64 a1, .int .i64 a2] H (.bool (windroseref01_Is_m a0 a1 a2)) := by
  refine Fc.of_body (N := 15) Tryz.func57 rfl (by kernel_rfl) rfl rfl ?_
  intro w0
  refine T.seq ?_
  refine T.region ?_
  refine R.asE rfl (by conv => lhs; whnf) ?_
  refine TL.nil (Post.thnN ?_)
  refine T.seq ?_
  refine T.region ?_
  refine R.mvE rfl (by conv => lhs; whnf) ?_
  refine R.mvE rfl (by conv => lhs; whnf) ?_
  refine R.geq rfl rfl rfl ?_
  refine R.mvE rfl (by conv => lhs; whnf) ?_
  refine TL.gsplitD 10 rfl (fun g10 => ?_) (fun g10 => ?_)
  · refine R.mvE rfl (by conv => lhs; whnf) ?_
    refine R.mvE rfl (by conv => lhs; whnf) ?_
    refine R.leq rfl rfl rfl ?_
    refine R.pkTE rfl rfl (by conv => lhs; whnf) ?_
    refine R.asE rfl (by conv => lhs; whnf) ?_
    refine TL.nil (Post.thnN ?_)
    refine T.has Has.nil ?_
    refine T.ret ?_
    have hM : windroseref01_Is_m a0 a1 a2 = (decide (a0 ≤ a2)) := by rw [windroseref01_Is_m, if_pos g10]
    exact fin1L (v := .bool (decide (a0 ≤ a2))) [] rfl rfl (List.Sublist.refl _) ⟨rfl, by first | rw [hM] | rfl⟩
  · refine TL.off rfl rfl rfl ?_
    refine TL.off rfl rfl rfl ?_
    refine TL.off rfl rfl rfl ?_
    refine R.pkFE rfl rfl (by conv => lhs; whnf) ?_
    refine R.asE rfl (by conv => lhs; whnf) ?_
    refine TL.nil (Post.thnN ?_)
    refine T.has Has.nil ?_
    refine T.ret ?_
    have hM : windroseref01_Is_m a0 a1 a2 = false := by rw [windroseref01_Is_m, if_neg g10]
    exact fin1L (v := .bool false) [] rfl rfl (List.Sublist.refl _) ⟨rfl, by first | rw [hM] | rfl⟩

def windroseref01_Kind_m (a0 : Int) : Int :=
  LR.seq (windroseref01_Halves_m a0) (fun r7 => LR.seq (if a0 = (windroseref01_Made_m 0 r7.1 r7.2) then (if (windroseref01_Is_m r7.2 1 1048578) = true then ((windroseref01_Is_m r7.1 0 7)) else false) else false : Bool) (fun sc1 => if sc1 = true then 1 else (LR.seq (if a0 = (windroseref01_Made_m 4611686018427387904 0 r7.2) then ((windroseref01_Is_m r7.2 1 24)) else false : Bool) (fun sc2 => if sc2 = true then 2 else (LR.seq (if a0 = (windroseref01_Made_m 9223372036854775808 r7.1 r7.2) then (if (windroseref01_Is_m r7.1 1 1048578) = true then ((windroseref01_Is_m r7.2 1 1048578)) else false) else false : Bool) (fun sc3 => if sc3 = true then 3 else (LR.seq (if a0 = (windroseref01_Made_m 9223372036854775808 r7.1 r7.2) then (if (windroseref01_Is_m r7.1 0 1048578) = true then ((windroseref01_Is_m r7.2 0 1048578)) else false) else false : Bool) (fun sc4 => if sc4 = true then 4 else 0))))))))
set_option maxHeartbeats 3200000 in
theorem windroseref01_Kind_c (H : Heap) (a0 : Int) : Fv Tryz.prog (fnv 88) [.int .u64 a0] H (.int .i64 (windroseref01_Kind_m a0)) := by
  refine Fc.of_body (N := 61) Tryz.func88 rfl (by kernel_rfl) rfl rfl ?_
  intro w0
  refine T.seq ?_
  refine T.region ?_
  refine R.asE rfl (by conv => lhs; whnf) ?_
  refine TL.nil (Post.thnN ?_)
  refine T.seq ?_
  refine T.region ?_
  refine R.mvE rfl (by conv => lhs; whnf) ?_
  obtain ⟨r7, er7⟩ : ∃ r, r = (windroseref01_Halves_m a0) := ⟨_, rfl⟩
  refine R.callv (v := .tuple #[.int .i64 r7.1, .int .i64 r7.2]) rfl rfl rfl (by rw [er7]; exact windroseref01_Halves_c _ (a0)) ?_
  refine R.mvE rfl (by conv => lhs; whnf) ?_
  refine R.ext rfl rfl rfl ?_
  refine R.ext rfl rfl rfl ?_
  refine R.asE rfl (by conv => lhs; whnf) ?_
  refine R.asE rfl (by conv => lhs; whnf) ?_
  refine TL.nil (Post.thnN ?_)
  refine T.seq ?_
  refine T.block ?_
  refine T.seq ?_
  refine T.cutK (ι := Bool) (fun b10c1 H' L' ds' => Has L' [] ∧ (if a0 = (windroseref01_Made_m 0 r7.1 r7.2) then (if (windroseref01_Is_m r7.2 1 1048578) = true then ((windroseref01_Is_m r7.1 0 7)) else false) else false : Bool) = b10c1) (fun b10c1 => [(0, .int .u64 a0), (3, .int .i64 (r7.1)), (4, .int .i64 (r7.2)), (10, .bool (b10c1))]) ?_ ?_
  · refine T.region ?_
    refine R.mvE rfl (by conv => lhs; whnf) ?_
    refine R.mvE rfl (by conv => lhs; whnf) ?_
    refine R.mvE rfl (by conv => lhs; whnf) ?_
    refine R.callv rfl rfl rfl (windroseref01_Made_c _ (0) (r7.1) (r7.2)) ?_
    refine R.eql rfl rfl rfl ?_
    refine R.mvE rfl (by conv => lhs; whnf) ?_
    refine TL.gsplitD 16 rfl (fun g16 => ?_) (fun g16 => ?_)
    · refine R.mvE rfl (by conv => lhs; whnf) ?_
      refine R.callv rfl rfl rfl (windroseref01_Is_c _ (r7.2) (1) (1048578)) ?_
      refine R.pkTE rfl rfl (by conv => lhs; whnf) ?_
      refine R.mvE rfl (by conv => lhs; whnf) ?_
      refine TL.gsplit 20 rfl (fun g20 => ?_) (fun g20 => ?_)
      · refine R.mvE rfl (by conv => lhs; whnf) ?_
        refine R.callv rfl rfl rfl (windroseref01_Is_c _ (r7.1) (0) (7)) ?_
        refine R.pkTE rfl rfl (by conv => lhs; whnf) ?_
        refine R.asE rfl (by conv => lhs; whnf) ?_
        refine TL.nil (Post.thnN ?_)
        exact ⟨(windroseref01_Is_m r7.1 0 7), HLe.refl _, ⟨Has.nil, (by rw [if_pos g16, if_t g20])⟩, rfl, rfl, rfl, rfl, trivial⟩
      · refine TL.off rfl rfl rfl ?_
        refine TL.off rfl rfl rfl ?_
        refine R.pkFE rfl rfl (by conv => lhs; whnf) ?_
        refine R.asE rfl (by conv => lhs; whnf) ?_
        refine TL.nil (Post.thnN ?_)
        exact ⟨false, HLe.refl _, ⟨Has.nil, (by rw [if_pos g16, if_f g20])⟩, rfl, rfl, rfl, rfl, trivial⟩
    · refine TL.off rfl rfl rfl ?_
      refine TL.off rfl rfl rfl ?_
      refine R.pkFE rfl rfl (by conv => lhs; whnf) ?_
      refine R.mvE rfl (by conv => lhs; whnf) ?_
      refine TL.off rfl rfl rfl ?_
      refine TL.off rfl rfl rfl ?_
      refine R.pkFE rfl rfl (by conv => lhs; whnf) ?_
      refine R.asE rfl (by conv => lhs; whnf) ?_
      refine TL.nil (Post.thnN ?_)
      exact ⟨false, HLe.refl _, ⟨Has.nil, (by rw [if_neg g16])⟩, rfl, rfl, rfl, rfl, trivial⟩
  · intro b10c1 σ_c1 H_c1 L_c1 ds_c1 s_c1 hI_c1
    obtain ⟨hLc1, hTc1⟩ := hI_c1
    refine T.has hLc1 ?_
    refine T.cond rfl (fun c10 => ?_) (fun c10 => ?_)
    · refine T.set 10 (.bool true) (congrArg Value.bool c10) ?_
      have hZ10 := hTc1.trans c10
      try simp only [or_f, or_t, and_f, and_t, decide_eq_true_eq, decide_eq_false_iff_not, Bool.not_eq_true'] at hZ10
      refine T.seq ?_
      refine T.region ?_
      refine R.asE rfl (by conv => lhs; whnf) ?_
      refine TL.nil (Post.thnN ?_)
      refine T.has Has.nil ?_
      refine T.ret (Post.blkR (Post.thnR ?_))
      have hM : windroseref01_Kind_m a0 = 1 := by subst er7; rw [windroseref01_Kind_m, LR.seq_go, hTc1, LR.seq_go, if_t c10]
      exact fin1L (v := .int .i64 1) [] rfl rfl (List.Sublist.refl _) ⟨rfl, by first | rw [hM] | rfl⟩
    · refine T.set 10 (.bool false) (congrArg Value.bool c10) ?_
      have hZ10 := hTc1.trans c10
      try simp only [or_f, or_t, and_f, and_t, decide_eq_true_eq, decide_eq_false_iff_not, Bool.not_eq_true'] at hZ10
      refine T.seq ?_
      refine T.cutK (ι := Bool) (fun b24c2 H' L' ds' => Has L' [] ∧ (if a0 = (windroseref01_Made_m 4611686018427387904 0 r7.2) then ((windroseref01_Is_m r7.2 1 24)) else false : Bool) = b24c2) (fun b24c2 => [(0, .int .u64 a0), (3, .int .i64 (r7.1)), (4, .int .i64 (r7.2)), (24, .bool (b24c2))]) ?_ ?_
      · refine T.region ?_
        refine R.mvE rfl (by conv => lhs; whnf) ?_
        refine R.mvE rfl (by conv => lhs; whnf) ?_
        refine R.callv rfl rfl rfl (windroseref01_Made_c _ (4611686018427387904) (0) (r7.2)) ?_
        refine R.eql rfl rfl rfl ?_
        refine R.mvE rfl (by conv => lhs; whnf) ?_
        refine TL.gsplitD 29 rfl (fun g29 => ?_) (fun g29 => ?_)
        · refine R.mvE rfl (by conv => lhs; whnf) ?_
          refine R.callv rfl rfl rfl (windroseref01_Is_c _ (r7.2) (1) (24)) ?_
          refine R.pkTE rfl rfl (by conv => lhs; whnf) ?_
          refine R.asE rfl (by conv => lhs; whnf) ?_
          refine TL.nil (Post.thnN ?_)
          exact ⟨(windroseref01_Is_m r7.2 1 24), HLe.refl _, ⟨Has.nil, (by rw [if_pos g29])⟩, rfl, rfl, rfl, rfl, trivial⟩
        · refine TL.off rfl rfl rfl ?_
          refine TL.off rfl rfl rfl ?_
          refine R.pkFE rfl rfl (by conv => lhs; whnf) ?_
          refine R.asE rfl (by conv => lhs; whnf) ?_
          refine TL.nil (Post.thnN ?_)
          exact ⟨false, HLe.refl _, ⟨Has.nil, (by rw [if_neg g29])⟩, rfl, rfl, rfl, rfl, trivial⟩
      · intro b24c2 σ_c2 H_c2 L_c2 ds_c2 s_c2 hI_c2
        obtain ⟨hLc2, hTc2⟩ := hI_c2
        refine T.has hLc2 ?_
        refine T.cond rfl (fun c24 => ?_) (fun c24 => ?_)
        · refine T.set 24 (.bool true) (congrArg Value.bool c24) ?_
          have hZ24 := hTc2.trans c24
          try simp only [or_f, or_t, and_f, and_t, decide_eq_true_eq, decide_eq_false_iff_not, Bool.not_eq_true'] at hZ24
          refine T.seq ?_
          refine T.region ?_
          refine R.asE rfl (by conv => lhs; whnf) ?_
          refine TL.nil (Post.thnN ?_)
          refine T.has Has.nil ?_
          refine T.ret (Post.blkR (Post.thnR ?_))
          have hM : windroseref01_Kind_m a0 = 2 := by subst er7; rw [windroseref01_Kind_m, LR.seq_go, hTc1, LR.seq_go, if_f c10, hTc2, LR.seq_go, if_t c24]
          exact fin1L (v := .int .i64 2) [] rfl rfl (List.Sublist.refl _) ⟨rfl, by first | rw [hM] | rfl⟩
        · refine T.set 24 (.bool false) (congrArg Value.bool c24) ?_
          have hZ24 := hTc2.trans c24
          try simp only [or_f, or_t, and_f, and_t, decide_eq_true_eq, decide_eq_false_iff_not, Bool.not_eq_true'] at hZ24
          refine T.seq ?_
          refine T.cutK (ι := Bool) (fun b33c3 H' L' ds' => Has L' [] ∧ (if a0 = (windroseref01_Made_m 9223372036854775808 r7.1 r7.2) then (if (windroseref01_Is_m r7.1 1 1048578) = true then ((windroseref01_Is_m r7.2 1 1048578)) else false) else false : Bool) = b33c3) (fun b33c3 => [(0, .int .u64 a0), (3, .int .i64 (r7.1)), (4, .int .i64 (r7.2)), (33, .bool (b33c3))]) ?_ ?_
          · refine T.region ?_
            refine R.mvE rfl (by conv => lhs; whnf) ?_
            refine R.mvE rfl (by conv => lhs; whnf) ?_
            refine R.mvE rfl (by conv => lhs; whnf) ?_
            refine R.callv rfl rfl rfl (windroseref01_Made_c _ (9223372036854775808) (r7.1) (r7.2)) ?_
            refine R.eql rfl rfl rfl ?_
            refine R.mvE rfl (by conv => lhs; whnf) ?_
            refine TL.gsplitD 39 rfl (fun g39 => ?_) (fun g39 => ?_)
            · refine R.mvE rfl (by conv => lhs; whnf) ?_
              refine R.callv rfl rfl rfl (windroseref01_Is_c _ (r7.1) (1) (1048578)) ?_
              refine R.pkTE rfl rfl (by conv => lhs; whnf) ?_
              refine R.mvE rfl (by conv => lhs; whnf) ?_
              refine TL.gsplit 43 rfl (fun g43 => ?_) (fun g43 => ?_)
              · refine R.mvE rfl (by conv => lhs; whnf) ?_
                refine R.callv rfl rfl rfl (windroseref01_Is_c _ (r7.2) (1) (1048578)) ?_
                refine R.pkTE rfl rfl (by conv => lhs; whnf) ?_
                refine R.asE rfl (by conv => lhs; whnf) ?_
                refine TL.nil (Post.thnN ?_)
                exact ⟨(windroseref01_Is_m r7.2 1 1048578), HLe.refl _, ⟨Has.nil, (by rw [if_pos g39, if_t g43])⟩, rfl, rfl, rfl, rfl, trivial⟩
              · refine TL.off rfl rfl rfl ?_
                refine TL.off rfl rfl rfl ?_
                refine R.pkFE rfl rfl (by conv => lhs; whnf) ?_
                refine R.asE rfl (by conv => lhs; whnf) ?_
                refine TL.nil (Post.thnN ?_)
                exact ⟨false, HLe.refl _, ⟨Has.nil, (by rw [if_pos g39, if_f g43])⟩, rfl, rfl, rfl, rfl, trivial⟩
            · refine TL.off rfl rfl rfl ?_
              refine TL.off rfl rfl rfl ?_
              refine R.pkFE rfl rfl (by conv => lhs; whnf) ?_
              refine R.mvE rfl (by conv => lhs; whnf) ?_
              refine TL.off rfl rfl rfl ?_
              refine TL.off rfl rfl rfl ?_
              refine R.pkFE rfl rfl (by conv => lhs; whnf) ?_
              refine R.asE rfl (by conv => lhs; whnf) ?_
              refine TL.nil (Post.thnN ?_)
              exact ⟨false, HLe.refl _, ⟨Has.nil, (by rw [if_neg g39])⟩, rfl, rfl, rfl, rfl, trivial⟩
          · intro b33c3 σ_c3 H_c3 L_c3 ds_c3 s_c3 hI_c3
            obtain ⟨hLc3, hTc3⟩ := hI_c3
            refine T.has hLc3 ?_
            refine T.cond rfl (fun c33 => ?_) (fun c33 => ?_)
            · refine T.set 33 (.bool true) (congrArg Value.bool c33) ?_
              have hZ33 := hTc3.trans c33
              try simp only [or_f, or_t, and_f, and_t, decide_eq_true_eq, decide_eq_false_iff_not, Bool.not_eq_true'] at hZ33
              refine T.seq ?_
              refine T.region ?_
              refine R.asE rfl (by conv => lhs; whnf) ?_
              refine TL.nil (Post.thnN ?_)
              refine T.has Has.nil ?_
              refine T.ret (Post.blkR (Post.thnR ?_))
              have hM : windroseref01_Kind_m a0 = 3 := by subst er7; rw [windroseref01_Kind_m, LR.seq_go, hTc1, LR.seq_go, if_f c10, hTc2, LR.seq_go, if_f c24, hTc3, LR.seq_go, if_t c33]
              exact fin1L (v := .int .i64 3) [] rfl rfl (List.Sublist.refl _) ⟨rfl, by first | rw [hM] | rfl⟩
            · refine T.set 33 (.bool false) (congrArg Value.bool c33) ?_
              have hZ33 := hTc3.trans c33
              try simp only [or_f, or_t, and_f, and_t, decide_eq_true_eq, decide_eq_false_iff_not, Bool.not_eq_true'] at hZ33
              refine T.seq ?_
              refine T.cutK (ι := Bool) (fun b47c4 H' L' ds' => Has L' [] ∧ (if a0 = (windroseref01_Made_m 9223372036854775808 r7.1 r7.2) then (if (windroseref01_Is_m r7.1 0 1048578) = true then ((windroseref01_Is_m r7.2 0 1048578)) else false) else false : Bool) = b47c4) (fun b47c4 => [(47, .bool (b47c4))]) ?_ ?_
              · refine T.region ?_
                refine R.mvE rfl (by conv => lhs; whnf) ?_
                refine R.mvE rfl (by conv => lhs; whnf) ?_
                refine R.mvE rfl (by conv => lhs; whnf) ?_
                refine R.callv rfl rfl rfl (windroseref01_Made_c _ (9223372036854775808) (r7.1) (r7.2)) ?_
                refine R.eql rfl rfl rfl ?_
                refine R.mvE rfl (by conv => lhs; whnf) ?_
                refine TL.gsplitD 53 rfl (fun g53 => ?_) (fun g53 => ?_)
                · refine R.mvE rfl (by conv => lhs; whnf) ?_
                  refine R.callv rfl rfl rfl (windroseref01_Is_c _ (r7.1) (0) (1048578)) ?_
                  refine R.pkTE rfl rfl (by conv => lhs; whnf) ?_
                  refine R.mvE rfl (by conv => lhs; whnf) ?_
                  refine TL.gsplit 57 rfl (fun g57 => ?_) (fun g57 => ?_)
                  · refine R.mvE rfl (by conv => lhs; whnf) ?_
                    refine R.callv rfl rfl rfl (windroseref01_Is_c _ (r7.2) (0) (1048578)) ?_
                    refine R.pkTE rfl rfl (by conv => lhs; whnf) ?_
                    refine R.asE rfl (by conv => lhs; whnf) ?_
                    refine TL.nil (Post.thnN ?_)
                    exact ⟨(windroseref01_Is_m r7.2 0 1048578), HLe.refl _, ⟨Has.nil, (by rw [if_pos g53, if_t g57])⟩, rfl, trivial⟩
                  · refine TL.off rfl rfl rfl ?_
                    refine TL.off rfl rfl rfl ?_
                    refine R.pkFE rfl rfl (by conv => lhs; whnf) ?_
                    refine R.asE rfl (by conv => lhs; whnf) ?_
                    refine TL.nil (Post.thnN ?_)
                    exact ⟨false, HLe.refl _, ⟨Has.nil, (by rw [if_pos g53, if_f g57])⟩, rfl, trivial⟩
                · refine TL.off rfl rfl rfl ?_
                  refine TL.off rfl rfl rfl ?_
                  refine R.pkFE rfl rfl (by conv => lhs; whnf) ?_
                  refine R.mvE rfl (by conv => lhs; whnf) ?_
                  refine TL.off rfl rfl rfl ?_
                  refine TL.off rfl rfl rfl ?_
                  refine R.pkFE rfl rfl (by conv => lhs; whnf) ?_
                  refine R.asE rfl (by conv => lhs; whnf) ?_
                  refine TL.nil (Post.thnN ?_)
                  exact ⟨false, HLe.refl _, ⟨Has.nil, (by rw [if_neg g53])⟩, rfl, trivial⟩
              · intro b47c4 σ_c4 H_c4 L_c4 ds_c4 s_c4 hI_c4
                obtain ⟨hLc4, hTc4⟩ := hI_c4
                refine T.has hLc4 ?_
                refine T.cond rfl (fun c47 => ?_) (fun c47 => ?_)
                · refine T.set 47 (.bool true) (congrArg Value.bool c47) ?_
                  have hZ47 := hTc4.trans c47
                  try simp only [or_f, or_t, and_f, and_t, decide_eq_true_eq, decide_eq_false_iff_not, Bool.not_eq_true'] at hZ47
                  refine T.seq ?_
                  refine T.region ?_
                  refine R.asE rfl (by conv => lhs; whnf) ?_
                  refine TL.nil (Post.thnN ?_)
                  refine T.has Has.nil ?_
                  refine T.ret (Post.blkR (Post.thnR ?_))
                  have hM : windroseref01_Kind_m a0 = 4 := by subst er7; rw [windroseref01_Kind_m, LR.seq_go, hTc1, LR.seq_go, if_f c10, hTc2, LR.seq_go, if_f c24, hTc3, LR.seq_go, if_f c33, hTc4, LR.seq_go, if_t c47]
                  exact fin1L (v := .int .i64 4) [] rfl rfl (List.Sublist.refl _) ⟨rfl, by first | rw [hM] | rfl⟩
                · refine T.set 47 (.bool false) (congrArg Value.bool c47) ?_
                  have hZ47 := hTc4.trans c47
                  try simp only [or_f, or_t, and_f, and_t, decide_eq_true_eq, decide_eq_false_iff_not, Bool.not_eq_true'] at hZ47
                  refine T.skip (Post.blkN ?_)
                  refine id (Post.thnN ?_)
                  refine T.seq ?_
                  refine T.region ?_
                  refine R.asE rfl (by conv => lhs; whnf) ?_
                  refine TL.nil (Post.thnN ?_)
                  refine T.has Has.nil ?_
                  refine T.ret ?_
                  have hM : windroseref01_Kind_m a0 = 0 := by subst er7; rw [windroseref01_Kind_m, LR.seq_go, hTc1, LR.seq_go, if_f c10, hTc2, LR.seq_go, if_f c24, hTc3, LR.seq_go, if_f c33, hTc4, LR.seq_go, if_f c47]
                  exact fin1L (v := .int .i64 0) [] rfl rfl (List.Sublist.refl _) ⟨rfl, by first | rw [hM] | rfl⟩

def windroseref01_Parts_m (a0 : Int) : Int × Int :=
  LR.seq (windroseref01_Halves_m a0) (fun r8 => LR.on (if ((windroseref01_Kind_m a0) : Int) = 0 then (.ret ((0, 0))) else (LR.seq (if ((windroseref01_Kind_m a0) : Int) = 1 then true else ((decide (((windroseref01_Kind_m a0) : Int) = 2))) : Bool) (fun sc2 => if sc2 = true then (.ret ((r8.2, r8.1))) else (.go ()))) : LR (Int × Int) (Unit)) (fun r => r) (fun sc1 => (r8.1, r8.2)))
set_option maxHeartbeats 3200000 in
theorem windroseref01_Parts_c (H : Heap) (a0 : Int) : Fv Tryz.prog (fnv 113) [.int .u64 a0] H (.tuple #[.int .i64 (windroseref01_Parts_m a0).1, .int .i64 (windroseref01_Parts_m a0).2]) := by
  refine Fc.of_body (N := 22) Tryz.func113 rfl (by kernel_rfl) rfl rfl ?_
  intro w0
  refine T.seq ?_
  refine T.region ?_
  refine R.asE rfl (by conv => lhs; whnf) ?_
  refine R.asE rfl (by conv => lhs; whnf) ?_
  refine TL.nil (Post.thnN ?_)
  refine T.seq ?_
  refine T.region ?_
  refine R.mvE rfl (by conv => lhs; whnf) ?_
  obtain ⟨r8, er8⟩ : ∃ r, r = (windroseref01_Halves_m a0) := ⟨_, rfl⟩
  refine R.callv (v := .tuple #[.int .i64 r8.1, .int .i64 r8.2]) rfl rfl rfl (by rw [er8]; exact windroseref01_Halves_c _ (a0)) ?_
  refine R.mvE rfl (by conv => lhs; whnf) ?_
  refine R.ext rfl rfl rfl ?_
  refine R.ext rfl rfl rfl ?_
  refine R.asE rfl (by conv => lhs; whnf) ?_
  refine R.asE rfl (by conv => lhs; whnf) ?_
  refine TL.nil (Post.thnN ?_)
  refine T.seq ?_
  refine T.seq ?_
  refine T.region ?_
  refine R.mvE rfl (by conv => lhs; whnf) ?_
  refine R.callv rfl rfl rfl (windroseref01_Kind_c _ (a0)) ?_
  refine TL.nil (Post.thnN ?_)
  refine T.cutK (ι := Unit) (fun _ H' L' ds' => Has L' [] ∧ (if ((windroseref01_Kind_m a0) : Int) = 0 then (.ret ((0, 0))) else (LR.seq (if ((windroseref01_Kind_m a0) : Int) = 1 then true else ((decide (((windroseref01_Kind_m a0) : Int) = 2))) : Bool) (fun sc2 => if sc2 = true then (.ret ((r8.2, r8.1))) else (.go ()))) : LR (Int × Int) (Unit)) = .go ()) (fun _ => [(4, .int .i64 (r8.1)), (5, .int .i64 (r8.2))]) ?_ ?_
  · refine T.block ?_
    refine T.seq ?_
    refine T.region ?_
    refine R.eql rfl rfl rfl ?_
    refine R.asE rfl (by conv => lhs; whnf) ?_
    refine TL.nil (Post.thnN ?_)
    refine T.condD rfl (fun c13 => ?_) (fun c13 => ?_)
    · refine T.set 13 (.bool true) (congrArg Value.bool (decide_eq_true c13)) ?_
      refine T.seq ?_
      refine T.region ?_
      refine R.asE rfl (by conv => lhs; whnf) ?_
      refine R.asE rfl (by conv => lhs; whnf) ?_
      refine TL.nil (Post.thnN ?_)
      refine T.has Has.nil ?_
      refine T.ret (Post.blkR (Post.thnR ?_))
      have hM : windroseref01_Parts_m a0 = (0, 0) := by subst er8; rw [windroseref01_Parts_m, LR.seq_go, if_pos c13, LR.on_ret]
      exact fin2L (v := .int .i64 0) (v' := .int .i64 0) [] rfl rfl rfl (List.Sublist.refl _) ⟨rfl, by first | rw [hM] | rfl⟩
    · refine T.set 13 (.bool false) (congrArg Value.bool (decide_eq_false c13)) ?_
      refine T.seq ?_
      refine T.seq ?_
      refine T.region ?_
      refine R.eql rfl rfl rfl ?_
      refine R.asE rfl (by conv => lhs; whnf) ?_
      refine TL.nil (Post.thnN ?_)
      refine T.cutK (ι := Bool) (fun b15c2 H' L' ds' => Has L' [] ∧ (if ((windroseref01_Kind_m a0) : Int) = 1 then true else ((decide (((windroseref01_Kind_m a0) : Int) = 2))) : Bool) = b15c2) (fun b15c2 => [(4, .int .i64 (r8.1)), (5, .int .i64 (r8.2)), (15, .bool (b15c2))]) ?_ ?_
      · refine T.condD rfl (fun c15 => ?_) (fun c15 => ?_)
        · refine T.set 15 (.bool true) (congrArg Value.bool (decide_eq_true c15)) ?_
          refine T.skip (Post.thnN ?_)
          exact ⟨true, HLe.refl _, ⟨Has.nil, (by rw [if_pos c15])⟩, rfl, rfl, rfl, trivial⟩
        · refine T.set 15 (.bool false) (congrArg Value.bool (decide_eq_false c15)) ?_
          refine T.region ?_
          refine R.eql rfl rfl rfl ?_
          refine R.asE rfl (by conv => lhs; whnf) ?_
          refine TL.nil (Post.thnN ?_)
          exact ⟨(decide (((windroseref01_Kind_m a0) : Int) = 2)), HLe.refl _, ⟨Has.nil, (by rw [if_neg c15])⟩, rfl, rfl, rfl, trivial⟩
      · intro b15c2 σ_c2 H_c2 L_c2 ds_c2 s_c2 hI_c2
        obtain ⟨hLc2, hTc2⟩ := hI_c2
        refine T.has hLc2 ?_
        refine T.cond rfl (fun c15 => ?_) (fun c15 => ?_)
        · refine T.set 15 (.bool true) (congrArg Value.bool c15) ?_
          have hZ15 := hTc2.trans c15
          try simp only [or_f, or_t, and_f, and_t, decide_eq_true_eq, decide_eq_false_iff_not, Bool.not_eq_true'] at hZ15
          refine T.seq ?_
          refine T.region ?_
          refine R.mvE rfl (by conv => lhs; whnf) ?_
          refine R.mvE rfl (by conv => lhs; whnf) ?_
          refine R.asE rfl (by conv => lhs; whnf) ?_
          refine R.asE rfl (by conv => lhs; whnf) ?_
          refine TL.nil (Post.thnN ?_)
          refine T.has Has.nil ?_
          refine T.ret (Post.blkR (Post.thnR ?_))
          have hM : windroseref01_Parts_m a0 = (r8.2, r8.1) := by subst er8; rw [windroseref01_Parts_m, LR.seq_go, if_neg c13, hTc2, LR.seq_go, if_t c15, LR.on_ret]
          exact fin2L (v := .int .i64 (r8.2)) (v' := .int .i64 (r8.1)) [] rfl rfl rfl (List.Sublist.refl _) ⟨rfl, by first | rw [hM] | rfl⟩
        · refine T.set 15 (.bool false) (congrArg Value.bool c15) ?_
          have hZ15 := hTc2.trans c15
          try simp only [or_f, or_t, and_f, and_t, decide_eq_true_eq, decide_eq_false_iff_not, Bool.not_eq_true'] at hZ15
          refine T.skip (Post.blkN ?_)
          refine id (Post.thnN ?_)
          exact ⟨(), s_c2, ⟨Has.nil, (by rw [if_neg c13, hTc2, LR.seq_go, if_f c15])⟩, rfl, rfl, trivial⟩
  · intro _ σ_c1 H_c1 L_c1 ds_c1 s_c1 hI_c1
    obtain ⟨hLc1, hTc1⟩ := hI_c1
    refine T.has hLc1 ?_
    refine T.seq ?_
    refine T.region ?_
    refine R.mvE rfl (by conv => lhs; whnf) ?_
    refine R.mvE rfl (by conv => lhs; whnf) ?_
    refine R.asE rfl (by conv => lhs; whnf) ?_
    refine R.asE rfl (by conv => lhs; whnf) ?_
    refine TL.nil (Post.thnN ?_)
    refine T.has Has.nil ?_
    refine T.ret ?_
    have hM : windroseref01_Parts_m a0 = (r8.1, r8.2) := by subst er8; rw [windroseref01_Parts_m, LR.seq_go, hTc1, LR.on_go]
    exact fin2L (v := .int .i64 (r8.1)) (v' := .int .i64 (r8.2)) [] rfl rfl rfl (List.Sublist.refl _) ⟨rfl, by first | rw [hM] | rfl⟩

end Go.SX

set_option linter.unusedVariables false
set_option linter.unusedSimpArgs false
namespace Go.SX
open Go
attribute [local semireducible] T TL
section
variable {fr : Fr} {x : Cx} {Q : Post} {σ : Env} {H : Heap} {L : Own} {ds : List Nat} {ol rest : List Oper} {d : Nat} {ty : TypeId} {p : String} {af : Array Edge} {g : Option (Nat × Bool)}
end
end Go.SX

set_option linter.unusedVariables false
set_option linter.unusedSimpArgs false
namespace Go.SX
open Go
attribute [local semireducible] T TL
theorem part_one {P : Program} {t o : Nat} {xs : Array Value} {u : Value} {w : World} (ha : ∀ w, (isAgg t).run P w = .ok false w) (hx : xs[o]? = some u) : (part t xs o).run P w = .ok u w := by
  simp [part, ha, hx]
theorem part_agg {P : Program} {t o n : Nat} {xs : Array Value} {l : List Value} {w : World} (ha : ∀ w, (isAgg t).run P w = .ok true w) (hs : ∀ w, (sizeOf t).run P w = .ok n w) (hl : xs.extract o (o + n) = l.toArray) : (part t xs o).run P w = .ok (.agg l.toArray) w := by
  simp [part, ha, hs, hl]
theorem eqF_nil {P : Program} {d : Nat} {xs ys : Array Value} {w : World} : (Op.eqFields d xs ys []).run P w = .ok true w := rfl
theorem eqF_cons {P : Program} {d : Nat} {xs ys : Array Value} {f : Field} {fs : List Field} {u v : Value} {r r' : Bool} {w : World} (hn : f.name ≠ "_") (hx : (part f.type xs f.offset).run P w = .ok u w) (hy : (part f.type ys f.offset).run P w = .ok v w)
    (he : (Op.equalIn d f.type u v).run P w = .ok r w) (hr : (Op.eqFields d xs ys fs).run P w = .ok r' w) : (Op.eqFields d xs ys (f :: fs)).run P w = .ok (r && r') w := by
  cases r <;> simp [Op.eqFields, hn, hx, hy, he, hr]
theorem eq_int {P : Program} {d t : Nat} {k : IntKind} {a b : Int} {w : World} (hu : P.underlying t = some (.int k)) : (Op.equalIn (d + 1) t (.int k a) (.int k b)).run P w = .ok (decide (a = b)) w := by
  have h := run_equalIn_int (P := P) w d t k k a b hu
  rw [h]
  congr 1
theorem eq_bool {P : Program} {d t : Nat} {a b : Bool} {w : World} (hu : P.underlying t = some .bool) : (Op.equalIn (d + 1) t (.bool a) (.bool b)).run P w = .ok (decide (a = b)) w := by
  rw [run_equalIn_bool hu]
  congr 1
theorem eq_struct {P : Program} {d t : Nat} {fs : Array Field} {xs ys : Array Value} {r : Bool} {w : World} (hu : P.underlying t = some (.struct fs)) (hs : P.stoodInHeld t = false) (h : (Op.eqFields d xs ys fs.toList).run P w = .ok r w) : (Op.equalIn (d + 1) t (.agg xs) (.agg ys)).run P w = .ok r w := by
  have hf : P.fieldsOf t = fs := by unfold Program.fieldsOf; rw [hu]
  rw [run_equalIn_struct w d t xs ys (by rw [hf]; exact hu) hs, hf]
  exact h
section
variable {fr : Fr} {x : Cx} {Q : Post} {σ : Env} {H : Heap} {L : Own} {ds : List Nat} {ol rest : List Oper} {d : Nat} {ty : TypeId} {p : String} {af : Array Edge} {g : Option (Nat × Bool)}
theorem R.eqG {α : Type} [DecidableEq α] {X Y : Operand} {t yt : TypeId} {a b : α} {xs ys : Array Value} (he : ∀ w, (Op.equalIn 10000 t (.agg xs) (.agg ys)).run fr.P w = .ok (decide (a = b)) w) (hm : fr.P.eqGuardType fr.P.depth t = false)
    (hw : wan fr.N ol σ d g = true) (hx : ev σ X = .agg xs) (hy : ev σ Y = .agg ys)
    (h : TL fr x ol rest Q (upd σ d (.bool (decide (a = b)))) H L ds) : TL fr x ol (⟨some d, .binOp .eql t X Y yt, ty, p, af, g⟩ :: rest) Q σ H L ds :=
  TL.pureE hw rfl (fun w => by simp [execOp, hx, hy, run_eqGuard_agg w .eql t X Y _ _ hm, run_eql_struct, he w, Result.andThen]) h
theorem R.neG {α : Type} [DecidableEq α] {X Y : Operand} {t yt : TypeId} {a b : α} {xs ys : Array Value} (he : ∀ w, (Op.equalIn 10000 t (.agg xs) (.agg ys)).run fr.P w = .ok (decide (a = b)) w) (hm : fr.P.eqGuardType fr.P.depth t = false)
    (hw : wan fr.N ol σ d g = true) (hx : ev σ X = .agg xs) (hy : ev σ Y = .agg ys)
    (h : TL fr x ol rest Q (upd σ d (.bool (decide (a ≠ b)))) H L ds) : TL fr x ol (⟨some d, .binOp .neq t X Y yt, ty, p, af, g⟩ :: rest) Q σ H L ds :=
  TL.pureE hw rfl (fun w => by simp [execOp, hx, hy, run_eqGuard_agg w .neq t X Y _ _ hm, run_neq_struct, he w, Result.andThen]) h

/-- A store of several cells into an element of a row of one's own. -/
theorem R.stEF {α : Type} {E : ER α} {te e : TypeId} {Ad V : Operand} {v u : Value} {m : List Value} {xs : List α} {y y' : α} {ch : Chunk} {R : Own} {j b o : Nat} (hsz : ∀ w, (sizeOf te).run fr.P w = .ok m.length w) (hw : wants ol σ g = true)
    (hown : OwnS E e H v xs ch) (hdel : Del L ch R) (hix : IxAt v E.size j b (j * E.size)) (ha : ev σ Ad = .pointer (some ⟨b, j * E.size + o, none⟩)) (hv : ev σ V = u) (hu : u.cells = m.toArray) (h1 : ∀ v ∈ m, v.oneCell' = true)
    (hj : xs[j]? = some y) (ho : o + m.length ≤ E.size) (hy : ∀ l, E.R H l y → E.R H (l.take o ++ m ++ l.drop (o + m.length)) y')
    (hk : ∀ c', OwnS E e H v (xs.set j y') c' → TL fr x ol rest Q σ H (c' :: R) ds) :
    TL fr x ol (⟨none, .store te Ad V, ty, p, af, g⟩ :: rest) Q σ H L ds := by
  intro a w hs hd hst
  have hst1 : St x H (ch ++ (R.flatten ++ hid fr.rd ds)) w := hst.perm (by rw [← List.append_assoc]; exact hdel.perm.append_right _)
  obtain ⟨o0, n0, c0, hv0, hjn, _⟩ := hix
  rcases hown with ⟨rfl, rfl, rfl⟩ | ⟨b', cap, cs, rfl, rfl, h3, h4, h5, h6⟩
  · cases hv0
  · cases hv0
    obtain ⟨l0, hl0, hl0c⟩ := h6 j y hj
    have hl0l := E.len hl0
    have hb := hst1.sat.l (b, .cells cs e) (List.mem_append_left _ (List.mem_singleton.2 rfl))
    simp only at hb
    have hfitE : j * E.size + E.size ≤ cs.size := by
      calc j * E.size + E.size = (j + 1) * E.size := by rw [Nat.add_mul, Nat.one_mul]
        _ ≤ c0 * E.size := Nat.mul_le_mul_right _ (by omega)
        _ ≤ cs.size := h5
    have hfit : j * E.size + o + m.length ≤ cs.size := by omega
    have hstore := run_storeCells_at fr.P b (j * E.size + o) e m 0 cs w hb (by omega) h1
    rw [Nat.add_zero] at hstore
    generalize hnew : cs.toList.take (j * E.size + o) ++ m ++ cs.toList.drop (j * E.size + o + m.length) = new at hstore
    have hst2 := hst1.turn (w' := w.setRow b new.toArray) (o' := .cells new.toArray e) rfl rfl rfl (by simp [World.setRow]) (by simp only [World.setRow]; rw [Array.getElem?_modify, if_pos rfl, hb]; rfl) (fun c hc => by
      simp only [World.setRow, Array.getElem?_modify]
      rw [if_neg (fun e => hc e.symm)])
    unfold wpLo
    rw [if_pos (wanted_of hs hw)]
    refine ⟨fun f _ => fenceFn _ f, ?_⟩
    rw [semAt_of rfl, hs.eval]
    have hrun : (execOp (ev σ) ⟨none, .store te Ad V, ty, p, af, g⟩).run fr.P w = .ok .skip (w.setRow b new.toArray) := by
      simp [execOp, Instr.storeAt, Instr.sureAddr, storeVar, ha, hv, hu, hsz, hstore]
    rw [hrun]
    have hcl : cs.toList.length = cs.size := Array.length_toList
    have htl : (cs.toList.take (j * E.size + o)).length = j * E.size + o := by rw [List.length_take, hcl]; omega
    have hszs : new.length = cs.size := by
      rw [← hnew, List.length_append, List.length_append, List.length_drop, htl, hcl]; omega
    -- what stands where
    have hget : ∀ q, new[q]? = if q < j * E.size + o then cs[q]? else if q < j * E.size + o + m.length then m[q - (j * E.size + o)]? else cs[q]? := by
      intro q
      rw [← hnew]
      by_cases hq : q < j * E.size + o
      · rw [if_pos hq, List.append_assoc, List.getElem?_append_left (by rw [htl]; exact hq), List.getElem?_take_of_lt hq]
        simp
      · rw [if_neg hq]
        by_cases hq2 : q < j * E.size + o + m.length
        · rw [if_pos hq2, List.getElem?_append_left (by rw [List.length_append, htl]; exact hq2), List.getElem?_append_right (by rw [htl]; omega), htl]
        · rw [if_neg hq2, List.getElem?_append_right (by rw [List.length_append, htl]; omega), List.length_append, htl, List.getElem?_drop, show j * E.size + o + m.length + (q - (j * E.size + o + m.length)) = q by omega]
          simp
    refine hk [(b, .cells new.toArray e)] (Or.inr ?_) _ _ hs hd (by simpa using hst2)
    refine ⟨b, c0, _, by rw [List.length_set], rfl, by rw [List.length_set]; exact h3, h4, by rw [List.size_toArray, hszs]; exact h5, fun k q hq => ?_⟩
    by_cases hkj : k = j
    · subst hkj
      rw [List.getElem?_set_self hjn] at hq
      injection hq with hq
      subst hq
      refine ⟨_, hy l0 hl0, fun r u hr => ?_⟩
      rw [List.getElem?_toArray, hget]
      have hlt0 : (l0.take o).length = o := by rw [List.length_take]; omega
      by_cases hro : r < o
      · rw [if_pos (by omega)]
        rw [List.append_assoc, List.getElem?_append_left (by rw [hlt0]; exact hro), List.getElem?_take_of_lt hro] at hr
        exact hl0c r u hr
      · rw [if_neg (by omega)]
        by_cases hro2 : r < o + m.length
        · rw [if_pos (by omega)]
          rw [List.getElem?_append_left (by rw [List.length_append, hlt0]; exact hro2), List.getElem?_append_right (by rw [hlt0]; omega), hlt0] at hr
          rw [show k * E.size + r - (k * E.size + o) = r - o by omega]; exact hr
        · rw [if_neg (by omega)]
          rw [List.getElem?_append_right (by rw [List.length_append, hlt0]; omega), List.length_append, hlt0, List.getElem?_drop, show o + m.length + (r - (o + m.length)) = r by omega] at hr
          exact hl0c r u hr
    · rw [List.getElem?_set_ne (fun e => hkj e.symm)] at hq
      obtain ⟨l2, h7, h8⟩ := h6 k q hq
      refine ⟨l2, h7, fun r u hr => ?_⟩
      have h9 := h8 r u hr
      have hrl : r < E.size := by rw [← E.len h7]; exact (List.getElem?_eq_some_iff.1 hr).1
      rw [List.getElem?_toArray, hget]
      rcases Nat.lt_or_ge k j with hlt | hge
      · have h10 : k * E.size + r < j * E.size := by
          calc k * E.size + r < k * E.size + E.size := by omega
            _ = (k + 1) * E.size := by rw [Nat.add_mul, Nat.one_mul]
            _ ≤ j * E.size := Nat.mul_le_mul_right _ (by omega)
        rw [if_pos (by omega)]; exact h9
      · have h10 : j * E.size + E.size ≤ k * E.size + r := by
          calc j * E.size + E.size = (j + 1) * E.size := by rw [Nat.add_mul, Nat.one_mul]
            _ ≤ k * E.size := Nat.mul_le_mul_right _ (by omega)
            _ ≤ k * E.size + r := by omega
        rw [if_neg (by omega), if_neg (by omega)]; exact h9
end
/-- What a result's variable yields. -/
inductive ResAt (P : Program) (σ : Env) (H : Heap) (L : Own) : ResultVar → Value → Prop
  | tmp {t : Nat} {v : Value} (h : σ t = v) : ResAt P σ H L (.tmp t) v
  | cell1 {t ty b o : Nat} {cs : Array Value} {et : TypeId} {v : Value} (hagg : ∀ w, (isAgg ty).run P w = .ok false w) (ha : σ t = .pointer (some ⟨b, o, none⟩)) (hin : In L [(b, .cells cs et)]) (hv : cs[o]? = some v) : ResAt P σ H L (.cell t ty) v
  | cellA {t ty b o n : Nat} {cs l : List Value} {et : TypeId} (hagg : ∀ w, (isAgg ty).run P w = .ok true w) (hsz : ∀ w, (sizeOf ty).run P w = .ok n w) (ha : σ t = .pointer (some ⟨b, o, none⟩)) (hin : In L [(b, .cells cs.toArray et)]) (hl : (cs.drop o).take n = l) (hn : l.length = n) : ResAt P σ H L (.cell t ty) (.agg l.toArray)
  | cell1H {t ty b o : Nat} {cs : Array Value} {et : TypeId} {v : Value} (hagg : ∀ w, (isAgg ty).run P w = .ok false w) (ha : σ t = .pointer (some ⟨b, o, none⟩)) (hin : H b = some (.cells cs et)) (hv : cs[o]? = some v) : ResAt P σ H L (.cell t ty) v
  | cellAH {t ty b o n : Nat} {cs l : List Value} {et : TypeId} (hagg : ∀ w, (isAgg ty).run P w = .ok true w) (hsz : ∀ w, (sizeOf ty).run P w = .ok n w) (ha : σ t = .pointer (some ⟨b, o, none⟩)) (hin : H b = some (.cells cs.toArray et)) (hl : (cs.drop o).take n = l) (hn : l.length = n) : ResAt P σ H L (.cell t ty) (.agg l.toArray)
theorem take_drop_get {cs l : List Value} {o n : Nat} (hl : (cs.drop o).take n = l) {j : Nat} {u : Value} (hj : l[j]? = some u) : cs[o + j]? = some u := by
  rw [← hl, List.getElem?_take] at hj
  split at hj
  · rw [List.getElem?_drop] at hj; exact hj
  · cases hj
def resOne (tmps : Array Value) : ResultVar → Sem Value
  | .tmp t => pure (tmps.getD t undef)
  | .cell a t => do loadVar t (← asAddr (tmps.getD a undef))
theorem results_eq {fn : Func} {tmps : Array Value} : results fn tmps = (do
  let vs ← fn.results.mapM (resOne tmps)
  pure (if h : vs.size = 1 then vs[0] else .tuple vs)) := by
  unfold results
  congr 1
theorem ResAt.run {P : Program} {N : Nat} {σ : Env} {H : Heap} {L : Own} {r : ResultVar} {v : Value} (h : ResAt P σ H L r v) {tmps : Array Value} {w : World} (hs : Sim N σ tmps) (hsat : Sat H L.flatten w) : (resOne tmps r).run P w = .ok v w := by
  cases h with
  | tmp h => simp [resOne, hs.val, h]
  | cell1 hagg ha hin hv =>
    have hb := hsat.l _ (hin.mem (List.mem_singleton.2 rfl))
    have hc := cell_of_heap hb hv
    simp [resOne, hs.val, ha, asAddr, loadVar, hagg, hc]
  | cellA hagg hsz ha hin hl hn =>
    have hb := hsat.l _ (hin.mem (List.mem_singleton.2 rfl))
    have hl2 := run_loadCells_list (P := P) w _ _ (fun j u hj => by rw [Addr.add_lit]; exact cell_of_heap hb (by simpa using take_drop_get hl hj))
    rw [hn] at hl2
    simp [resOne, hs.val, ha, asAddr, loadVar, hagg, hsz, hl2]
  | cell1H hagg ha hin hv =>
    have hc := cell_of_heap (hsat.h _ _ hin) hv
    simp [resOne, hs.val, ha, asAddr, loadVar, hagg, hc]
  | cellAH hagg hsz ha hin hl hn =>
    have hb := hsat.h _ _ hin
    have hl2 := run_loadCells_list (P := P) w _ _ (fun j u hj => by rw [Addr.add_lit]; exact cell_of_heap hb (by simpa using take_drop_get hl hj))
    rw [hn] at hl2
    simp [resOne, hs.val, ha, asAddr, loadVar, hagg, hsz, hl2]
section
variable {P : Program} {fn : Func} {N : Nat} {post : Value → Heap → Own → Prop} {σ : Env} {H : Heap} {L : Own} {ds : List Nat} {r r' r'' : ResultVar} {v v' v'' : Value}
theorem finR1 (L' : Own) (hr : fn.results = #[r]) (h1 : ResAt P σ H L r v) (hL : List.Sublist L' L) (h : post v H L') : fnPost P fn N post .ret σ H L ds :=
  ⟨v, L', hL, fun tmps w hs hsat => by
    rw [results_eq, hr]
    simp [h1.run hs hsat], h⟩
theorem finR2 (L' : Own) (hr : fn.results = #[r, r']) (h1 : ResAt P σ H L r v) (h2 : ResAt P σ H L r' v') (hL : List.Sublist L' L) (h : post (.tuple #[v, v']) H L') : fnPost P fn N post .ret σ H L ds :=
  ⟨_, L', hL, fun tmps w hs hsat => by
    rw [results_eq, hr]
    simp [h1.run hs hsat, h2.run hs hsat], h⟩
end
end Go.SX
namespace Go.SX
theorem getD_get {α : Type} {xs : List α} {k : Nat} {z : α} (h : k < xs.length) : xs[k]? = some (xs.getD k z) := by
  rw [List.getD_eq_getElem?_getD, List.getElem?_eq_getElem h]; rfl
end Go.SX
namespace Go.SX
open Go
end Go.SX

set_option linter.unusedVariables false
set_option linter.unusedSimpArgs false
namespace Go.SX
open Go
attribute [local semireducible] T TL
section
variable {fr : Fr} {x : Cx} {Q : Post} {σ : Env} {H : Heap} {L : Own} {ds : List Nat} {ol rest : List Oper}
variable {d : Nat} {ty : TypeId} {p : String} {af : Array Edge} {g : Option (Nat × Bool)}
/-- A call that reads all that is owned here, and leaves it owned. -/
theorem TL.callB {F : Operand} {ag : List Operand} {ats : Array TypeId} {fv : Value} {vs : List Value} {post : Value → Own → Prop} (hw : wan fr.N ol σ d g = true)
    (hf : ev σ F = fv) (ha : ag.map (ev σ) = vs) (hc : ∀ H', HLe H H' → (∀ q ∈ L.flatten, H' q.1 = some q.2) → Fc fr.P fv vs H' [] (fun v _ L' => post v L'))
    (h : ∀ v L', post v L' → TL fr x ol rest Q (upd σ d v) H (L' ++ L) ds) :
    TL fr x ol (⟨some d, .call { callee := .value F, args := ag.toArray, argTypes := ats }, ty, p, af, g⟩ :: rest) Q σ H L ds := by
  intro a w hs hd hst
  obtain ⟨hdN, hwn⟩ := wan_lt hw
  obtain ⟨H2, hle, hq, hst2⟩ := St.shut (L := [L.flatten]) (R := []) (c := L.flatten) (hd := hid fr.rd ds) (by simpa using hst) .hd
  have hsub : Sat H2 [] w := hst2.sat.sub (List.nil_sublist _)
  obtain ⟨nx, w1, hrun, hnx⟩ := hc H2 hle hq w hsub
  unfold wpLo
  rw [if_pos (wanted_of hs hwn)]
  refine ⟨fun f _ => fenceFn _ f, ?_⟩
  rw [semAt_of rfl, hs.eval]
  simp only [execOp]
  rw [resolve_value, hf, ha, hrun]
  have fin : ∀ (e : Ending) w', (∃ v H' L', e = .returned v ∧ St ⟨w, H2, List.flatten []⟩ H' (List.flatten L') w' ∧ post v L') →
      (match e with
        | .returned v => wpLo (fence fr.rd) fr.P ol.toArray (lift fr x Q) rest (a.put (some d) v) w'
        | .panicked chain => lift fr x Q (.panic chain) a w'
        | .outgrown => LetsOut (lift fr x Q)) := by
    rintro e w' ⟨v, H', L', rfl, h2, h3⟩
    have k2 : St ⟨w, H, []⟩ H (List.flatten L') w' := ⟨h2.sat.weak (hle.trans h2.le), h2.chg, HLe.refl _, (fun b o h4 h5 => by have h6 : H b = none := h5; rw [h6] at h4; cases h4), h2.ln⟩
    have hj : St x H (L'.flatten ++ (L.flatten ++ hid fr.rd ds)) w' := St.join (Lp := []) hst k2
    rw [← List.append_assoc, ← List.flatten_append] at hj
    exact h v L' h3 _ w' (hs.putA d v hdN) hd hj
  cases nx with
  | enter f ag' => exact ⟨(fun h => by cases h), CallsIn.mono (calls_fence hnx) (fun e w' q => by have := fin e w' q; cases e <;> exact this)⟩
  | round l fn tmps ag' body => exact ⟨(fun h => by cases h), RoundIn.mono (round_fence hnx) (fun e w' q => by have := fin e w' q; cases e <;> exact this)⟩
  | _ => exact hnx.elim
theorem R.callvB {F : Operand} {ag : List Operand} {ats : Array TypeId} {fv : Value} {vs : List Value} {v : Value} (hw : wan fr.N ol σ d g = true)
    (hf : ev σ F = fv) (ha : ag.map (ev σ) = vs) (hc : ∀ H', HLe H H' → (∀ q ∈ L.flatten, H' q.1 = some q.2) → Fv fr.P fv vs H' v) (h : TL fr x ol rest Q (upd σ d v) H L ds) :
    TL fr x ol (⟨some d, .call { callee := .value F, args := ag.toArray, argTypes := ats }, ty, p, af, g⟩ :: rest) Q σ H L ds :=
  TL.callB (post := fun v' L' => L' = [] ∧ v' = v) hw hf ha (fun H' h1 h2 => hc H' h1 h2) (fun v' L' ⟨h1, h2⟩ => by subst h1; subst h2; exact h)
/-- An element's relation that asks no heap. -/
def ER.Flat {α : Type} (E : ER α) : Prop := ∀ H H' l x, E.R H l x → E.R H' l x
/-- A chunk among those that are owned can be read where all of them can. -/
theorem In.all {c : Chunk} (h : In L c) {H' : Heap} (hq : ∀ q ∈ L.flatten, H' q.1 = some q.2) : ∀ q ∈ c, H' q.1 = some q.2 := fun q k => hq q (h.mem k)
end
end Go.SX
namespace Go.SX
theorem or_f {p : Prop} [Decidable p] {b : Bool} : ((if p then true else b) = false) ↔ (¬p ∧ b = false) := by by_cases h : p <;> simp [h]
theorem or_t {p : Prop} [Decidable p] {b : Bool} : ((if p then true else b) = true) ↔ (p ∨ b = true) := by by_cases h : p <;> simp [h]
theorem and_t {p : Prop} [Decidable p] {b : Bool} : ((if p then b else false) = true) ↔ (p ∧ b = true) := by by_cases h : p <;> simp [h]
theorem and_f {p : Prop} [Decidable p] {b : Bool} : ((if p then b else false) = false) ↔ (¬p ∨ b = false) := by by_cases h : p <;> simp [h]
end Go.SX

set_option linter.unusedVariables false
set_option linter.unusedSimpArgs false
namespace Go.SX
open Go Go.Proofs
def heldE : ER (Int × Int) where
  size := 2
  R := fun _ cs x => cs = [.int .i64 x.1, .int .u64 x.2]
  len := fun h => by subst h; rfl
  mono := fun _ h => h
  one := fun h v hv => by subst h; simp only [List.mem_cons, List.not_mem_nil, or_false] at hv; rcases hv with rfl | rfl <;> rfl

def relationE : ER (Int × (Bool × Bool × Int × Int × Int)) where
  size := 6
  R := fun _ cs x => cs = [.int .i64 x.1, .bool x.2.1, .bool x.2.2.1, .int .i64 x.2.2.2.1, .int .i64 x.2.2.2.2.1, .int .i64 x.2.2.2.2.2]
  len := fun h => by subst h; rfl
  mono := fun _ h => h
  one := fun h v hv => by subst h; simp only [List.mem_cons, List.not_mem_nil, or_false] at hv; rcases hv with rfl | rfl | rfl | rfl | rfl | rfl <;> rfl

theorem Tryz_ty22 : TyE Tryz.prog 22 55 relationE 40 := TyE.mk' (z := .agg #[.int .i64 0, .bool false, .bool false, .int .i64 0, .int .i64 0, .int .i64 0]) Tryz.underlying22 (by kernel_rfl) rfl (by decide)

theorem Tryz_ty23 : TyE Tryz.prog 23 50 heldE 16 := TyE.mk' (z := .agg #[.int .i64 0, .int .u64 0]) Tryz.underlying23 (by kernel_rfl) rfl (by decide)

set_option maxHeartbeats 1600000 in
theorem clone23_c (H : Heap) (v : Value) (xs : List (Int × Int)) (hr : RdS heldE H v xs) (hl : xs.length ≤ 4000000) : Fc Tryz.prog (fnv 20) [v] H [] (fun v' H' L' => ∃ c, L' = [c] ∧ OwnS heldE 50 H' v' xs c) := by
  refine Fc.of_body (N := 8) Tryz.func20 rfl (by kernel_rfl) rfl rfl ?_
  intro w0
  obtain ⟨A, c, rfl, hc1, hc2, hr⟩ := hr.shape
  refine T.seq ?_
  refine T.region ?_
  refine R.asE rfl (by conv => lhs; whnf) ?_
  refine TL.nil (Post.thnN ?_)
  refine T.seq ?_
  refine T.seq ?_
  refine T.region ?_
  refine R.mvE rfl (by conv => lhs; whnf) ?_
  refine R.nilS Tryz.underlying23 rfl rfl rfl ?_
  refine TL.nil (Post.thnN ?_)
  refine T.cond rfl (fun c4 => ?_) (fun c4 => ?_)
  · refine T.seq ?_
    refine T.nilc ?_
    refine T.region ?_
    refine R.asE rfl (by conv => lhs; whnf) ?_
    refine TL.nil (Post.thnN ?_)
    refine T.ret (Post.thnR ?_)
    -- way y
    exact fin1L [[]] rfl rfl (List.Sublist.refl _) ⟨_, rfl, .inl ⟨rfl, RdS.none_nil (by cases A with | none => exact hr | some _ => cases c4), rfl⟩⟩
  · refine T.skip (Post.thnN ?_)
    refine T.seq ?_
    refine T.region ?_
    refine R.bs0 (E := heldE) rfl Tryz.underlying23 Tryz.sizeOf50 ?_
    intro v5 c5 w5
    refine R.mvE rfl (by conv => lhs; whnf) ?_
    obtain ⟨cs7, y7, r7⟩ := Src.rd (L := [c5]) hr
    refine R.app Tryz_ty23 rfl rfl rfl w5 .hd r7 y7 (by simp; omega) (by simp; omega) ?_
    intro v7 c7 w7
    rw [List.nil_append] at w7
    refine R.asE rfl (by conv => lhs; whnf) ?_
    refine TL.nil (Post.thnN ?_)
    refine T.ret ?_
    -- way n
    exact fin1L [c7] rfl rfl (List.Sublist.refl _) ⟨_, rfl, w7⟩
set_option maxHeartbeats 1600000 in
theorem clone22_c (H : Heap) (v : Value) (xs : List (Int × (Bool × Bool × Int × Int × Int))) (hr : RdS relationE H v xs) (hl : xs.length ≤ 4000000) : Fc Tryz.prog (fnv 25) [v] H [] (fun v' H' L' => ∃ c, L' = [c] ∧ OwnS relationE 55 H' v' xs c) := by
  refine Fc.of_body (N := 8) Tryz.func25 rfl (by kernel_rfl) rfl rfl ?_
  intro w0
  obtain ⟨A, c, rfl, hc1, hc2, hr⟩ := hr.shape
  refine T.seq ?_
  refine T.region ?_
  refine R.asE rfl (by conv => lhs; whnf) ?_
  refine TL.nil (Post.thnN ?_)
  refine T.seq ?_
  refine T.seq ?_
  refine T.region ?_
  refine R.mvE rfl (by conv => lhs; whnf) ?_
  refine R.nilS Tryz.underlying22 rfl rfl rfl ?_
  refine TL.nil (Post.thnN ?_)
  refine T.cond rfl (fun c4 => ?_) (fun c4 => ?_)
  · refine T.seq ?_
    refine T.nilc ?_
    refine T.region ?_
    refine R.asE rfl (by conv => lhs; whnf) ?_
    refine TL.nil (Post.thnN ?_)
    refine T.ret (Post.thnR ?_)
    -- way y
    exact fin1L [[]] rfl rfl (List.Sublist.refl _) ⟨_, rfl, .inl ⟨rfl, RdS.none_nil (by cases A with | none => exact hr | some _ => cases c4), rfl⟩⟩
  · refine T.skip (Post.thnN ?_)
    refine T.seq ?_
    refine T.region ?_
    refine R.bs0 (E := relationE) rfl Tryz.underlying22 Tryz.sizeOf55 ?_
    intro v5 c5 w5
    refine R.mvE rfl (by conv => lhs; whnf) ?_
    obtain ⟨cs7, y7, r7⟩ := Src.rd (L := [c5]) hr
    refine R.app Tryz_ty22 rfl rfl rfl w5 .hd r7 y7 (by simp; omega) (by simp; omega) ?_
    intro v7 c7 w7
    rw [List.nil_append] at w7
    refine R.asE rfl (by conv => lhs; whnf) ?_
    refine TL.nil (Post.thnN ?_)
    refine T.ret ?_
    -- way n
    exact fin1L [c7] rfl rfl (List.Sublist.refl _) ⟨_, rfl, w7⟩
set_option maxHeartbeats 1600000 in
theorem clone30_c (H : Heap) (v : Value) (xs : List (Int)) (hr : RdS (intE .i64) H v xs) (hl : xs.length ≤ 4000000) : Fc Tryz.prog (fnv 34) [v] H [] (fun v' H' L' => ∃ c, L' = [c] ∧ OwnS (intE .i64) 3 H' v' xs c) := by
  refine Fc.of_body (N := 8) Tryz.func34 rfl (by kernel_rfl) rfl rfl ?_
  intro w0
  obtain ⟨A, c, rfl, hc1, hc2, hr⟩ := hr.shape
  refine T.seq ?_
  refine T.region ?_
  refine R.asE rfl (by conv => lhs; whnf) ?_
  refine TL.nil (Post.thnN ?_)
  refine T.seq ?_
  refine T.seq ?_
  refine T.region ?_
  refine R.mvE rfl (by conv => lhs; whnf) ?_
  refine R.nilS Tryz.underlying30 rfl rfl rfl ?_
  refine TL.nil (Post.thnN ?_)
  refine T.cond rfl (fun c4 => ?_) (fun c4 => ?_)
  · refine T.seq ?_
    refine T.nilc ?_
    refine T.region ?_
    refine R.asE rfl (by conv => lhs; whnf) ?_
    refine TL.nil (Post.thnN ?_)
    refine T.ret (Post.thnR ?_)
    -- way y
    exact fin1L [[]] rfl rfl (List.Sublist.refl _) ⟨_, rfl, .inl ⟨rfl, RdS.none_nil (by cases A with | none => exact hr | some _ => cases c4), rfl⟩⟩
  · refine T.skip (Post.thnN ?_)
    refine T.seq ?_
    refine T.region ?_
    refine R.bs0 (E := (intE .i64)) rfl Tryz.underlying30 Tryz.sizeOf3 ?_
    intro v5 c5 w5
    refine R.mvE rfl (by conv => lhs; whnf) ?_
    obtain ⟨cs7, y7, r7⟩ := Src.rd (L := [c5]) hr
    refine R.app Tryz_ty30 rfl rfl rfl w5 .hd r7 y7 (by simp; omega) (by simp; omega) ?_
    intro v7 c7 w7
    rw [List.nil_append] at w7
    refine R.asE rfl (by conv => lhs; whnf) ?_
    refine TL.nil (Post.thnN ?_)
    refine T.ret ?_
    -- way n
    exact fin1L [c7] rfl rfl (List.Sublist.refl _) ⟨_, rfl, w7⟩
def slices_Equal_int_l1 (a1 : List Int) : List Int → Nat → Unit → LR (Bool) (Unit)
  | [], kl1, sl1 => .go ()
  | yl1 :: ysl1, kl1, sl1 => if yl1 ≠ (a1.getD kl1 (0 : Int)) then (.ret false) else (slices_Equal_int_l1 a1 ysl1 (kl1 + 1) ())
def slices_Equal_int_m (a0 : List Int) (a1 : List Int) : Bool :=
  if (a0.length : Int) ≠ (a1.length : Int) then false else (LR.on (slices_Equal_int_l1 a1 a0 0 ()) (fun r => r) (fun ol1 => true))
set_option maxHeartbeats 3200000 in
theorem slices_Equal_int_c (H : Heap) (va0 : Value) (a0 : List Int) (ha0 : RdS (intE .i64) H va0 a0) (va1 : Value) (a1 : List Int) (ha1 : RdS (intE .i64) H va1 a1) : Fv Tryz.prog (fnv 17) [va0, va1] H (.bool (slices_Equal_int_m a0 a1)) := by
  refine Fc.of_body (N := 26) Tryz.func17 rfl (by kernel_rfl) rfl rfl ?_
  intro w0
  obtain ⟨Aa0, ca0, rfl, hca0, hda0, ha0⟩ := ha0.shape
  obtain ⟨Aa1, ca1, rfl, hca1, hda1, ha1⟩ := ha1.shape
  refine T.seq ?_
  refine T.region ?_
  refine R.asE rfl (by conv => lhs; whnf) ?_
  refine TL.nil (Post.thnN ?_)
  refine T.seq ?_
  refine T.seq ?_
  refine T.region ?_
  refine R.mvE rfl (by conv => lhs; whnf) ?_
  refine R.len Tryz.underlying30 rfl rfl ?_
  refine R.mvE rfl (by conv => lhs; whnf) ?_
  refine R.len Tryz.underlying30 rfl rfl ?_
  refine R.neq rfl rfl rfl ?_
  refine TL.nil (Post.thnN ?_)
  refine T.condD rfl (fun c10 => ?_) (fun c10 => ?_)
  · refine T.set 10 (.bool true) (congrArg Value.bool (decide_eq_true c10)) ?_
    refine T.seq ?_
    refine T.region ?_
    refine R.asE rfl (by conv => lhs; whnf) ?_
    refine TL.nil (Post.thnN ?_)
    refine T.has Has.nil ?_
    refine T.ret (Post.thnR ?_)
    have hM : slices_Equal_int_m a0 a1 = false := by rw [slices_Equal_int_m, if_pos c10]
    exact fin1L (v := .bool false) [] rfl rfl (List.Sublist.refl _) ⟨rfl, by first | rw [hM] | rfl⟩
  · refine T.set 10 (.bool false) (congrArg Value.bool (decide_eq_false c10)) ?_
    refine T.skip (Post.thnN ?_)
    refine T.seq ?_
    refine T.seq ?_
    refine T.region ?_
    refine R.mvE rfl (by conv => lhs; whnf) ?_
    refine R.len Tryz.underlying30 rfl rfl ?_
    refine R.mvE rfl (by conv => lhs; whnf) ?_
    refine TL.nil (Post.thnN ?_)
    refine T.block ?_
    refine T.loop (ι := Nat) (fun kl1 H' L' ds' => kl1 ≤ a0.length ∧ Has L' [] ∧ slices_Equal_int_l1 a1 (a0.drop kl1) kl1 () = slices_Equal_int_l1 a1 a0 0 ()) (fun kl1 => [(13, .int .i64 (kl1 : Int)), (0, .slice Aa0 a0.length ca0), (1, .slice Aa1 a1.length ca1), (12, .int .i64 (a0.length : Int))]) (fun kl1 => a0.length - kl1) 0 ?_ ?_ ?_
    · exact ⟨(by omega), Has.nil, (by rfl)⟩
    · exact ⟨rfl, rfl, rfl, rfl, trivial⟩
    · intro kl1 σ_l1 H_l1 L_l1 ds_l1 s_l1 hI_l1
      obtain ⟨hkl1, hI_l1⟩ := hI_l1
      obtain ⟨hLl1, hQl1⟩ := hI_l1
      refine T.has hLl1 ?_
      refine T.seq ?_
      refine T.region ?_
      refine R.lss rfl rfl rfl ?_
      refine TL.nil (Post.thnN ?_)
      refine T.seq ?_
      refine T.condD rfl (fun c14 => ?_) (fun c14 => ?_)
      · have hltl1 : kl1 < a0.length := by omega
        obtain ⟨yl1, hyl1⟩ := getk (xs := a0) (k := kl1) (by omega)
        refine T.skip (Post.thnN ?_)
        refine T.seq ?_
        refine T.block ?_
        refine T.seq ?_
        refine T.region ?_
        refine R.mvE rfl (by conv => lhs; whnf) ?_
        refine R.asE rfl (by conv => lhs; whnf) ?_
        refine TL.nil (Post.thnN ?_)
        refine T.seq ?_
        refine T.draw Tryz_mixed (by kernel_rfl) ?_
        refine Plan.v 0 [1, 2, 3, 4, 5, 6, 7, 8] (by kernel_rfl) (by kernel_rfl) (by kernel_rfl) (by kernel_rfl) rfl (fun _ _ h_ => R.mvE rfl (by conv => lhs; whnf) (TL.nil h_)) ?_
        refine Plan.v 1 [2, 3, 4, 5, 6, 7, 8] (by kernel_rfl) (by kernel_rfl) (by kernel_rfl) (by kernel_rfl) rfl (fun _ _ h_ => R.mvE rfl (by conv => lhs; whnf) (TL.nil h_)) ?_
        obtain ⟨b18, o18, i18, k18⟩ := RdS.elem (ha0.mono s_l1) hyl1
        obtain ⟨l18, g18, k18⟩ := k18
        obtain rfl : l18 = [.int .i64 yl1] := g18
        refine Plan.v 2 [3, 4, 5, 6, 7, 8] (by kernel_rfl) (by kernel_rfl) (by kernel_rfl) (by kernel_rfl) rfl (fun _ _ h_ => R.ixp Tryz.underlying30 Tryz.sizeOf3 rfl rfl rfl (by omega) i18 (TL.nil h_)) ?_
        refine Plan.v 3 [4, 5, 6, 7, 8] (by kernel_rfl) (by kernel_rfl) (by kernel_rfl) (by kernel_rfl) rfl (fun _ _ h_ => R.ldC Tryz.isAgg3 rfl rfl (k18 0 _ rfl) (TL.nil h_)) ?_
        refine Plan.v 4 [5, 6, 7, 8] (by kernel_rfl) (by kernel_rfl) (by kernel_rfl) (by kernel_rfl) rfl (fun _ _ h_ => R.mvE rfl (by conv => lhs; whnf) (TL.nil h_)) ?_
        refine Plan.v 5 [6, 7, 8] (by kernel_rfl) (by kernel_rfl) (by kernel_rfl) (by kernel_rfl) rfl (fun _ _ h_ => R.mvE rfl (by conv => lhs; whnf) (TL.nil h_)) ?_
        have hl22 : kl1 < a1.length := by first | omega | (simp; done) | (simp; omega) | (simp at *; omega)
        obtain ⟨y22, e22, h22⟩ : ∃ y, y = (a1.getD kl1 (0 : Int)) ∧ a1[kl1]? = some y := ⟨_, rfl, getD_get (by first | exact hl22 | simpa using hl22 | (rw [(sortI_perm _).length_eq]; exact hl22))⟩
        obtain ⟨b22, o22, i22, k22⟩ := RdS.elem (ha1.mono s_l1) h22
        obtain ⟨l22, g22, k22⟩ := k22
        obtain rfl : l22 = [.int .i64 y22] := g22
        refine Plan.v 6 [7, 8] (by kernel_rfl) (by kernel_rfl) (by kernel_rfl) (by kernel_rfl) rfl (fun _ _ h_ => R.ixp Tryz.underlying30 Tryz.sizeOf3 rfl rfl rfl (by first | omega | (simp; done) | (simp; omega) | (simp at *; omega)) i22 (TL.nil h_)) ?_
        refine Plan.v 7 [8] (by kernel_rfl) (by kernel_rfl) (by kernel_rfl) (by kernel_rfl) rfl (fun _ _ h_ => R.ldC Tryz.isAgg3 rfl rfl (k22 0 _ rfl) (TL.nil h_)) ?_
        refine Plan.v 8 [] (by kernel_rfl) (by kernel_rfl) (by kernel_rfl) (by kernel_rfl) rfl (fun _ _ h_ => R.neq rfl rfl rfl (TL.nil h_)) ?_
        refine Plan.done (Post.thnN ?_)
        refine T.condD rfl (fun c24 => ?_) (fun c24 => ?_)
        · refine T.set 24 (.bool true) (congrArg Value.bool (decide_eq_true c24)) ?_
          refine T.seq ?_
          refine T.region ?_
          refine R.asE rfl (by conv => lhs; whnf) ?_
          refine TL.nil (Post.thnN ?_)
          refine T.has Has.nil ?_
          refine T.ret (Post.blkR (Post.thnR (Post.thnR (Post.blkR (Post.thnR ?_)))))
          have hXl1 : slices_Equal_int_l1 a1 a0 0 () = .ret false := by subst e22; rw [← hQl1, drop_cons hyl1, slices_Equal_int_l1]; rw [if_pos c24]
          have hM : slices_Equal_int_m a0 a1 = false := by rw [slices_Equal_int_m, if_neg c10, hXl1, LR.on_ret]
          exact fin1L (v := .bool false) [] rfl rfl (List.Sublist.refl _) ⟨rfl, by first | rw [hM] | rfl⟩
        · refine T.set 24 (.bool false) (congrArg Value.bool (decide_eq_false c24)) ?_
          refine T.skip (Post.blkN ?_)
          refine id (Post.thnN ?_)
          refine T.region ?_
          refine R.addI rfl rfl rfl (by omega) ?_
          refine R.mvE rfl (by conv => lhs; whnf) ?_
          refine TL.nil (Post.thnN ?_)
          exact ⟨kl1 + 1, s_l1, ⟨(by omega), Has.nil, (by subst e22; rw [← hQl1, drop_cons hyl1, slices_Equal_int_l1]; rw [if_neg c24])⟩, by show a0.length - (kl1 + 1) < a0.length - kl1; omega, rfl, rfl, rfl, rfl, trivial⟩
      · refine T.exit (Post.thnE (Post.thnE (Post.blkX ?_)))
        have hEl1 : slices_Equal_int_l1 a1 a0 0 () = .go () := (hQl1.symm.trans (by rw [show kl1 = a0.length by omega, List.drop_length, slices_Equal_int_l1]))
        refine id (Post.thnN ?_)
        refine T.seq ?_
        refine T.region ?_
        refine R.asE rfl (by conv => lhs; whnf) ?_
        refine TL.nil (Post.thnN ?_)
        refine T.has Has.nil ?_
        refine T.ret ?_
        have hM : slices_Equal_int_m a0 a1 = true := by rw [slices_Equal_int_m, if_neg c10, hEl1, LR.on_go]
        exact fin1L (v := .bool true) [] rfl rfl (List.Sublist.refl _) ⟨rfl, by first | rw [hM] | rfl⟩

theorem slices_Equal_int_go (b : List (Int)) : ∀ (a : List (Int)) (k : Nat), k + a.length = b.length → slices_Equal_int_l1 b a k () = if a = b.drop k then .go () else .ret false
  | [], k, h => by
    have : b.drop k = [] := List.drop_eq_nil_iff.2 (by simp at h; omega)
    rw [slices_Equal_int_l1, this, if_pos rfl]
  | y :: ys, k, h => by
    have hk : k < b.length := by simp at h; omega
    rw [slices_Equal_int_l1, List.drop_eq_getElem_cons hk]
    have hg : b.getD k (0 : Int) = b[k] := by rw [List.getD_eq_getElem?_getD, List.getElem?_eq_getElem hk]; rfl
    rw [hg]
    by_cases e : y = b[k]
    · rw [if_neg (fun h => h e), slices_Equal_int_go b ys (k + 1) (by simp at h; omega)]
      subst e
      by_cases e2 : ys = b.drop (k + 1)
      · rw [if_pos e2, if_pos (by rw [← e2])]
      · rw [if_neg e2, if_neg (fun h => e2 (List.cons.inj h).2)]
    · rw [if_pos e, if_neg (fun h => e (List.cons.inj h).1)]
theorem slices_Equal_int_eq (a b : List (Int)) : slices_Equal_int_m a b = decide (a = b) := by
  unfold slices_Equal_int_m
  by_cases h : a.length = b.length
  · rw [if_neg (by omega), slices_Equal_int_go b a 0 (by omega), List.drop_zero]
    by_cases e : a = b
    · rw [if_pos e, LR.on_go, decide_eq_true e]
    · rw [if_neg e, LR.on_ret, decide_eq_false e]
  · rw [if_pos (by omega), decide_eq_false (fun e => h (by rw [e]))]
theorem slices_Equal_int_d (H : Heap) (v : Value) (a : List (Int)) (h : RdS (intE .i64) H v a) (u : Value) (b : List (Int)) (k : RdS (intE .i64) H u b) : Fv Tryz.prog (fnv 17) [v, u] H (.bool (decide (a = b))) := Fv.to (slices_Equal_int_c H v a h u b k) (congrArg Value.bool (slices_Equal_int_eq a b))
theorem eqT53 (d : Nat) (a b : Bool × Bool × Int × Int × Int) (w : World) : (Op.equalIn (d + 2) 53 (.agg #[.bool a.1, .bool a.2.1, .int .i64 a.2.2.1, .int .i64 a.2.2.2.1, .int .i64 a.2.2.2.2]) (.agg #[.bool b.1, .bool b.2.1, .int .i64 b.2.2.1, .int .i64 b.2.2.2.1, .int .i64 b.2.2.2.2])).run Tryz.prog w = .ok (decide (a = b)) w := by
  have h : decide (a = b) = (decide (a.1 = b.1) && (decide (a.2.1 = b.2.1) && (decide (a.2.2.1 = b.2.2.1) && (decide (a.2.2.2.1 = b.2.2.2.1) && (decide (a.2.2.2.2 = b.2.2.2.2) && true))))) := by
    rw [Bool.eq_iff_iff]; simp [Prod.ext_iff]
  rw [h]
  exact eq_struct (d := d + 1) Tryz.underlying53 (by kernel_rfl) (eqF_cons (by decide) (part_one Tryz.isAgg4 rfl) (part_one Tryz.isAgg4 rfl) (eq_bool Tryz.underlying4) (eqF_cons (by decide) (part_one Tryz.isAgg4 rfl) (part_one Tryz.isAgg4 rfl) (eq_bool Tryz.underlying4) (eqF_cons (by decide) (part_one Tryz.isAgg3 rfl) (part_one Tryz.isAgg3 rfl) (eq_int Tryz.underlying3) (eqF_cons (by decide) (part_one Tryz.isAgg3 rfl) (part_one Tryz.isAgg3 rfl) (eq_int Tryz.underlying3) (eqF_cons (by decide) (part_one Tryz.isAgg3 rfl) (part_one Tryz.isAgg3 rfl) (eq_int Tryz.underlying3) eqF_nil)))))
theorem eqT55 (d : Nat) (a b : Int × (Bool × Bool × Int × Int × Int)) (w : World) : (Op.equalIn (d + 3) 55 (.agg #[.int .i64 a.1, .bool a.2.1, .bool a.2.2.1, .int .i64 a.2.2.2.1, .int .i64 a.2.2.2.2.1, .int .i64 a.2.2.2.2.2]) (.agg #[.int .i64 b.1, .bool b.2.1, .bool b.2.2.1, .int .i64 b.2.2.2.1, .int .i64 b.2.2.2.2.1, .int .i64 b.2.2.2.2.2])).run Tryz.prog w = .ok (decide (a = b)) w := by
  have h : decide (a = b) = (decide (a.1 = b.1) && (decide (a.2 = b.2) && true)) := by
    rw [Bool.eq_iff_iff]; simp [Prod.ext_iff]
  rw [h]
  exact eq_struct (d := d + 2) Tryz.underlying55 (by kernel_rfl) (eqF_cons (by decide) (part_one Tryz.isAgg3 rfl) (part_one Tryz.isAgg3 rfl) (eq_int Tryz.underlying3) (eqF_cons (by decide) (part_agg (l := [.bool a.2.1, .bool a.2.2.1, .int .i64 a.2.2.2.1, .int .i64 a.2.2.2.2.1, .int .i64 a.2.2.2.2.2]) Tryz.isAgg53 Tryz.sizeOf53 rfl) (part_agg (l := [.bool b.2.1, .bool b.2.2.1, .int .i64 b.2.2.2.1, .int .i64 b.2.2.2.2.1, .int .i64 b.2.2.2.2.2]) Tryz.isAgg53 Tryz.sizeOf53 rfl) (eqT53 _ a.2 b.2 w) eqF_nil))
theorem eqG55 : Tryz.prog.eqGuardType Tryz.prog.depth 55 = false := by kernel_rfl
def slices_Equal_Relation_l1 (a1 : List (Int × (Bool × Bool × Int × Int × Int))) : List (Int × (Bool × Bool × Int × Int × Int)) → Nat → Unit → LR (Bool) (Unit)
  | [], kl1, sl1 => .go ()
  | yl1 :: ysl1, kl1, sl1 => if (yl1 : Int × (Bool × Bool × Int × Int × Int)) ≠ (a1.getD kl1 (((0, (false, false, 0, 0, 0)) : Int × (Bool × Bool × Int × Int × Int)) : Int × (Bool × Bool × Int × Int × Int))) then (.ret false) else (slices_Equal_Relation_l1 a1 ysl1 (kl1 + 1) ())
def slices_Equal_Relation_m (a0 : List (Int × (Bool × Bool × Int × Int × Int))) (a1 : List (Int × (Bool × Bool × Int × Int × Int))) : Bool :=
  if (a0.length : Int) ≠ (a1.length : Int) then false else (LR.on (slices_Equal_Relation_l1 a1 a0 0 ()) (fun r => r) (fun ol1 => true))
set_option maxHeartbeats 3200000 in
theorem slices_Equal_Relation_c (H : Heap) (va0 : Value) (a0 : List (Int × (Bool × Bool × Int × Int × Int))) (ha0 : RdS relationE H va0 a0) (va1 : Value) (a1 : List (Int × (Bool × Bool × Int × Int × Int))) (ha1 : RdS relationE H va1 a1) : Fv Tryz.prog (fnv 21) [va0, va1] H (.bool (slices_Equal_Relation_m a0 a1)) := by
  refine Fc.of_body (N := 26) Tryz.func21 rfl (by kernel_rfl) rfl rfl ?_
  intro w0
  obtain ⟨Aa0, ca0, rfl, hca0, hda0, ha0⟩ := ha0.shape
  obtain ⟨Aa1, ca1, rfl, hca1, hda1, ha1⟩ := ha1.shape
  refine T.seq ?_
  refine T.region ?_
  refine R.asE rfl (by conv => lhs; whnf) ?_
  refine TL.nil (Post.thnN ?_)
  refine T.seq ?_
  refine T.seq ?_
  refine T.region ?_
  refine R.mvE rfl (by conv => lhs; whnf) ?_
  refine R.len Tryz.underlying22 rfl rfl ?_
  refine R.mvE rfl (by conv => lhs; whnf) ?_
  refine R.len Tryz.underlying22 rfl rfl ?_
  refine R.neq rfl rfl rfl ?_
  refine TL.nil (Post.thnN ?_)
  refine T.condD rfl (fun c10 => ?_) (fun c10 => ?_)
  · refine T.set 10 (.bool true) (congrArg Value.bool (decide_eq_true c10)) ?_
    refine T.seq ?_
    refine T.region ?_
    refine R.asE rfl (by conv => lhs; whnf) ?_
    refine TL.nil (Post.thnN ?_)
    refine T.has Has.nil ?_
    refine T.ret (Post.thnR ?_)
    have hM : slices_Equal_Relation_m a0 a1 = false := by rw [slices_Equal_Relation_m, if_pos c10]
    exact fin1L (v := .bool false) [] rfl rfl (List.Sublist.refl _) ⟨rfl, by first | rw [hM] | rfl⟩
  · refine T.set 10 (.bool false) (congrArg Value.bool (decide_eq_false c10)) ?_
    refine T.skip (Post.thnN ?_)
    refine T.seq ?_
    refine T.seq ?_
    refine T.region ?_
    refine R.mvE rfl (by conv => lhs; whnf) ?_
    refine R.len Tryz.underlying22 rfl rfl ?_
    refine R.mvE rfl (by conv => lhs; whnf) ?_
    refine TL.nil (Post.thnN ?_)
    refine T.block ?_
    refine T.loop (ι := Nat) (fun kl1 H' L' ds' => kl1 ≤ a0.length ∧ Has L' [] ∧ slices_Equal_Relation_l1 a1 (a0.drop kl1) kl1 () = slices_Equal_Relation_l1 a1 a0 0 ()) (fun kl1 => [(13, .int .i64 (kl1 : Int)), (0, .slice Aa0 a0.length ca0), (1, .slice Aa1 a1.length ca1), (12, .int .i64 (a0.length : Int))]) (fun kl1 => a0.length - kl1) 0 ?_ ?_ ?_
    · exact ⟨(by omega), Has.nil, (by rfl)⟩
    · exact ⟨rfl, rfl, rfl, rfl, trivial⟩
    · intro kl1 σ_l1 H_l1 L_l1 ds_l1 s_l1 hI_l1
      obtain ⟨hkl1, hI_l1⟩ := hI_l1
      obtain ⟨hLl1, hQl1⟩ := hI_l1
      refine T.has hLl1 ?_
      refine T.seq ?_
      refine T.region ?_
      refine R.lss rfl rfl rfl ?_
      refine TL.nil (Post.thnN ?_)
      refine T.seq ?_
      refine T.condD rfl (fun c14 => ?_) (fun c14 => ?_)
      · have hltl1 : kl1 < a0.length := by omega
        obtain ⟨yl1, hyl1⟩ := getk (xs := a0) (k := kl1) (by omega)
        refine T.skip (Post.thnN ?_)
        refine T.seq ?_
        refine T.block ?_
        refine T.seq ?_
        refine T.region ?_
        refine R.mvE rfl (by conv => lhs; whnf) ?_
        refine R.asE rfl (by conv => lhs; whnf) ?_
        refine TL.nil (Post.thnN ?_)
        refine T.seq ?_
        refine T.draw Tryz_mixed (by kernel_rfl) ?_
        refine Plan.v 0 [1, 2, 3, 4, 5, 6, 7, 8] (by kernel_rfl) (by kernel_rfl) (by kernel_rfl) (by kernel_rfl) rfl (fun _ _ h_ => R.mvE rfl (by conv => lhs; whnf) (TL.nil h_)) ?_
        refine Plan.v 1 [2, 3, 4, 5, 6, 7, 8] (by kernel_rfl) (by kernel_rfl) (by kernel_rfl) (by kernel_rfl) rfl (fun _ _ h_ => R.mvE rfl (by conv => lhs; whnf) (TL.nil h_)) ?_
        obtain ⟨b18, o18, i18, k18⟩ := RdS.elem (ha0.mono s_l1) hyl1
        obtain ⟨l18, g18, k18⟩ := k18
        obtain rfl : l18 = [.int .i64 (yl1.1), .bool (yl1.2.1), .bool (yl1.2.2.1), .int .i64 (yl1.2.2.2.1), .int .i64 (yl1.2.2.2.2.1), .int .i64 (yl1.2.2.2.2.2)] := g18
        refine Plan.v 2 [3, 4, 5, 6, 7, 8] (by kernel_rfl) (by kernel_rfl) (by kernel_rfl) (by kernel_rfl) rfl (fun _ _ h_ => R.ixp Tryz.underlying22 Tryz.sizeOf55 rfl rfl rfl (by omega) i18 (TL.nil h_)) ?_
        refine Plan.v 3 [4, 5, 6, 7, 8] (by kernel_rfl) (by kernel_rfl) (by kernel_rfl) (by kernel_rfl) rfl (fun _ _ h_ => R.ldK (l := [.int .i64 (yl1.1), .bool (yl1.2.1), .bool (yl1.2.2.1), .int .i64 (yl1.2.2.2.1), .int .i64 (yl1.2.2.2.2.1), .int .i64 (yl1.2.2.2.2.2)]) Tryz.isAgg55 Tryz.sizeOf55 rfl rfl k18 rfl (TL.nil h_)) ?_
        refine Plan.v 4 [5, 6, 7, 8] (by kernel_rfl) (by kernel_rfl) (by kernel_rfl) (by kernel_rfl) rfl (fun _ _ h_ => R.mvE rfl (by conv => lhs; whnf) (TL.nil h_)) ?_
        refine Plan.v 5 [6, 7, 8] (by kernel_rfl) (by kernel_rfl) (by kernel_rfl) (by kernel_rfl) rfl (fun _ _ h_ => R.mvE rfl (by conv => lhs; whnf) (TL.nil h_)) ?_
        have hl22 : kl1 < a1.length := by first | omega | (simp; done) | (simp; omega) | (simp at *; omega)
        obtain ⟨y22, e22, h22⟩ : ∃ y, y = (a1.getD kl1 (((0, (false, false, 0, 0, 0)) : Int × (Bool × Bool × Int × Int × Int)) : Int × (Bool × Bool × Int × Int × Int))) ∧ a1[kl1]? = some y := ⟨_, rfl, getD_get (by first | exact hl22 | simpa using hl22 | (rw [(sortI_perm _).length_eq]; exact hl22))⟩
        obtain ⟨b22, o22, i22, k22⟩ := RdS.elem (ha1.mono s_l1) h22
        obtain ⟨l22, g22, k22⟩ := k22
        obtain rfl : l22 = [.int .i64 (y22.1), .bool (y22.2.1), .bool (y22.2.2.1), .int .i64 (y22.2.2.2.1), .int .i64 (y22.2.2.2.2.1), .int .i64 (y22.2.2.2.2.2)] := g22
        refine Plan.v 6 [7, 8] (by kernel_rfl) (by kernel_rfl) (by kernel_rfl) (by kernel_rfl) rfl (fun _ _ h_ => R.ixp Tryz.underlying22 Tryz.sizeOf55 rfl rfl rfl (by first | omega | (simp; done) | (simp; omega) | (simp at *; omega)) i22 (TL.nil h_)) ?_
        refine Plan.v 7 [8] (by kernel_rfl) (by kernel_rfl) (by kernel_rfl) (by kernel_rfl) rfl (fun _ _ h_ => R.ldK (l := [.int .i64 (y22.1), .bool (y22.2.1), .bool (y22.2.2.1), .int .i64 (y22.2.2.2.1), .int .i64 (y22.2.2.2.2.1), .int .i64 (y22.2.2.2.2.2)]) Tryz.isAgg55 Tryz.sizeOf55 rfl rfl k22 rfl (TL.nil h_)) ?_
        refine Plan.v 8 [] (by kernel_rfl) (by kernel_rfl) (by kernel_rfl) (by kernel_rfl) rfl (fun _ _ h_ => R.neG (a := (yl1 : Int × (Bool × Bool × Int × Int × Int))) (b := (y22 : Int × (Bool × Bool × Int × Int × Int))) (eqT55 9997 yl1 y22) eqG55 rfl rfl rfl (TL.nil h_)) ?_
        refine Plan.done (Post.thnN ?_)
        refine T.condD rfl (fun c24 => ?_) (fun c24 => ?_)
        · refine T.set 24 (.bool true) (congrArg Value.bool (decide_eq_true c24)) ?_
          refine T.seq ?_
          refine T.region ?_
          refine R.asE rfl (by conv => lhs; whnf) ?_
          refine TL.nil (Post.thnN ?_)
          refine T.has Has.nil ?_
          refine T.ret (Post.blkR (Post.thnR (Post.thnR (Post.blkR (Post.thnR ?_)))))
          have hXl1 : slices_Equal_Relation_l1 a1 a0 0 () = .ret false := by subst e22; rw [← hQl1, drop_cons hyl1, slices_Equal_Relation_l1]; rw [if_pos c24]
          have hM : slices_Equal_Relation_m a0 a1 = false := by rw [slices_Equal_Relation_m, if_neg c10, hXl1, LR.on_ret]
          exact fin1L (v := .bool false) [] rfl rfl (List.Sublist.refl _) ⟨rfl, by first | rw [hM] | rfl⟩
        · refine T.set 24 (.bool false) (congrArg Value.bool (decide_eq_false c24)) ?_
          refine T.skip (Post.blkN ?_)
          refine id (Post.thnN ?_)
          refine T.region ?_
          refine R.addI rfl rfl rfl (by omega) ?_
          refine R.mvE rfl (by conv => lhs; whnf) ?_
          refine TL.nil (Post.thnN ?_)
          exact ⟨kl1 + 1, s_l1, ⟨(by omega), Has.nil, (by subst e22; rw [← hQl1, drop_cons hyl1, slices_Equal_Relation_l1]; rw [if_neg c24])⟩, by show a0.length - (kl1 + 1) < a0.length - kl1; omega, rfl, rfl, rfl, rfl, trivial⟩
      · refine T.exit (Post.thnE (Post.thnE (Post.blkX ?_)))
        have hEl1 : slices_Equal_Relation_l1 a1 a0 0 () = .go () := (hQl1.symm.trans (by rw [show kl1 = a0.length by omega, List.drop_length, slices_Equal_Relation_l1]))
        refine id (Post.thnN ?_)
        refine T.seq ?_
        refine T.region ?_
        refine R.asE rfl (by conv => lhs; whnf) ?_
        refine TL.nil (Post.thnN ?_)
        refine T.has Has.nil ?_
        refine T.ret ?_
        have hM : slices_Equal_Relation_m a0 a1 = true := by rw [slices_Equal_Relation_m, if_neg c10, hEl1, LR.on_go]
        exact fin1L (v := .bool true) [] rfl rfl (List.Sublist.refl _) ⟨rfl, by first | rw [hM] | rfl⟩

theorem slices_Equal_Relation_go (b : List (Int × (Bool × Bool × Int × Int × Int))) : ∀ (a : List (Int × (Bool × Bool × Int × Int × Int))) (k : Nat), k + a.length = b.length → slices_Equal_Relation_l1 b a k () = if a = b.drop k then .go () else .ret false
  | [], k, h => by
    have : b.drop k = [] := List.drop_eq_nil_iff.2 (by simp at h; omega)
    rw [slices_Equal_Relation_l1, this, if_pos rfl]
  | y :: ys, k, h => by
    have hk : k < b.length := by simp at h; omega
    rw [slices_Equal_Relation_l1, List.drop_eq_getElem_cons hk]
    have hg : b.getD k ((0, (false, false, 0, 0, 0)) : Int × (Bool × Bool × Int × Int × Int)) = b[k] := by rw [List.getD_eq_getElem?_getD, List.getElem?_eq_getElem hk]; rfl
    rw [hg]
    by_cases e : y = b[k]
    · rw [if_neg (fun h => h e), slices_Equal_Relation_go b ys (k + 1) (by simp at h; omega)]
      subst e
      by_cases e2 : ys = b.drop (k + 1)
      · rw [if_pos e2, if_pos (by rw [← e2])]
      · rw [if_neg e2, if_neg (fun h => e2 (List.cons.inj h).2)]
    · rw [if_pos e, if_neg (fun h => e (List.cons.inj h).1)]
theorem slices_Equal_Relation_eq (a b : List (Int × (Bool × Bool × Int × Int × Int))) : slices_Equal_Relation_m a b = decide (a = b) := by
  unfold slices_Equal_Relation_m
  by_cases h : a.length = b.length
  · rw [if_neg (by omega), slices_Equal_Relation_go b a 0 (by omega), List.drop_zero]
    by_cases e : a = b
    · rw [if_pos e, LR.on_go, decide_eq_true e]
    · rw [if_neg e, LR.on_ret, decide_eq_false e]
  · rw [if_pos (by omega), decide_eq_false (fun e => h (by rw [e]))]
theorem slices_Equal_Relation_d (H : Heap) (v : Value) (a : List (Int × (Bool × Bool × Int × Int × Int))) (h : RdS relationE H v a) (u : Value) (b : List (Int × (Bool × Bool × Int × Int × Int))) (k : RdS relationE H u b) : Fv Tryz.prog (fnv 21) [v, u] H (.bool (decide (a = b))) := Fv.to (slices_Equal_Relation_c H v a h u b k) (congrArg Value.bool (slices_Equal_Relation_eq a b))
theorem eqT50 (d : Nat) (a b : Int × Int) (w : World) : (Op.equalIn (d + 2) 50 (.agg #[.int .i64 a.1, .int .u64 a.2]) (.agg #[.int .i64 b.1, .int .u64 b.2])).run Tryz.prog w = .ok (decide (a = b)) w := by
  have h : decide (a = b) = (decide (a.1 = b.1) && (decide (a.2 = b.2) && true)) := by
    rw [Bool.eq_iff_iff]; simp [Prod.ext_iff]
  rw [h]
  exact eq_struct (d := d + 1) Tryz.underlying50 (by kernel_rfl) (eqF_cons (by decide) (part_one Tryz.isAgg3 rfl) (part_one Tryz.isAgg3 rfl) (eq_int Tryz.underlying3) (eqF_cons (by decide) (part_one Tryz.isAgg48 rfl) (part_one Tryz.isAgg48 rfl) (eq_int Tryz.underlying48) eqF_nil))
theorem eqG50 : Tryz.prog.eqGuardType Tryz.prog.depth 50 = false := by kernel_rfl
def slices_Equal_Held_l1 (a1 : List (Int × Int)) : List (Int × Int) → Nat → Unit → LR (Bool) (Unit)
  | [], kl1, sl1 => .go ()
  | yl1 :: ysl1, kl1, sl1 => if (yl1 : Int × Int) ≠ (a1.getD kl1 (((0, 0) : Int × Int) : Int × Int)) then (.ret false) else (slices_Equal_Held_l1 a1 ysl1 (kl1 + 1) ())
def slices_Equal_Held_m (a0 : List (Int × Int)) (a1 : List (Int × Int)) : Bool :=
  if (a0.length : Int) ≠ (a1.length : Int) then false else (LR.on (slices_Equal_Held_l1 a1 a0 0 ()) (fun r => r) (fun ol1 => true))
set_option maxHeartbeats 3200000 in
theorem slices_Equal_Held_c (H : Heap) (va0 : Value) (a0 : List (Int × Int)) (ha0 : RdS heldE H va0 a0) (va1 : Value) (a1 : List (Int × Int)) (ha1 : RdS heldE H va1 a1) : Fv Tryz.prog (fnv 22) [va0, va1] H (.bool (slices_Equal_Held_m a0 a1)) := by
  refine Fc.of_body (N := 26) Tryz.func22 rfl (by kernel_rfl) rfl rfl ?_
  intro w0
  obtain ⟨Aa0, ca0, rfl, hca0, hda0, ha0⟩ := ha0.shape
  obtain ⟨Aa1, ca1, rfl, hca1, hda1, ha1⟩ := ha1.shape
  refine T.seq ?_
  refine T.region ?_
  refine R.asE rfl (by conv => lhs; whnf) ?_
  refine TL.nil (Post.thnN ?_)
  refine T.seq ?_
  refine T.seq ?_
  refine T.region ?_
  refine R.mvE rfl (by conv => lhs; whnf) ?_
  refine R.len Tryz.underlying23 rfl rfl ?_
  refine R.mvE rfl (by conv => lhs; whnf) ?_
  refine R.len Tryz.underlying23 rfl rfl ?_
  refine R.neq rfl rfl rfl ?_
  refine TL.nil (Post.thnN ?_)
  refine T.condD rfl (fun c10 => ?_) (fun c10 => ?_)
  · refine T.set 10 (.bool true) (congrArg Value.bool (decide_eq_true c10)) ?_
    refine T.seq ?_
    refine T.region ?_
    refine R.asE rfl (by conv => lhs; whnf) ?_
    refine TL.nil (Post.thnN ?_)
    refine T.has Has.nil ?_
    refine T.ret (Post.thnR ?_)
    have hM : slices_Equal_Held_m a0 a1 = false := by rw [slices_Equal_Held_m, if_pos c10]
    exact fin1L (v := .bool false) [] rfl rfl (List.Sublist.refl _) ⟨rfl, by first | rw [hM] | rfl⟩
  · refine T.set 10 (.bool false) (congrArg Value.bool (decide_eq_false c10)) ?_
    refine T.skip (Post.thnN ?_)
    refine T.seq ?_
    refine T.seq ?_
    refine T.region ?_
    refine R.mvE rfl (by conv => lhs; whnf) ?_
    refine R.len Tryz.underlying23 rfl rfl ?_
    refine R.mvE rfl (by conv => lhs; whnf) ?_
    refine TL.nil (Post.thnN ?_)
    refine T.block ?_
    refine T.loop (ι := Nat) (fun kl1 H' L' ds' => kl1 ≤ a0.length ∧ Has L' [] ∧ slices_Equal_Held_l1 a1 (a0.drop kl1) kl1 () = slices_Equal_Held_l1 a1 a0 0 ()) (fun kl1 => [(13, .int .i64 (kl1 : Int)), (0, .slice Aa0 a0.length ca0), (1, .slice Aa1 a1.length ca1), (12, .int .i64 (a0.length : Int))]) (fun kl1 => a0.length - kl1) 0 ?_ ?_ ?_
    · exact ⟨(by omega), Has.nil, (by rfl)⟩
    · exact ⟨rfl, rfl, rfl, rfl, trivial⟩
    · intro kl1 σ_l1 H_l1 L_l1 ds_l1 s_l1 hI_l1
      obtain ⟨hkl1, hI_l1⟩ := hI_l1
      obtain ⟨hLl1, hQl1⟩ := hI_l1
      refine T.has hLl1 ?_
      refine T.seq ?_
      refine T.region ?_
      refine R.lss rfl rfl rfl ?_
      refine TL.nil (Post.thnN ?_)
      refine T.seq ?_
      refine T.condD rfl (fun c14 => ?_) (fun c14 => ?_)
      · have hltl1 : kl1 < a0.length := by omega
        obtain ⟨yl1, hyl1⟩ := getk (xs := a0) (k := kl1) (by omega)
        refine T.skip (Post.thnN ?_)
        refine T.seq ?_
        refine T.block ?_
        refine T.seq ?_
        refine T.region ?_
        refine R.mvE rfl (by conv => lhs; whnf) ?_
        refine R.asE rfl (by conv => lhs; whnf) ?_
        refine TL.nil (Post.thnN ?_)
        refine T.seq ?_
        refine T.draw Tryz_mixed (by kernel_rfl) ?_
        refine Plan.v 0 [1, 2, 3, 4, 5, 6, 7, 8] (by kernel_rfl) (by kernel_rfl) (by kernel_rfl) (by kernel_rfl) rfl (fun _ _ h_ => R.mvE rfl (by conv => lhs; whnf) (TL.nil h_)) ?_
        refine Plan.v 1 [2, 3, 4, 5, 6, 7, 8] (by kernel_rfl) (by kernel_rfl) (by kernel_rfl) (by kernel_rfl) rfl (fun _ _ h_ => R.mvE rfl (by conv => lhs; whnf) (TL.nil h_)) ?_
        obtain ⟨b18, o18, i18, k18⟩ := RdS.elem (ha0.mono s_l1) hyl1
        obtain ⟨l18, g18, k18⟩ := k18
        obtain rfl : l18 = [.int .i64 (yl1.1), .int .u64 (yl1.2)] := g18
        refine Plan.v 2 [3, 4, 5, 6, 7, 8] (by kernel_rfl) (by kernel_rfl) (by kernel_rfl) (by kernel_rfl) rfl (fun _ _ h_ => R.ixp Tryz.underlying23 Tryz.sizeOf50 rfl rfl rfl (by omega) i18 (TL.nil h_)) ?_
        refine Plan.v 3 [4, 5, 6, 7, 8] (by kernel_rfl) (by kernel_rfl) (by kernel_rfl) (by kernel_rfl) rfl (fun _ _ h_ => R.ldK (l := [.int .i64 (yl1.1), .int .u64 (yl1.2)]) Tryz.isAgg50 Tryz.sizeOf50 rfl rfl k18 rfl (TL.nil h_)) ?_
        refine Plan.v 4 [5, 6, 7, 8] (by kernel_rfl) (by kernel_rfl) (by kernel_rfl) (by kernel_rfl) rfl (fun _ _ h_ => R.mvE rfl (by conv => lhs; whnf) (TL.nil h_)) ?_
        refine Plan.v 5 [6, 7, 8] (by kernel_rfl) (by kernel_rfl) (by kernel_rfl) (by kernel_rfl) rfl (fun _ _ h_ => R.mvE rfl (by conv => lhs; whnf) (TL.nil h_)) ?_
        have hl22 : kl1 < a1.length := by first | omega | (simp; done) | (simp; omega) | (simp at *; omega)
        obtain ⟨y22, e22, h22⟩ : ∃ y, y = (a1.getD kl1 (((0, 0) : Int × Int) : Int × Int)) ∧ a1[kl1]? = some y := ⟨_, rfl, getD_get (by first | exact hl22 | simpa using hl22 | (rw [(sortI_perm _).length_eq]; exact hl22))⟩
        obtain ⟨b22, o22, i22, k22⟩ := RdS.elem (ha1.mono s_l1) h22
        obtain ⟨l22, g22, k22⟩ := k22
        obtain rfl : l22 = [.int .i64 (y22.1), .int .u64 (y22.2)] := g22
        refine Plan.v 6 [7, 8] (by kernel_rfl) (by kernel_rfl) (by kernel_rfl) (by kernel_rfl) rfl (fun _ _ h_ => R.ixp Tryz.underlying23 Tryz.sizeOf50 rfl rfl rfl (by first | omega | (simp; done) | (simp; omega) | (simp at *; omega)) i22 (TL.nil h_)) ?_
        refine Plan.v 7 [8] (by kernel_rfl) (by kernel_rfl) (by kernel_rfl) (by kernel_rfl) rfl (fun _ _ h_ => R.ldK (l := [.int .i64 (y22.1), .int .u64 (y22.2)]) Tryz.isAgg50 Tryz.sizeOf50 rfl rfl k22 rfl (TL.nil h_)) ?_
        refine Plan.v 8 [] (by kernel_rfl) (by kernel_rfl) (by kernel_rfl) (by kernel_rfl) rfl (fun _ _ h_ => R.neG (a := (yl1 : Int × Int)) (b := (y22 : Int × Int)) (eqT50 9998 yl1 y22) eqG50 rfl rfl rfl (TL.nil h_)) ?_
        refine Plan.done (Post.thnN ?_)
        refine T.condD rfl (fun c24 => ?_) (fun c24 => ?_)
        · refine T.set 24 (.bool true) (congrArg Value.bool (decide_eq_true c24)) ?_
          refine T.seq ?_
          refine T.region ?_
          refine R.asE rfl (by conv => lhs; whnf) ?_
          refine TL.nil (Post.thnN ?_)
          refine T.has Has.nil ?_
          refine T.ret (Post.blkR (Post.thnR (Post.thnR (Post.blkR (Post.thnR ?_)))))
          have hXl1 : slices_Equal_Held_l1 a1 a0 0 () = .ret false := by subst e22; rw [← hQl1, drop_cons hyl1, slices_Equal_Held_l1]; rw [if_pos c24]
          have hM : slices_Equal_Held_m a0 a1 = false := by rw [slices_Equal_Held_m, if_neg c10, hXl1, LR.on_ret]
          exact fin1L (v := .bool false) [] rfl rfl (List.Sublist.refl _) ⟨rfl, by first | rw [hM] | rfl⟩
        · refine T.set 24 (.bool false) (congrArg Value.bool (decide_eq_false c24)) ?_
          refine T.skip (Post.blkN ?_)
          refine id (Post.thnN ?_)
          refine T.region ?_
          refine R.addI rfl rfl rfl (by omega) ?_
          refine R.mvE rfl (by conv => lhs; whnf) ?_
          refine TL.nil (Post.thnN ?_)
          exact ⟨kl1 + 1, s_l1, ⟨(by omega), Has.nil, (by subst e22; rw [← hQl1, drop_cons hyl1, slices_Equal_Held_l1]; rw [if_neg c24])⟩, by show a0.length - (kl1 + 1) < a0.length - kl1; omega, rfl, rfl, rfl, rfl, trivial⟩
      · refine T.exit (Post.thnE (Post.thnE (Post.blkX ?_)))
        have hEl1 : slices_Equal_Held_l1 a1 a0 0 () = .go () := (hQl1.symm.trans (by rw [show kl1 = a0.length by omega, List.drop_length, slices_Equal_Held_l1]))
        refine id (Post.thnN ?_)
        refine T.seq ?_
        refine T.region ?_
        refine R.asE rfl (by conv => lhs; whnf) ?_
        refine TL.nil (Post.thnN ?_)
        refine T.has Has.nil ?_
        refine T.ret ?_
        have hM : slices_Equal_Held_m a0 a1 = true := by rw [slices_Equal_Held_m, if_neg c10, hEl1, LR.on_go]
        exact fin1L (v := .bool true) [] rfl rfl (List.Sublist.refl _) ⟨rfl, by first | rw [hM] | rfl⟩

theorem slices_Equal_Held_go (b : List (Int × Int)) : ∀ (a : List (Int × Int)) (k : Nat), k + a.length = b.length → slices_Equal_Held_l1 b a k () = if a = b.drop k then .go () else .ret false
  | [], k, h => by
    have : b.drop k = [] := List.drop_eq_nil_iff.2 (by simp at h; omega)
    rw [slices_Equal_Held_l1, this, if_pos rfl]
  | y :: ys, k, h => by
    have hk : k < b.length := by simp at h; omega
    rw [slices_Equal_Held_l1, List.drop_eq_getElem_cons hk]
    have hg : b.getD k ((0, 0) : Int × Int) = b[k] := by rw [List.getD_eq_getElem?_getD, List.getElem?_eq_getElem hk]; rfl
    rw [hg]
    by_cases e : y = b[k]
    · rw [if_neg (fun h => h e), slices_Equal_Held_go b ys (k + 1) (by simp at h; omega)]
      subst e
      by_cases e2 : ys = b.drop (k + 1)
      · rw [if_pos e2, if_pos (by rw [← e2])]
      · rw [if_neg e2, if_neg (fun h => e2 (List.cons.inj h).2)]
    · rw [if_pos e, if_neg (fun h => e (List.cons.inj h).1)]
theorem slices_Equal_Held_eq (a b : List (Int × Int)) : slices_Equal_Held_m a b = decide (a = b) := by
  unfold slices_Equal_Held_m
  by_cases h : a.length = b.length
  · rw [if_neg (by omega), slices_Equal_Held_go b a 0 (by omega), List.drop_zero]
    by_cases e : a = b
    · rw [if_pos e, LR.on_go, decide_eq_true e]
    · rw [if_neg e, LR.on_ret, decide_eq_false e]
  · rw [if_pos (by omega), decide_eq_false (fun e => h (by rw [e]))]
theorem slices_Equal_Held_d (H : Heap) (v : Value) (a : List (Int × Int)) (h : RdS heldE H v a) (u : Value) (b : List (Int × Int)) (k : RdS heldE H u b) : Fv Tryz.prog (fnv 22) [v, u] H (.bool (decide (a = b))) := Fv.to (slices_Equal_Held_c H v a h u b k) (congrArg Value.bool (slices_Equal_Held_eq a b))
def slices_Index_int_l1 (a1 : Int) : List Int → Nat → Unit → LR (Int) (Unit)
  | [], kl1, sl1 => .go ()
  | yl1 :: ysl1, kl1, sl1 => if a1 = yl1 then (.ret ((kl1 : Int))) else (slices_Index_int_l1 a1 ysl1 (kl1 + 1) ())
def slices_Index_int_m (a0 : List Int) (a1 : Int) : Int :=
  LR.on (slices_Index_int_l1 a1 a0 0 ()) (fun r => r) (fun ol1 => (-1))
set_option maxHeartbeats 3200000 in
theorem slices_Index_int_c (H : Heap) (va0 : Value) (a0 : List Int) (ha0 : RdS (intE .i64) H va0 a0) (a1 : Int) : Fv Tryz.prog (fnv 85) [va0, .int .i64 a1] H (.int .i64 (slices_Index_int_m a0 a1)) := by
  refine Fc.of_body (N := 19) Tryz.func85 rfl (by kernel_rfl) rfl rfl ?_
  intro w0
  obtain ⟨Aa0, ca0, rfl, hca0, hda0, ha0⟩ := ha0.shape
  refine T.seq ?_
  refine T.region ?_
  refine R.asE rfl (by conv => lhs; whnf) ?_
  refine TL.nil (Post.thnN ?_)
  refine T.seq ?_
  refine T.seq ?_
  refine T.region ?_
  refine R.mvE rfl (by conv => lhs; whnf) ?_
  refine R.len Tryz.underlying30 rfl rfl ?_
  refine R.mvE rfl (by conv => lhs; whnf) ?_
  refine TL.nil (Post.thnN ?_)
  refine T.block ?_
  refine T.loop (ι := Nat) (fun kl1 H' L' ds' => kl1 ≤ a0.length ∧ Has L' [] ∧ slices_Index_int_l1 a1 (a0.drop kl1) kl1 () = slices_Index_int_l1 a1 a0 0 ()) (fun kl1 => [(8, .int .i64 (kl1 : Int)), (0, .slice Aa0 a0.length ca0), (1, .int .i64 a1), (7, .int .i64 (a0.length : Int))]) (fun kl1 => a0.length - kl1) 0 ?_ ?_ ?_
  · exact ⟨(by omega), Has.nil, (by rfl)⟩
  · exact ⟨rfl, rfl, rfl, rfl, trivial⟩
  · intro kl1 σ_l1 H_l1 L_l1 ds_l1 s_l1 hI_l1
    obtain ⟨hkl1, hI_l1⟩ := hI_l1
    obtain ⟨hLl1, hQl1⟩ := hI_l1
    refine T.has hLl1 ?_
    refine T.seq ?_
    refine T.region ?_
    refine R.lss rfl rfl rfl ?_
    refine TL.nil (Post.thnN ?_)
    refine T.seq ?_
    refine T.condD rfl (fun c9 => ?_) (fun c9 => ?_)
    · have hltl1 : kl1 < a0.length := by omega
      obtain ⟨yl1, hyl1⟩ := getk (xs := a0) (k := kl1) (by omega)
      refine T.skip (Post.thnN ?_)
      refine T.seq ?_
      refine T.block ?_
      refine T.seq ?_
      refine T.region ?_
      refine R.mvE rfl (by conv => lhs; whnf) ?_
      refine R.asE rfl (by conv => lhs; whnf) ?_
      refine TL.nil (Post.thnN ?_)
      refine T.seq ?_
      refine T.region ?_
      refine R.mvE rfl (by conv => lhs; whnf) ?_
      refine R.mvE rfl (by conv => lhs; whnf) ?_
      refine R.mvE rfl (by conv => lhs; whnf) ?_
      obtain ⟨b14, o14, i14, k14⟩ := RdS.elem (ha0.mono s_l1) hyl1
      obtain ⟨l14, g14, k14⟩ := k14
      obtain rfl : l14 = [.int .i64 yl1] := g14
      refine R.ixp Tryz.underlying30 Tryz.sizeOf3 rfl rfl rfl (by omega) i14 ?_
      refine R.ldC Tryz.isAgg3 rfl rfl (k14 0 _ rfl) ?_
      refine R.eql rfl rfl rfl ?_
      refine TL.nil (Post.thnN ?_)
      refine T.condD rfl (fun c16 => ?_) (fun c16 => ?_)
      · refine T.set 16 (.bool true) (congrArg Value.bool (decide_eq_true c16)) ?_
        refine T.seq ?_
        refine T.region ?_
        refine R.mvE rfl (by conv => lhs; whnf) ?_
        refine R.asE rfl (by conv => lhs; whnf) ?_
        refine TL.nil (Post.thnN ?_)
        refine T.has Has.nil ?_
        refine T.ret (Post.blkR (Post.thnR (Post.thnR (Post.blkR (Post.thnR ?_)))))
        have hXl1 : slices_Index_int_l1 a1 a0 0 () = .ret ((kl1 : Int)) := by rw [← hQl1, drop_cons hyl1, slices_Index_int_l1]; rw [if_pos c16]
        have hM : slices_Index_int_m a0 a1 = (kl1 : Int) := by rw [slices_Index_int_m, hXl1, LR.on_ret]
        exact fin1L (v := .int .i64 (kl1 : Int)) [] rfl rfl (List.Sublist.refl _) ⟨rfl, by first | rw [hM] | rfl⟩
      · refine T.set 16 (.bool false) (congrArg Value.bool (decide_eq_false c16)) ?_
        refine T.skip (Post.blkN ?_)
        refine id (Post.thnN ?_)
        refine T.region ?_
        refine R.addI rfl rfl rfl (by omega) ?_
        refine R.mvE rfl (by conv => lhs; whnf) ?_
        refine TL.nil (Post.thnN ?_)
        exact ⟨kl1 + 1, s_l1, ⟨(by omega), Has.nil, (by rw [← hQl1, drop_cons hyl1, slices_Index_int_l1]; rw [if_neg c16])⟩, by show a0.length - (kl1 + 1) < a0.length - kl1; omega, rfl, rfl, rfl, rfl, trivial⟩
    · refine T.exit (Post.thnE (Post.thnE (Post.blkX ?_)))
      have hEl1 : slices_Index_int_l1 a1 a0 0 () = .go () := (hQl1.symm.trans (by rw [show kl1 = a0.length by omega, List.drop_length, slices_Index_int_l1]))
      refine id (Post.thnN ?_)
      refine T.seq ?_
      refine T.region ?_
      refine R.asE rfl (by conv => lhs; whnf) ?_
      refine TL.nil (Post.thnN ?_)
      refine T.has Has.nil ?_
      refine T.ret ?_
      have hM : slices_Index_int_m a0 a1 = (-1) := by rw [slices_Index_int_m, hEl1, LR.on_go]
      exact fin1L (v := .int .i64 (-1)) [] rfl rfl (List.Sublist.refl _) ⟨rfl, by first | rw [hM] | rfl⟩

theorem slices_Index_int_go (x : Int) : ∀ (a : List (Int)) (k : Nat), (∃ j : Nat, slices_Index_int_l1 x a k () = .ret (j : Int) ∧ k ≤ j ∧ a[j - k]? = some x) ∨ (slices_Index_int_l1 x a k () = .go () ∧ x ∉ a)
  | [], k => .inr ⟨rfl, by simp⟩
  | y :: ys, k => by
    rw [slices_Index_int_l1]
    by_cases e : x = y
    · rw [if_pos e]; exact .inl ⟨k, rfl, Nat.le_refl _, by rw [Nat.sub_self, e]; rfl⟩
    · rw [if_neg e]
      rcases slices_Index_int_go x ys (k + 1) with ⟨j, h1, h2, h3⟩ | ⟨h1, h2⟩
      · exact .inl ⟨j, h1, by omega, by rw [show j - k = (j - (k + 1)) + 1 by omega]; exact h3⟩
      · exact .inr ⟨h1, by simp [e, h2]⟩
theorem slices_Index_int_at (a : List (Int)) (x : Int) : (∃ j : Nat, slices_Index_int_m a x = (j : Int) ∧ a[j]? = some x) ∨ (slices_Index_int_m a x = -1 ∧ x ∉ a) := by
  unfold slices_Index_int_m
  rcases slices_Index_int_go x a 0 with ⟨j, h1, h2, h3⟩ | ⟨h1, h2⟩
  · rw [h1, LR.on_ret]; exact .inl ⟨j, rfl, by simpa using h3⟩
  · rw [h1, LR.on_go]; exact .inr ⟨rfl, h2⟩
def slices_Contains_int_m (a0 : List Int) (a1 : Int) : Bool :=
  (decide ((0 : Int) ≤ (slices_Index_int_m a0 a1)))
set_option maxHeartbeats 3200000 in
theorem slices_Contains_int_c (H : Heap) (va0 : Value) (a0 : List Int) (ha0 : RdS (intE .i64) H va0 a0) (a1 : Int) : Fv Tryz.prog (fnv 45) [va0, .int .i64 a1] H (.bool (slices_Contains_int_m a0 a1)) := by
  refine Fc.of_body (N := 9) Tryz.func45 rfl (by kernel_rfl) rfl rfl ?_
  intro w0
  obtain ⟨Aa0, ca0, rfl, hca0, hda0, ha0⟩ := ha0.shape
  refine T.seq ?_
  refine T.region ?_
  refine R.asE rfl (by conv => lhs; whnf) ?_
  refine TL.nil (Post.thnN ?_)
  refine T.seq ?_
  refine T.region ?_
  refine R.mvE rfl (by conv => lhs; whnf) ?_
  refine R.mvE rfl (by conv => lhs; whnf) ?_
  refine R.callv rfl rfl rfl (slices_Index_int_c _ _ a0 ha0 (a1)) ?_
  refine R.geq rfl rfl rfl ?_
  refine R.asE rfl (by conv => lhs; whnf) ?_
  refine TL.nil (Post.thnN ?_)
  refine T.has Has.nil ?_
  refine T.ret ?_
  have hM : slices_Contains_int_m a0 a1 = (decide ((0 : Int) ≤ (slices_Index_int_m a0 a1))) := by rw [slices_Contains_int_m]
  exact fin1L (v := .bool (decide ((0 : Int) ≤ (slices_Index_int_m a0 a1)))) [] rfl rfl (List.Sublist.refl _) ⟨rfl, by first | rw [hM] | rfl⟩

theorem slices_Contains_int_eq (a : List (Int)) (x : Int) : slices_Contains_int_m a x = decide (x ∈ a) := by
  unfold slices_Contains_int_m
  rw [decide_eq_decide]
  rcases slices_Index_int_at a x with ⟨j, h1, h2⟩ | ⟨h1, h2⟩
  · exact ⟨fun _ => List.mem_of_getElem? h2, fun _ => by rw [h1]; omega⟩
  · exact ⟨fun h => by rw [h1] at h; omega, fun h => absurd h h2⟩
theorem slices_Contains_int_d (H : Heap) (v : Value) (a : List (Int)) (h : RdS (intE .i64) H v a) (x : Int) : Fv Tryz.prog (fnv 45) [v, .int .i64 x] H (.bool (decide (x ∈ a))) := Fv.to (slices_Contains_int_c H v a h x) (congrArg Value.bool (slices_Contains_int_eq a x))
end Go.SX

namespace Go.Proofs
open Go.Shelf
def Tryz.lays189_ren : Go.Shelf.Ren := ⟨fun | 189 => 38 | 125 => 79 | 257 => 78 | 128 => 103 | 129 => 104 | 294 => 94 | 295 => 95 | 296 => 96 | 297 => 97 | 298 => 98 | 299 => 99 | 216 => 100 | 300 => 101 | 301 => 102 | 328 => 108 | 329 => 109 | 330 => 110 | 331 => 111 | 332 => 112 | 215 => 92 | 343 => 114 | n => n, fun | 28 => 30 | 3 => 3 | 46 => 118 | 0 => 0 | 51 => 138 | 53 => 47 | 4 => 4 | 183 => 131 | 182 => 130 | 131 => 103 | 5 => 5 | 9 => 9 | 218 => 142 | 222 => 146 | 228 => 148 | 229 => 65 | n => n, fun | n => n⟩
theorem Tryz.lays189 : Go.Proofs.Lays.n189 Tryz.prog Tryz.lays189_ren := {
  mixed := by kernel_rfl
  f125 := Tryz.func79.trans (congrArg some (by kernel_rfl))
  f128 := Tryz.func103.trans (congrArg some (by kernel_rfl))
  f129 := Tryz.func104.trans (congrArg some (by kernel_rfl))
  f189 := Tryz.func38.trans (congrArg some (by kernel_rfl))
  f215 := Tryz.func92.trans (congrArg some (by kernel_rfl))
  f216 := Tryz.func100.trans (congrArg some (by kernel_rfl))
  f257 := Tryz.func78.trans (congrArg some (by kernel_rfl))
  f294 := Tryz.func94.trans (congrArg some (by kernel_rfl))
  f295 := Tryz.func95.trans (congrArg some (by kernel_rfl))
  f296 := Tryz.func96.trans (congrArg some (by kernel_rfl))
  f297 := Tryz.func97.trans (congrArg some (by kernel_rfl))
  f298 := Tryz.func98.trans (congrArg some (by kernel_rfl))
  f299 := Tryz.func99.trans (congrArg some (by kernel_rfl))
  f300 := Tryz.func101.trans (congrArg some (by kernel_rfl))
  f301 := Tryz.func102.trans (congrArg some (by kernel_rfl))
  f328 := Tryz.func108.trans (congrArg some (by kernel_rfl))
  f329 := Tryz.func109.trans (congrArg some (by kernel_rfl))
  f330 := Tryz.func110.trans (congrArg some (by kernel_rfl))
  f331 := Tryz.func111.trans (congrArg some (by kernel_rfl))
  f332 := Tryz.func112.trans (congrArg some (by kernel_rfl))
  f343 := Tryz.func114.trans (congrArg some (by kernel_rfl))
  t0 := Tryz.underlying0
  a0 := Tryz.isAgg0
  z0 := Tryz.sizeOf0
  v0 := Tryz.zeroValue0
  t3 := Tryz.underlying3
  a3 := Tryz.isAgg3
  z3 := Tryz.sizeOf3
  v3 := Tryz.zeroValue3
  t4 := Tryz.underlying4
  a4 := Tryz.isAgg4
  z4 := Tryz.sizeOf4
  v4 := Tryz.zeroValue4
  t5 := Tryz.underlying5
  a5 := Tryz.isAgg5
  z5 := Tryz.sizeOf5
  v5 := Tryz.zeroValue5
  t9 := Tryz.underlying9
  a9 := Tryz.isAgg9
  z9 := Tryz.sizeOf9
  v9 := Tryz.zeroValue9
  t28 := Tryz.underlying30
  a28 := Tryz.isAgg30
  z28 := Tryz.sizeOf30
  v28 := Tryz.zeroValue30
  t46 := Tryz.underlying118
  a46 := Tryz.isAgg118
  z46 := Tryz.sizeOf118
  v46 := Tryz.zeroValue118
  t51 := Tryz.underlying138
  a51 := Tryz.isAgg138
  z51 := Tryz.sizeOf138
  v51 := Tryz.zeroValue138
  t53 := Tryz.underlying47
  a53 := Tryz.isAgg47
  z53 := Tryz.sizeOf47
  v53 := Tryz.zeroValue47
  t131 := Tryz.underlying103
  a131 := Tryz.isAgg103
  z131 := Tryz.sizeOf103
  v131 := Tryz.zeroValue103
  t182 := Tryz.underlying130
  a182 := Tryz.isAgg130
  z182 := Tryz.sizeOf130
  v182 := Tryz.zeroValue130
  t183 := Tryz.underlying131
  a183 := Tryz.isAgg131
  z183 := Tryz.sizeOf131
  v183 := Tryz.zeroValue131
  t218 := Tryz.underlying142
  a218 := Tryz.isAgg142
  z218 := Tryz.sizeOf142
  v218 := Tryz.zeroValue142
  t222 := Tryz.underlying146
  a222 := Tryz.isAgg146
  z222 := Tryz.sizeOf146
  v222 := Tryz.zeroValue146
  t228 := Tryz.underlying148
  a228 := Tryz.isAgg148
  z228 := Tryz.sizeOf148
  v228 := Tryz.zeroValue148
  t229 := Tryz.underlying65
  a229 := Tryz.isAgg65
  z229 := Tryz.sizeOf65
  v229 := Tryz.zeroValue65 }
end Go.Proofs

set_option linter.unusedVariables false
set_option linter.unusedSimpArgs false
namespace Go.SX
open Go Go.Sort
attribute [local semireducible] T TL
def sortI (xs : List Int) : List Int := xs.mergeSort (fun x y => decide (x ≤ y))
theorem sortI_perm (xs : List Int) : (sortI xs).Perm xs := List.mergeSort_perm _ _
theorem sortI_sorted (xs : List Int) : (sortI xs).Pairwise (· ≤ ·) := by
  have := List.pairwise_mergeSort (le := fun x y : Int => decide (x ≤ y)) (fun a b c h1 h2 => by simp at *; omega) (fun a b => by simp; omega) xs
  exact this.imp (fun h => of_decide_eq_true h)
theorem sort_fc {P : Program} {f : FuncId} {fn : Func} {cd : Code} {e : TypeId} (hf : P.funcs[f]? = some fn) (hb : fn.body = some cd) (hname : (fn.name == "runtime.NumGoroutine") = false)
    (hcon : ∀ (blk off cap : Nat) (zs : List Int) (w : World), Holds (Value.int .i64) w blk off zs.toArray → blk < w.heap.size → zs.length < 4611686018427387904 →
      Calls P f #[.slice (some ⟨blk, off, none⟩) zs.length cap] w fun e w' => e = .returned (.tuple #[]) ∧ ∃ n os, w' = grow (putRow (Value.int .i64) (Sort.ahead w n) blk off (zs.mergeSort fun x y => decide (x ≤ y)).toArray) os)
    {H : Heap} {v : Value} {xs : List Int} {c : Chunk} (ho : OwnS (intE .i64) e H v xs c) (hne : xs ≠ []) (hl : xs.length ≤ 1099511627776) :
    Fc P (fnv f) [v] H [c] (fun _ H' L' => H' = H ∧ ∃ c', L' = [c'] ∧ OwnS (intE .i64) e H v (sortI xs) c') := by
  rcases ho with ⟨_, h, _⟩ | ⟨b, cap, cs, rfl, rfl, h3, h4, h5, h6⟩
  · exact absurd h hne
  intro w hs
  have hs' : Sat H [(b, .cells cs e)] w := by simpa using hs
  have hbl := hs'.l (b, .cells cs e) (List.mem_singleton.2 rfl)
  simp only at hbl
  have hcs : cap ≤ cs.size := by have : cap * 1 ≤ cs.size := h5; omega
  have hcell : ∀ (i : Nat) x, xs[i]? = some x → cs[i]? = some (.int .i64 x) := fun i x hx => by
    obtain ⟨l, h7, h8⟩ := h6 i x hx
    obtain rfl : l = [.int .i64 x] := h7
    have := h8 0 _ rfl
    simpa [intE] using this
  have htk : cs.toList.take xs.length = xs.map (Value.int .i64) := by
    apply List.ext_getElem?
    intro i
    by_cases hi : i < xs.length
    · rw [List.getElem?_take_of_lt hi, Array.getElem?_toList, hcell i _ (List.getElem?_eq_getElem hi)]
      simp [hi]
    · rw [List.getElem?_take_eq_none (by omega), List.getElem?_eq_none (by simp; omega)]
  have hH := holds_of_blockI hbl htk
  have he := Go.Proofs.enters_of (P := P) hf hname hb #[.slice (some ⟨b, 0, none⟩) xs.length cap] w
  refine ⟨.enter f #[.slice (some ⟨b, 0, none⟩) xs.length cap], w, by simp [Deferred.ofValue, invoke, he], ?_⟩
  refine CallsIn.mono (callsIn_wide.2 (hcon b 0 cap xs w hH (heap_lt hbl) (by omega))) ?_
  rintro e' w' ⟨rfl, n, os, rfl⟩
  have hlen : (sortI xs).length = xs.length := (sortI_perm xs).length_eq
  have hnew := heap_sortedI (n := n) (os := os) (sortI xs).toArray hbl
  have hg := grownBy_sortedI (w := w) (g := b) (n := n) (os := os) (sortI xs).toArray
  refine ⟨_, H, [[(b, .cells (putCells (Value.int .i64) 0 (sortI xs).toArray cs) e)]], rfl, ?_, rfl, _, rfl, ?_⟩
  · obtain ⟨g1, g2, g3, g4, g5⟩ := hg
    refine ⟨⟨fun b' o hb' => ?_, fun q hq => ?_, by simp [keys], fun q hq => ?_⟩, ⟨g1, g2, g3, g4, fun b' h1 h2 => g5 b' h1 (fun x => h2 (by cases x; simp [keys])), Nat.le_add_right _ _⟩, HLe.refl _, fun b' o h1 h2 => ?_, fun b' hb' => ?_⟩
    · have hne' : b' ≠ b := fun x => by
        have := hs'.dj (b, .cells cs e) (List.mem_singleton.2 rfl)
        subst x; rw [hb'] at this; cases this
      have hw := hs'.h b' o hb'
      exact (g5 b' (heap_lt hw) (fun x => hne' (by cases x; rfl))).trans hw
    · simp at hq; subst hq; exact hnew
    · simp at hq; subst hq
      exact hs'.dj (b, .cells cs e) (List.mem_singleton.2 rfl)
    · have : H b' = some o := h1
      have h2' : H b' = none := h2
      rw [this] at h2'; cases h2'
    · left; simpa [keys] using hb'
  · have hsz : (putCells (Value.int .i64) 0 (sortI xs).toArray cs).size = cs.size := by simp [putCells]
    refine .inr ⟨b, cap, putCells (Value.int .i64) 0 (sortI xs).toArray cs, by rw [hlen], rfl, by rw [hlen]; exact h3, h4, by rw [hsz]; exact h5, fun i x hx => ⟨[.int .i64 x], rfl, fun j u hj => ?_⟩⟩
    have hj0 : j = 0 := by have := (List.getElem?_eq_some_iff.1 hj).1; simpa using this
    subst hj0
    simp at hj
    subst hj
    have ht := take_putCellsI cs (sortI xs) (by rw [hlen]; exact Nat.le_trans h3 hcs)
    have hi := (List.getElem?_eq_some_iff.1 hx).1
    have h9 : ((putCells (Value.int .i64) 0 (sortI xs).toArray cs).toList.take (sortI xs).length)[i]? = ((sortI xs).map (Value.int .i64))[i]? := by rw [ht]
    rw [List.getElem?_take_of_lt hi, Array.getElem?_toList, List.getElem?_map, hx] at h9
    show (putCells (Value.int .i64) 0 (sortI xs).toArray cs)[i * 1 + 0]? = _
    rw [Nat.mul_one, Nat.add_zero, h9]; rfl
end Go.SX

set_option linter.unusedVariables false
set_option linter.unusedSimpArgs false
namespace Go.SX
open Go Go.Proofs

theorem sort_c (H : Heap) (v : Value) (xs : List Int) (ch : Chunk) (ho : OwnS (intE .i64) 3 H v xs ch) (hne : xs ≠ []) (hl : xs.length ≤ 1099511627776) : Fc Tryz.prog (fnv 38) [v] H [ch] (fun _ H' L' => H' = H ∧ ∃ c', L' = [c'] ∧ OwnS (intE .i64) 3 H v (sortI xs) c') :=
  sort_fc Tryz.func38 rfl (by kernel_rfl) (fun blk off cap da w eg h1 h2 => Any.slices_Sort_int Tryz.lays189 blk off cap da w eg h1 h2) ho hne hl
theorem sortA_c (H : Heap) (v : Value) (xs : List Int) (ch : Chunk) (ho : OwnS (intE .i64) 3 H v xs ch) (hl : xs.length ≤ 1099511627776) : Fc Tryz.prog (fnv 38) [v] H [ch] (fun _ H' L' => H' = H ∧ ∃ c', L' = [c'] ∧ OwnS (intE .i64) 3 H v (sortI xs) c') := by
  by_cases hne : xs = []
  · intro w hs
    obtain ⟨A, cap, rfl, _, _⟩ := ho.shape
    subst hne
    have he := Go.Proofs.enters_of (P := Tryz.prog) Tryz.func38 (by kernel_rfl) rfl #[.slice A 0 cap] w
    refine ⟨.enter 38 #[.slice A 0 cap], w, by simp [Deferred.ofValue, invoke, he], ?_⟩
    refine CallsIn.mono (callsIn_wide.2 (Go.Proofs.Any.slices_Sort_int_none Tryz.lays189 A cap w)) ?_
    rintro e' w' ⟨rfl, rfl⟩
    exact ⟨_, H, [ch], rfl, St.init hs, rfl, ch, rfl, by simpa [sortI] using ho⟩
  · exact sort_c H v xs ch ho hne hl
end Go.SX

set_option linter.unusedVariables false
set_option linter.unusedSimpArgs false
namespace Go.SX
open Go
theorem within_go (a b : Int) : ∀ l : List Int, ident_within_l2 a b l true = withinB a b l
  | [] => rfl
  | y :: ys => by
    rw [ident_within_l2]
    simp only [LR.seq, withinB, List.all_cons]
    by_cases h1 : a ≤ y
    · by_cases h2 : y ≤ b
      · simp [h1, h2, within_go a b ys, withinB]
      · simp [h1, h2]
    · simp [h1]
theorem within_eq (a b : Int) (l : List Int) : ident_within_m a b l = withinB a b l := by
  unfold ident_within_m; simp only [LR.seq]; exact within_go a b l
end Go.SX

set_option linter.unusedVariables false
set_option linter.unusedSimpArgs false
namespace Go.SX
open Go
attribute [local semireducible] T TL
theorem Has.trans {L W V : Own} (h : Has L W) (k : Has W V) : Has L V := by
  obtain ⟨G, hG⟩ := h
  obtain ⟨G', hG'⟩ := k
  refine ⟨G' ++ G, hG.trans ?_⟩
  rw [← List.append_assoc]
  exact hG'.append_right G
def mlk {β : Type} (m : List (Int × β)) (k : Int) : Option β := (m.find? (fun q => q.1 == k)).map (·.2)
def mpu {β : Type} : List (Int × β) → Int → β → List (Int × β)
  | [], k, v => [(k, v)]
  | q :: m, k, v => if q.1 = k then (k, v) :: m else q :: mpu m k v
theorem mlk_nil {β : Type} (k : Int) : mlk ([] : List (Int × β)) k = none := rfl
theorem mlk_mpu {β : Type} : ∀ (m : List (Int × β)) (k : Int) (v : β) (j : Int), mlk (mpu m k v) j = if j = k then some v else mlk m j
  | [], k, v, j => by
    unfold mpu mlk
    by_cases h : j = k
    · subst h; simp
    · rw [if_neg h]; simp; omega
  | q :: m, k, v, j => by
    have ih := mlk_mpu m k v j
    unfold mpu
    by_cases h : q.1 = k
    · rw [if_pos h]
      by_cases h2 : j = k
      · subst h2; rw [if_pos rfl]; unfold mlk; simp
      · rw [if_neg h2]; unfold mlk; rw [List.find?_cons_of_neg (by simp; omega), List.find?_cons_of_neg (by simp; omega)]
    · rw [if_neg h]
      by_cases h2 : q.1 = j
      · have : j ≠ k := by omega
        rw [if_neg this]; unfold mlk; rw [List.find?_cons_of_pos (by simpa using h2), List.find?_cons_of_pos (by simpa using h2)]
      · have e1 : mlk (q :: mpu m k v) j = mlk (mpu m k v) j := by unfold mlk; rw [List.find?_cons_of_neg (by simpa using h2)]
        have e2 : mlk (q :: m) j = mlk m j := by unfold mlk; rw [List.find?_cons_of_neg (by simpa using h2)]
        rw [e1, e2, ih]
/-- The map's entries are the list's pairs. -/
def MapV {β : Type} (ik : IntKind) (f : β → Value) (es : Array MapEntry) (m : List (Int × β)) : Prop := MapIs ik es (m.map (fun q => (q.1, f q.2)))
theorem mget_map {β : Type} (f : β → Value) : ∀ (m : List (Int × β)) (k : Int), mget (m.map (fun q => (q.1, f q.2))) k = (mlk m k).map f
  | [], k => rfl
  | q :: m, k => by
    have ih := mget_map f m k
    unfold mget mlk at *
    rw [List.map_cons]
    by_cases h : q.1 = k
    · rw [List.find?_cons_of_pos (by simpa using h), List.find?_cons_of_pos (by simpa using h)]; rfl
    · rw [List.find?_cons_of_neg (by simpa using h), List.find?_cons_of_neg (by simpa using h)]; exact ih
theorem mput_map {β : Type} (f : β → Value) : ∀ (m : List (Int × β)) (k : Int) (v : β), mput (m.map (fun q => (q.1, f q.2))) k (f v) = (mpu m k v).map (fun q => (q.1, f q.2))
  | [], k, v => rfl
  | q :: m, k, v => by
    rw [List.map_cons, mput, mpu]
    by_cases h : q.1 = k
    · rw [if_pos h, if_pos h]; rfl
    · rw [if_neg h, if_neg h, List.map_cons, mput_map f m k v]
section
variable {fr : Fr} {x : Cx} {Q : Post} {σ : Env} {H : Heap} {L : Own} {ds : List Nat} {ol rest : List Oper}
variable {d : Nat} {ty : TypeId} {p : String} {af : Array Edge} {g : Option (Nat × Bool)}
theorem R.mkmV {β : Type} (ik : IntKind) (f : β → Value) {t : TypeId} (hw : wan fr.N ol σ d g = true) (h : ∀ b, MapV ik f #[] ([] : List (Int × β)) → TL fr x ol rest Q (upd σ d (.map (some b))) H ([(b, .map #[] 0)] :: L) ds) :
    TL fr x ol (⟨some d, .makeMap t none, ty, p, af, g⟩ :: rest) Q σ H L ds := R.mkm hw (fun b => h b rfl)
theorem R.lkuV {β : Type} {f : β → Value} {t kt et : TypeId} {M K : Operand} {b clock : Nat} {es : Array MapEntry} {m : List (Int × β)} {ik : IntKind} {k : Int} {z : Value} {z0 : β} (hm : fr.P.underlying t = some (.map kt et)) (hk : fr.P.underlying kt = some (.int ik)) (hz : ∀ w, (zeroValue et).run fr.P w = .ok z w) (hz0 : z = f z0)
    (hw : wan fr.N ol σ d g = true) (hM : ev σ M = .map (some b)) (hK : ev σ K = .int ik k) (hin : In L [(b, .map es clock)]) (hi : MapV ik f es m)
    (h : TL fr x ol rest Q (upd σ d (f ((mlk m k).getD z0))) H L ds) : TL fr x ol (⟨some d, .lookup t M K false, ty, p, af, g⟩ :: rest) Q σ H L ds :=
  R.lku hm hk hz hw hM hK hin hi (by
    have e : (mget (m.map (fun q => (q.1, f q.2))) k).getD z = f ((mlk m k).getD z0) := by
      rw [mget_map, hz0]; cases mlk m k <;> rfl
    rw [e]; exact h)
theorem R.mupV {β : Type} {f : β → Value} {t kt et : TypeId} {M K X : Operand} {b clock : Nat} {es : Array MapEntry} {m : List (Int × β)} {ik : IntKind} {k : Int} {v : β} {RR : Own} (hm : fr.P.underlying t = some (.map kt et)) (hk : fr.P.underlying kt = some (.int ik))
    (hw : wants ol σ g = true) (hM : ev σ M = .map (some b)) (hK : ev σ K = .int ik k) (hX : ev σ X = f v) (hdel : Del L [(b, .map es clock)] RR) (hi : MapV ik f es m)
    (h : ∀ es' clock', MapV ik f es' (mpu m k v) → TL fr x ol rest Q σ H ([(b, .map es' clock')] :: RR) ds) : TL fr x ol (⟨none, .mapUpdate t M K X, ty, p, af, g⟩ :: rest) Q σ H L ds :=
  R.mup hm hk hw hM hK hX hdel hi (fun es' cl hi' => h es' cl (by unfold MapV; rw [← mput_map]; exact hi'))
end
/-- A map that can be read, whose values are plain. -/
def MpR {β : Type} (ik : IntKind) (f : β → Value) (H : Heap) (b : Nat) (m : List (Int × β)) : Prop := ∃ es ck, H b = some (.map es ck) ∧ MapV ik f es m
theorem MpR.mono {β : Type} {ik : IntKind} {f : β → Value} {H H' : Heap} {b : Nat} {m : List (Int × β)} (h : MpR ik f H b m) (hl : HLe H H') : MpR ik f H' b m := by
  obtain ⟨es, ck, h1, h2⟩ := h
  exact ⟨es, ck, hl _ _ h1, h2⟩
theorem MpR.of {β : Type} {ik : IntKind} {f : β → Value} {H : Heap} {b : Nat} {es : Array MapEntry} {ck : Nat} {m : List (Int × β)} (w : MapV ik f es m) (hq : ∀ q ∈ [(b, Obj.map es ck)], H q.1 = some q.2) : MpR ik f H b m := ⟨es, ck, hq _ (List.mem_singleton.2 rfl), w⟩
/-- A map that can be read, whose values are rows that can be read. -/
def MrR {α : Type} (E : ER α) (ik : IntKind) (H : Heap) (b : Nat) (f : Int → List α) : Prop := ∃ es ck m, H b = some (.map es ck) ∧ MapIs ik es m ∧ ∀ j, RdS E H ((mget m j).getD (.slice none 0 0)) (f j)
theorem MrR.mono {α : Type} {E : ER α} {ik : IntKind} {H H' : Heap} {b : Nat} {f : Int → List α} (h : MrR E ik H b f) (hl : HLe H H') : MrR E ik H' b f := by
  obtain ⟨es, ck, m, h1, h2, h3⟩ := h
  exact ⟨es, ck, m, hl _ _ h1, h2, fun j => (h3 j).mono hl⟩
section
variable {fr : Fr} {x : Cx} {Q : Post} {σ : Env} {H : Heap} {L : Own} {ds : List Nat} {ol rest : List Oper}
variable {d : Nat} {ty : TypeId} {p : String} {af : Array Edge} {g : Option (Nat × Bool)}
theorem R.lkuVH {β : Type} {f : β → Value} {t kt et : TypeId} {M K : Operand} {b : Nat} {m : List (Int × β)} {ik : IntKind} {k : Int} {z : Value} {z0 : β} (hm : fr.P.underlying t = some (.map kt et)) (hk : fr.P.underlying kt = some (.int ik)) (hz : ∀ w, (zeroValue et).run fr.P w = .ok z w) (hz0 : z = f z0)
    (hw : wan fr.N ol σ d g = true) (hM : ev σ M = .map (some b)) (hK : ev σ K = .int ik k) (hi : MpR ik f H b m)
    (h : TL fr x ol rest Q (upd σ d (f ((mlk m k).getD z0))) H L ds) : TL fr x ol (⟨some d, .lookup t M K false, ty, p, af, g⟩ :: rest) Q σ H L ds := by
  obtain ⟨es, ck, h1, h2⟩ := hi
  refine R.lkuH hm hk hz hw hM hK h1 h2 ?_
  have e : (mget (m.map (fun q => (q.1, f q.2))) k).getD z = f ((mlk m k).getD z0) := by
    rw [mget_map, hz0]; cases mlk m k <;> rfl
  rw [e]; exact h
theorem R.lkuR {α : Type} {E : ER α} {t kt et : TypeId} {M K : Operand} {b : Nat} {m : Int → List α} {ik : IntKind} {k : Int} (hm : fr.P.underlying t = some (.map kt et)) (hk : fr.P.underlying kt = some (.int ik)) (hz : ∀ w, (zeroValue et).run fr.P w = .ok (.slice none 0 0) w)
    (hw : wan fr.N ol σ d g = true) (hM : ev σ M = .map (some b)) (hK : ev σ K = .int ik k) (hi : MrR E ik H b m)
    (h : ∀ v, RdS E H v (m k) → TL fr x ol rest Q (upd σ d v) H L ds) : TL fr x ol (⟨some d, .lookup t M K false, ty, p, af, g⟩ :: rest) Q σ H L ds := by
  obtain ⟨es, ck, ms, h1, h2, h3⟩ := hi
  exact R.lkuH hm hk hz hw hM hK h1 h2 (h _ (h3 k))
end
end Go.SX

set_option linter.unusedVariables false
set_option linter.unusedSimpArgs false
namespace Go.SX
open Go Go.Sort
attribute [local semireducible] T TL
theorem compact_len (xs : List Int) : (Lib.compact xs).length ≤ xs.length := by
  unfold Lib.compact Lib.compactUpTo
  rw [List.length_map]
  have := List.length_filter_le (Lib.keeps xs.toArray) (List.range xs.length)
  rwa [List.length_range] at this
theorem compact_two (x y : Int) : Lib.compact [x, y] = if x = y then [x] else [x, y] := by
  unfold Lib.compact Lib.compactUpTo
  by_cases h : x = y
  · subst h; rw [if_pos rfl]; simp [List.range, List.range.loop, Lib.keeps]
  · rw [if_neg h]
    have h' : ¬ y = x := fun e => h e.symm
    simp [List.range, List.range.loop, Lib.keeps, h']
theorem compact_fc {P : Program} {f : FuncId} {fn : Func} {cd : Code} {e : TypeId} (hf : P.funcs[f]? = some fn) (hb : fn.body = some cd) (hname : (fn.name == "runtime.NumGoroutine") = false)
    (hcon : ∀ (blk off cap : Nat) (zs : List Int) (w : World), Holds (Value.int .i64) w blk off zs.toArray → zs.length ≤ 9223372036854775807 → zs.length ≤ cap →
      Calls P f #[.slice (some ⟨blk, off, none⟩) zs.length cap] w fun e w' => e = .returned (.slice (some ⟨blk, off, none⟩) (Lib.compact zs).length cap) ∧ ∃ q, w' = putRow (Value.int .i64) (Sort.ahead w q) blk off (Lib.compact zs ++ List.replicate (zs.length - (Lib.compact zs).length) 0).toArray)
    {H : Heap} {v : Value} {xs : List Int} {c : Chunk} (ho : OwnS (intE .i64) e H v xs c) (hne : xs ≠ []) (hl : xs.length ≤ 1099511627776) :
    Fc P (fnv f) [v] H [c] (fun v' H' L' => ∃ c', v' = v' ∧ L' = [c'] ∧ OwnS (intE .i64) e H' v' (Lib.compact xs) c') := by
  rcases ho with ⟨_, h, _⟩ | ⟨b, cap, cs, rfl, rfl, h3, h4, h5, h6⟩
  · exact absurd h hne
  intro w hs
  have hs' : Sat H [(b, .cells cs e)] w := by simpa using hs
  have hbl := hs'.l (b, .cells cs e) (List.mem_singleton.2 rfl)
  simp only at hbl
  have hcs : cap ≤ cs.size := by have : cap * 1 ≤ cs.size := h5; omega
  have hcell : ∀ (i : Nat) x, xs[i]? = some x → cs[i]? = some (.int .i64 x) := fun i x hx => by
    obtain ⟨l, h7, h8⟩ := h6 i x hx
    obtain rfl : l = [.int .i64 x] := h7
    have := h8 0 _ rfl
    simpa [intE] using this
  have htk : cs.toList.take xs.length = xs.map (Value.int .i64) := by
    apply List.ext_getElem?
    intro i
    by_cases hi : i < xs.length
    · rw [List.getElem?_take_of_lt hi, Array.getElem?_toList, hcell i _ (List.getElem?_eq_getElem hi)]
      simp [hi]
    · rw [List.getElem?_take_eq_none (by omega), List.getElem?_eq_none (by simp; omega)]
  have hH := holds_of_blockI hbl htk
  have he := Go.Proofs.enters_of (P := P) hf hname hb #[.slice (some ⟨b, 0, none⟩) xs.length cap] w
  refine ⟨.enter f #[.slice (some ⟨b, 0, none⟩) xs.length cap], w, by simp [Deferred.ofValue, invoke, he], ?_⟩
  refine CallsIn.mono (callsIn_wide.2 (hcon b 0 cap xs w hH (by omega) h3)) ?_
  rintro e' w' ⟨rfl, n, rfl⟩
  have hlc : (Lib.compact xs).length ≤ xs.length := compact_len xs
  obtain ⟨ys, hys⟩ : ∃ ys, ys = Lib.compact xs ++ List.replicate (xs.length - (Lib.compact xs).length) 0 := ⟨_, rfl⟩
  rw [← hys]
  have hlen : ys.length = xs.length := by rw [hys, List.length_append, List.length_replicate]; omega
  have hnew := heap_sortedI (n := n) (os := #[]) ys.toArray hbl
  have hg := grownBy_sortedI (w := w) (g := b) (n := n) (os := #[]) ys.toArray
  rw [grow_empty] at hnew hg
  refine ⟨_, H, [[(b, .cells (putCells (Value.int .i64) 0 ys.toArray cs) e)]], rfl, ?_, _, rfl, rfl, ?_⟩
  · obtain ⟨g1, g2, g3, g4, g5⟩ := hg
    refine ⟨⟨fun b' o hb' => ?_, fun q hq => ?_, by simp [keys], fun q hq => ?_⟩, ⟨g1, g2, g3, g4, fun b' h1 h2 => g5 b' h1 (fun x => h2 (by cases x; simp [keys])), Nat.le_add_right _ _⟩, HLe.refl _, fun b' o h1 h2 => ?_, fun b' hb' => ?_⟩
    · have hne' : b' ≠ b := fun x => by
        have := hs'.dj (b, .cells cs e) (List.mem_singleton.2 rfl)
        subst x; rw [hb'] at this; cases this
      have hw := hs'.h b' o hb'
      exact (g5 b' (heap_lt hw) (fun x => hne' (by cases x; rfl))).trans hw
    · simp at hq; subst hq; exact hnew
    · simp at hq; subst hq
      exact hs'.dj (b, .cells cs e) (List.mem_singleton.2 rfl)
    · have : H b' = some o := h1
      have h2' : H b' = none := h2
      rw [this] at h2'; cases h2'
    · left; simpa [keys] using hb'
  · have hsz : (putCells (Value.int .i64) 0 ys.toArray cs).size = cs.size := by simp [putCells]
    refine .inr ⟨b, cap, putCells (Value.int .i64) 0 ys.toArray cs, rfl, rfl, by omega, h4, by rw [hsz]; exact h5, fun i x hx => ⟨[.int .i64 x], rfl, fun j u hj => ?_⟩⟩
    have hj0 : j = 0 := by have := (List.getElem?_eq_some_iff.1 hj).1; simpa using this
    subst hj0
    simp at hj
    subst hj
    have ht := take_putCellsI cs ys (by rw [hlen]; exact Nat.le_trans h3 hcs)
    have hi0 := (List.getElem?_eq_some_iff.1 hx).1
    have hi : i < ys.length := by omega
    have hx : ys[i]? = some x := by rw [hys, List.getElem?_append_left hi0]; exact hx
    have h9 : ((putCells (Value.int .i64) 0 ys.toArray cs).toList.take ys.length)[i]? = (ys.map (Value.int .i64))[i]? := by rw [ht]
    rw [List.getElem?_take_of_lt hi, Array.getElem?_toList, List.getElem?_map, hx] at h9
    show (putCells (Value.int .i64) 0 ys.toArray cs)[i * 1 + 0]? = _
    rw [Nat.mul_one, Nat.add_zero, h9]; rfl
end Go.SX

namespace Go.Proofs
open Go.Shelf
def Tryz.lays20_ren : Go.Shelf.Ren := ⟨fun | 20 => 81 | n => n, fun | 22 => 30 | 3 => 3 | 4 => 4 | 0 => 0 | n => n, fun | n => n⟩
theorem Tryz.lays20 : Go.Proofs.Lays2.n20 Tryz.prog Tryz.lays20_ren := {
  mixed := by kernel_rfl
  f20 := Tryz.func81.trans (congrArg some (by kernel_rfl))
  t0 := Tryz.underlying0
  a0 := Tryz.isAgg0
  z0 := Tryz.sizeOf0
  v0 := Tryz.zeroValue0
  t3 := Tryz.underlying3
  a3 := Tryz.isAgg3
  z3 := Tryz.sizeOf3
  v3 := Tryz.zeroValue3
  t4 := Tryz.underlying4
  a4 := Tryz.isAgg4
  z4 := Tryz.sizeOf4
  v4 := Tryz.zeroValue4
  t22 := Tryz.underlying30
  a22 := Tryz.isAgg30
  z22 := Tryz.sizeOf30
  v22 := Tryz.zeroValue30
  i3 := by kernel_rfl }
end Go.Proofs

set_option linter.unusedVariables false
set_option linter.unusedSimpArgs false
namespace Go.SX
open Go Go.Proofs

/-- slices.Compact at two -/
def cmp2 (l : List Int) : List Int := Lib.compact l
theorem cmp2_eq (l : List Int) : cmp2 l = Lib.compact l := rfl
theorem compact_c (H : Heap) (v : Value) (xs : List Int) (ch : Chunk) (ho : OwnS (intE .i64) 3 H v xs ch) (hne : xs ≠ []) (hl : xs.length ≤ 1099511627776) : Fc Tryz.prog (fnv 81) [v] H [ch] (fun v' H' L' => ∃ c', v' = v' ∧ L' = [c'] ∧ OwnS (intE .i64) 3 H' v' (Lib.compact xs) c') :=
  compact_fc Tryz.func81 rfl (by kernel_rfl) (fun blk off cap zs w h1 h2 h3 => Any.slices_Compact_int Tryz.lays20 blk off cap zs w h1 h2 h3) ho hne hl
theorem midI {i j : Int} (h0 : 0 ≤ i) (h1 : i < j) (h2 : j ≤ 2000000) : IntKind.i64.wrap (bshr .u64 (IntKind.u64.wrap (i + j)) 1) = (i + j) / 2 := by
  have e1 : IntKind.u64.wrap (i + j) = i + j := wrap_u64 ⟨by omega, by omega⟩
  have e2 : bshr .u64 (i + j) 1 = (i + j) / 2 := by
    show (i + j).fdiv (2 ^ (min (1 : Int).toNat 64)) = _
    rw [Int.fdiv_eq_ediv_of_nonneg _ (by decide)]; rfl
  rw [e1, e2, wrap_i64 (by omega) (by omega)]
def trait_index_m (a0 : Int) : Bool :=
  if (1 : Int) ≤ a0 then ((decide (a0 ≤ 1048578))) else false
set_option maxHeartbeats 3200000 in
theorem trait_index_c (H : Heap) (a0 : Int) : Fv Tryz.prog (fnv 63) [.int .i64 a0] H (.bool (trait_index_m a0)) := by
  refine Fc.of_body (N := 9) Tryz.func63 rfl (by kernel_rfl) rfl rfl ?_
  intro w0
  refine T.seq ?_
  refine T.region ?_
  refine R.asE rfl (by conv => lhs; whnf) ?_
  refine TL.nil (Post.thnN ?_)
  refine T.seq ?_
  refine T.region ?_
  refine R.mvE rfl (by conv => lhs; whnf) ?_
  refine R.geq rfl rfl rfl ?_
  refine R.mvE rfl (by conv => lhs; whnf) ?_
  refine TL.gsplitD 5 rfl (fun g5 => ?_) (fun g5 => ?_)
  · refine R.mvE rfl (by conv => lhs; whnf) ?_
    refine R.leq rfl rfl rfl ?_
    refine R.pkTE rfl rfl (by conv => lhs; whnf) ?_
    refine R.asE rfl (by conv => lhs; whnf) ?_
    refine TL.nil (Post.thnN ?_)
    refine T.has Has.nil ?_
    refine T.ret ?_
    have hM : trait_index_m a0 = (decide (a0 ≤ 1048578)) := by rw [trait_index_m, if_pos g5]
    exact fin1L (v := .bool (decide (a0 ≤ 1048578))) [] rfl rfl (List.Sublist.refl _) ⟨rfl, by first | rw [hM] | rfl⟩
  · refine TL.off rfl rfl rfl ?_
    refine TL.off rfl rfl rfl ?_
    refine R.pkFE rfl rfl (by conv => lhs; whnf) ?_
    refine R.asE rfl (by conv => lhs; whnf) ?_
    refine TL.nil (Post.thnN ?_)
    refine T.has Has.nil ?_
    refine T.ret ?_
    have hM : trait_index_m a0 = false := by rw [trait_index_m, if_neg g5]
    exact fin1L (v := .bool false) [] rfl rfl (List.Sublist.refl _) ⟨rfl, by first | rw [hM] | rfl⟩

def trait_May_1_m (a0 : Int) : Bool :=
  if (0 : Int) ≤ a0 then ((decide (a0 ≤ 2))) else false
set_option maxHeartbeats 3200000 in
theorem trait_May_1_c (H : Heap) (a0 : Int) : Fv Tryz.prog (fnv 89) [.int .i64 a0] H (.bool (trait_May_1_m a0)) := by
  refine Fc.of_body (N := 9) Tryz.func89 rfl (by kernel_rfl) rfl rfl ?_
  intro w0
  refine T.seq ?_
  refine T.region ?_
  refine R.asE rfl (by conv => lhs; whnf) ?_
  refine TL.nil (Post.thnN ?_)
  refine T.seq ?_
  refine T.region ?_
  refine R.mvE rfl (by conv => lhs; whnf) ?_
  refine R.geq rfl rfl rfl ?_
  refine R.mvE rfl (by conv => lhs; whnf) ?_
  refine TL.gsplitD 5 rfl (fun g5 => ?_) (fun g5 => ?_)
  · refine R.mvE rfl (by conv => lhs; whnf) ?_
    refine R.leq rfl rfl rfl ?_
    refine R.pkTE rfl rfl (by conv => lhs; whnf) ?_
    refine R.asE rfl (by conv => lhs; whnf) ?_
    refine TL.nil (Post.thnN ?_)
    refine T.has Has.nil ?_
    refine T.ret ?_
    have hM : trait_May_1_m a0 = (decide (a0 ≤ 2)) := by rw [trait_May_1_m, if_pos g5]
    exact fin1L (v := .bool (decide (a0 ≤ 2))) [] rfl rfl (List.Sublist.refl _) ⟨rfl, by first | rw [hM] | rfl⟩
  · refine TL.off rfl rfl rfl ?_
    refine TL.off rfl rfl rfl ?_
    refine R.pkFE rfl rfl (by conv => lhs; whnf) ?_
    refine R.asE rfl (by conv => lhs; whnf) ?_
    refine TL.nil (Post.thnN ?_)
    refine T.has Has.nil ?_
    refine T.ret ?_
    have hM : trait_May_1_m a0 = false := by rw [trait_May_1_m, if_neg g5]
    exact fin1L (v := .bool false) [] rfl rfl (List.Sublist.refl _) ⟨rfl, by first | rw [hM] | rfl⟩

def trait_May_m (a0 : Bool × Bool × Int × Int × Int) : Int :=
  LR.seq (if a0.2.2.1 < 0 then true else ((decide ((4 : Int) < a0.2.2.1))) : Bool) (fun sc1 => if sc1 = true then 231 else (LR.seq (if (!(trait_May_1_m a0.2.2.2.1)) = true then true else ((!(trait_May_1_m a0.2.2.2.2))) : Bool) (fun sc2 => if sc2 = true then 2 else 0)))
set_option maxHeartbeats 3200000 in
theorem trait_May_c (H : Heap) (a0 : Bool × Bool × Int × Int × Int) : Fv Tryz.prog (fnv 64) [.agg #[.bool a0.1, .bool a0.2.1, .int .i64 a0.2.2.1, .int .i64 a0.2.2.2.1, .int .i64 a0.2.2.2.2]] H (.int .i64 (trait_May_m a0)) := by
  refine Fc.of_body (N := 26) Tryz.func64 rfl (by kernel_rfl) rfl rfl ?_
  intro w0
  refine T.seq ?_
  refine T.region ?_
  refine R.box rfl (by conv => lhs; whnf) ?_
  intro b1
  refine R.asE rfl (by conv => lhs; whnf) ?_
  refine TL.shut .hd ?_
  intro Hb1_1 sb1_1 qb1_1
  have hb1_1 : Hb1_1 b1 = some (.cells #[.bool (a0.1), .bool (a0.2.1), .int .i64 (a0.2.2.1), .int .i64 (a0.2.2.2.1), .int .i64 (a0.2.2.2.2)] 53) := shut1 qb1_1
  refine TL.nil (Post.thnN ?_)
  refine T.seq ?_
  refine T.region ?_
  refine R.asE rfl (by conv => lhs; whnf) ?_
  refine TL.nil (Post.thnN ?_)
  refine T.seq ?_
  refine T.block ?_
  refine T.seq ?_
  refine T.cutK (ι := Bool) (fun b4c1 H' L' ds' => Has L' [] ∧ (if a0.2.2.1 < 0 then true else ((decide ((4 : Int) < a0.2.2.1))) : Bool) = b4c1) (fun b4c1 => [(1, .pointer (some ⟨b1, 0, none⟩)), (3, .func (.func 89) #[] #[]), (4, .bool (b4c1))]) ?_ ?_
  · refine T.region ?_
    refine R.fldA Tryz.underlying53 rfl Tryz.sizeOf3 (by decide) rfl rfl ?_
    refine R.ldH Tryz.isAgg3 rfl rfl hb1_1 rfl ?_
    refine R.lss rfl rfl rfl ?_
    refine R.mvE rfl (by conv => lhs; whnf) ?_
    refine TL.gsplitD 8 rfl (fun g8 => ?_) (fun g8 => ?_)
    · refine TL.off rfl rfl rfl ?_
      refine TL.off rfl rfl rfl ?_
      refine TL.off rfl rfl rfl ?_
      refine R.pkTE rfl rfl (by conv => lhs; whnf) ?_
      refine R.asE rfl (by conv => lhs; whnf) ?_
      refine TL.nil (Post.thnN ?_)
      exact ⟨true, HLe.refl _, ⟨Has.nil, (by rw [if_pos g8])⟩, rfl, rfl, rfl, trivial⟩
    · refine R.fldA Tryz.underlying53 rfl Tryz.sizeOf3 (by decide) rfl rfl ?_
      refine R.ldH Tryz.isAgg3 rfl rfl hb1_1 rfl ?_
      refine R.gtr rfl rfl rfl ?_
      refine R.pkFE rfl rfl (by conv => lhs; whnf) ?_
      refine R.asE rfl (by conv => lhs; whnf) ?_
      refine TL.nil (Post.thnN ?_)
      exact ⟨(decide ((4 : Int) < a0.2.2.1)), HLe.refl _, ⟨Has.nil, (by rw [if_neg g8])⟩, rfl, rfl, rfl, trivial⟩
  · intro b4c1 σ_c1 H_c1 L_c1 ds_c1 s_c1 hI_c1
    obtain ⟨hLc1, hTc1⟩ := hI_c1
    refine T.has hLc1 ?_
    refine T.cond rfl (fun c4 => ?_) (fun c4 => ?_)
    · refine T.set 4 (.bool true) (congrArg Value.bool c4) ?_
      have hZ4 := hTc1.trans c4
      try simp only [or_f, or_t, and_f, and_t, decide_eq_true_eq, decide_eq_false_iff_not, Bool.not_eq_true'] at hZ4
      refine T.seq ?_
      refine T.region ?_
      refine R.asE rfl (by conv => lhs; whnf) ?_
      refine TL.nil (Post.thnN ?_)
      refine T.has Has.nil ?_
      refine T.ret (Post.blkR (Post.thnR ?_))
      have hM : trait_May_m a0 = 231 := by rw [trait_May_m, hTc1, LR.seq_go, if_t c4]
      exact fin1L (v := .int .i64 231) [] rfl rfl (List.Sublist.refl _) ⟨rfl, by first | rw [hM] | rfl⟩
    · refine T.set 4 (.bool false) (congrArg Value.bool c4) ?_
      have hZ4 := hTc1.trans c4
      try simp only [or_f, or_t, and_f, and_t, decide_eq_true_eq, decide_eq_false_iff_not, Bool.not_eq_true'] at hZ4
      refine T.seq ?_
      refine T.cutK (ι := Bool) (fun b13c2 H' L' ds' => Has L' [] ∧ (if (!(trait_May_1_m a0.2.2.2.1)) = true then true else ((!(trait_May_1_m a0.2.2.2.2))) : Bool) = b13c2) (fun b13c2 => [(13, .bool (b13c2))]) ?_ ?_
      · refine T.region ?_
        refine R.mvE rfl (by conv => lhs; whnf) ?_
        refine R.fldA Tryz.underlying53 rfl Tryz.sizeOf3 (by decide) rfl rfl ?_
        refine R.ldH Tryz.isAgg3 rfl rfl (s_c1 _ _ hb1_1) rfl ?_
        refine R.callv rfl rfl rfl (trait_May_1_c _ (a0.2.2.2.1)) ?_
        refine R.not rfl rfl ?_
        refine R.mvE rfl (by conv => lhs; whnf) ?_
        refine TL.gsplit 19 rfl (fun g19 => ?_) (fun g19 => ?_)
        · refine TL.off rfl rfl rfl ?_
          refine TL.off rfl rfl rfl ?_
          refine TL.off rfl rfl rfl ?_
          refine TL.off rfl rfl rfl ?_
          refine TL.off rfl rfl rfl ?_
          refine R.pkTE rfl rfl (by conv => lhs; whnf) ?_
          refine R.asE rfl (by conv => lhs; whnf) ?_
          refine TL.nil (Post.thnN ?_)
          exact ⟨true, HLe.refl _, ⟨Has.nil, (by rw [if_t g19])⟩, rfl, trivial⟩
        · refine R.mvE rfl (by conv => lhs; whnf) ?_
          refine R.fldA Tryz.underlying53 rfl Tryz.sizeOf3 (by decide) rfl rfl ?_
          refine R.ldH Tryz.isAgg3 rfl rfl (s_c1 _ _ hb1_1) rfl ?_
          refine R.callv rfl rfl rfl (trait_May_1_c _ (a0.2.2.2.2)) ?_
          refine R.not rfl rfl ?_
          refine R.pkFE rfl rfl (by conv => lhs; whnf) ?_
          refine R.asE rfl (by conv => lhs; whnf) ?_
          refine TL.nil (Post.thnN ?_)
          exact ⟨(!(trait_May_1_m a0.2.2.2.2)), HLe.refl _, ⟨Has.nil, (by rw [if_f g19])⟩, rfl, trivial⟩
      · intro b13c2 σ_c2 H_c2 L_c2 ds_c2 s_c2 hI_c2
        obtain ⟨hLc2, hTc2⟩ := hI_c2
        refine T.has hLc2 ?_
        refine T.cond rfl (fun c13 => ?_) (fun c13 => ?_)
        · refine T.set 13 (.bool true) (congrArg Value.bool c13) ?_
          have hZ13 := hTc2.trans c13
          try simp only [or_f, or_t, and_f, and_t, decide_eq_true_eq, decide_eq_false_iff_not, Bool.not_eq_true'] at hZ13
          refine T.seq ?_
          refine T.region ?_
          refine R.asE rfl (by conv => lhs; whnf) ?_
          refine TL.nil (Post.thnN ?_)
          refine T.has Has.nil ?_
          refine T.ret (Post.blkR (Post.thnR ?_))
          have hM : trait_May_m a0 = 2 := by rw [trait_May_m, hTc1, LR.seq_go, if_f c4, hTc2, LR.seq_go, if_t c13]
          exact fin1L (v := .int .i64 2) [] rfl rfl (List.Sublist.refl _) ⟨rfl, by first | rw [hM] | rfl⟩
        · refine T.set 13 (.bool false) (congrArg Value.bool c13) ?_
          have hZ13 := hTc2.trans c13
          try simp only [or_f, or_t, and_f, and_t, decide_eq_true_eq, decide_eq_false_iff_not, Bool.not_eq_true'] at hZ13
          refine T.skip (Post.blkN ?_)
          refine id (Post.thnN ?_)
          refine T.seq ?_
          refine T.region ?_
          refine R.asE rfl (by conv => lhs; whnf) ?_
          refine TL.nil (Post.thnN ?_)
          refine T.has Has.nil ?_
          refine T.ret ?_
          have hM : trait_May_m a0 = 0 := by rw [trait_May_m, hTc1, LR.seq_go, if_f c4, hTc2, LR.seq_go, if_f c13]
          exact fin1L (v := .int .i64 0) [] rfl rfl (List.Sublist.refl _) ⟨rfl, by first | rw [hM] | rfl⟩

def trait_all_Relation_l1 (a1 : Int → (Int × (Bool × Bool × Int × Int × Int)) → Bool) : List (Int × (Bool × Bool × Int × Int × Int)) → Nat → Unit → LR (Bool) (Unit)
  | [], kl1, sl1 => .go ()
  | yl1 :: ysl1, kl1, sl1 => if (!(a1 ((kl1 : Int)) yl1)) = true then (.ret false) else (trait_all_Relation_l1 a1 ysl1 (kl1 + 1) ())
def trait_all_Relation_m (a0 : List (Int × (Bool × Bool × Int × Int × Int))) (a1 : Int → (Int × (Bool × Bool × Int × Int × Int)) → Bool) : Bool :=
  LR.on (trait_all_Relation_l1 a1 a0 0 ()) (fun r => r) (fun ol1 => true)
set_option maxHeartbeats 3200000 in
theorem trait_all_Relation_c (H : Heap) (va0 : Value) (a0 : List (Int × (Bool × Bool × Int × Int × Int))) (ha0 : RdS relationE H va0 a0) (fa1 : Value) (a1 : Int → (Int × (Bool × Bool × Int × Int × Int)) → Bool) (ha1 : ∀ H', HLe H H' → ∀ (z0 : Int) (z1 : Int × (Bool × Bool × Int × Int × Int)), (∃ k : Nat, z0 = k ∧ a0[k]? = some z1) → Fv Tryz.prog fa1 [.int .i64 z0, .agg #[.int .i64 z1.1, .bool z1.2.1, .bool z1.2.2.1, .int .i64 z1.2.2.2.1, .int .i64 z1.2.2.2.2.1, .int .i64 z1.2.2.2.2.2]] H' (.bool (a1 z0 z1))) : Fv Tryz.prog (fnv 61) [va0, fa1] H (.bool (trait_all_Relation_m a0 a1)) := by
  refine Fc.of_body (N := 20) Tryz.func61 rfl (by kernel_rfl) rfl rfl ?_
  intro w0
  obtain ⟨Aa0, ca0, rfl, hca0, hda0, ha0⟩ := ha0.shape
  refine T.seq ?_
  refine T.region ?_
  refine R.asE rfl (by conv => lhs; whnf) ?_
  refine TL.nil (Post.thnN ?_)
  refine T.seq ?_
  refine T.seq ?_
  refine T.region ?_
  refine R.mvE rfl (by conv => lhs; whnf) ?_
  refine R.len Tryz.underlying22 rfl rfl ?_
  refine R.mvE rfl (by conv => lhs; whnf) ?_
  refine TL.nil (Post.thnN ?_)
  refine T.block ?_
  refine T.loop (ι := Nat) (fun kl1 H' L' ds' => kl1 ≤ a0.length ∧ Has L' [] ∧ trait_all_Relation_l1 a1 (a0.drop kl1) kl1 () = trait_all_Relation_l1 a1 a0 0 ()) (fun kl1 => [(9, .int .i64 (kl1 : Int)), (1, fa1), (7, .slice Aa0 a0.length ca0), (8, .int .i64 (a0.length : Int))]) (fun kl1 => a0.length - kl1) 0 ?_ ?_ ?_
  · exact ⟨(by omega), Has.nil, (by rfl)⟩
  · exact ⟨rfl, rfl, rfl, rfl, trivial⟩
  · intro kl1 σ_l1 H_l1 L_l1 ds_l1 s_l1 hI_l1
    obtain ⟨hkl1, hI_l1⟩ := hI_l1
    obtain ⟨hLl1, hQl1⟩ := hI_l1
    refine T.has hLl1 ?_
    refine T.seq ?_
    refine T.region ?_
    refine R.lss rfl rfl rfl ?_
    refine TL.nil (Post.thnN ?_)
    refine T.seq ?_
    refine T.condD rfl (fun c10 => ?_) (fun c10 => ?_)
    · have hltl1 : kl1 < a0.length := by omega
      obtain ⟨yl1, hyl1⟩ := getk (xs := a0) (k := kl1) (by omega)
      refine T.skip (Post.thnN ?_)
      refine T.seq ?_
      refine T.block ?_
      refine T.seq ?_
      refine T.region ?_
      refine R.mvE rfl (by conv => lhs; whnf) ?_
      obtain ⟨b12, o12, i12, k12⟩ := RdS.elem (ha0.mono s_l1) hyl1
      obtain ⟨l12, g12, k12⟩ := k12
      obtain rfl : l12 = [.int .i64 (yl1.1), .bool (yl1.2.1), .bool (yl1.2.2.1), .int .i64 (yl1.2.2.2.1), .int .i64 (yl1.2.2.2.2.1), .int .i64 (yl1.2.2.2.2.2)] := g12
      refine R.ixp Tryz.underlying22 Tryz.sizeOf55 rfl rfl rfl (by omega) i12 ?_
      refine R.ldK (l := [.int .i64 (yl1.1), .bool (yl1.2.1), .bool (yl1.2.2.1), .int .i64 (yl1.2.2.2.1), .int .i64 (yl1.2.2.2.2.1), .int .i64 (yl1.2.2.2.2.2)]) Tryz.isAgg55 Tryz.sizeOf55 rfl rfl k12 rfl ?_
      refine R.alloc Tryz.zeroValue55 rfl ?_
      intro b6
      refine R.asE rfl (by conv => lhs; whnf) ?_
      refine R.stX (old := [.int .i64 0, .bool false, .bool false, .int .i64 0, .int .i64 0, .int .i64 0]) (l := [.int .i64 (yl1.1), .bool (yl1.2.1), .bool (yl1.2.2.1), .int .i64 (yl1.2.2.2.1), .int .i64 (yl1.2.2.2.2.1), .int .i64 (yl1.2.2.2.2.2)]) (new := [.int .i64 (yl1.1), .bool (yl1.2.1), .bool (yl1.2.2.1), .int .i64 (yl1.2.2.2.1), .int .i64 (yl1.2.2.2.2.1), .int .i64 (yl1.2.2.2.2.2)]) (et := 55) Tryz.sizeOf55 rfl rfl rfl rfl rfl (by show 0 + 6 ≤ 6; decide) rfl (all_one rfl) .hd ?_
      refine TL.shut .hd ?_
      intro Hb6_1 sb6_1 qb6_1
      have hb6_1 : Hb6_1 b6 = some (.cells #[.int .i64 (yl1.1), .bool (yl1.2.1), .bool (yl1.2.2.1), .int .i64 (yl1.2.2.2.1), .int .i64 (yl1.2.2.2.2.1), .int .i64 (yl1.2.2.2.2.2)] 55) := shut1 qb6_1
      refine TL.nil (Post.thnN ?_)
      refine T.seq ?_
      refine T.region ?_
      refine R.mvE rfl (by conv => lhs; whnf) ?_
      refine R.mvE rfl (by conv => lhs; whnf) ?_
      refine R.ldXH (cs := [.int .i64 (yl1.1), .bool (yl1.2.1), .bool (yl1.2.2.1), .int .i64 (yl1.2.2.2.1), .int .i64 (yl1.2.2.2.2.1), .int .i64 (yl1.2.2.2.2.2)]) (l := [.int .i64 (yl1.1), .bool (yl1.2.1), .bool (yl1.2.2.1), .int .i64 (yl1.2.2.2.1), .int .i64 (yl1.2.2.2.2.1), .int .i64 (yl1.2.2.2.2.2)]) Tryz.isAgg55 Tryz.sizeOf55 rfl rfl hb6_1 rfl rfl ?_
      refine R.callv rfl rfl rfl (ha1 _ (s_l1.trans sb6_1) ((kl1 : Int)) yl1 (by exact ⟨kl1, rfl, hyl1⟩)) ?_
      refine R.not rfl rfl ?_
      refine TL.nil (Post.thnN ?_)
      refine T.cond rfl (fun c18 => ?_) (fun c18 => ?_)
      · refine T.set 18 (.bool true) (congrArg Value.bool c18) ?_
        refine T.seq ?_
        refine T.region ?_
        refine R.asE rfl (by conv => lhs; whnf) ?_
        refine TL.nil (Post.thnN ?_)
        refine T.has Has.nil ?_
        refine T.ret (Post.blkR (Post.thnR (Post.thnR (Post.blkR (Post.thnR ?_)))))
        have hXl1 : trait_all_Relation_l1 a1 a0 0 () = .ret false := by rw [← hQl1, drop_cons hyl1, trait_all_Relation_l1]; rw [if_t c18]
        have hM : trait_all_Relation_m a0 a1 = false := by rw [trait_all_Relation_m, hXl1, LR.on_ret]
        exact fin1L (v := .bool false) [] rfl rfl (List.Sublist.refl _) ⟨rfl, by first | rw [hM] | rfl⟩
      · refine T.set 18 (.bool false) (congrArg Value.bool c18) ?_
        refine T.skip (Post.blkN ?_)
        refine id (Post.thnN ?_)
        refine T.region ?_
        refine R.addI rfl rfl rfl (by omega) ?_
        refine R.mvE rfl (by conv => lhs; whnf) ?_
        refine TL.nil (Post.thnN ?_)
        exact ⟨kl1 + 1, (s_l1.trans sb6_1), ⟨(by omega), Has.nil, (by rw [← hQl1, drop_cons hyl1, trait_all_Relation_l1]; rw [if_f c18])⟩, by show a0.length - (kl1 + 1) < a0.length - kl1; omega, rfl, rfl, rfl, rfl, trivial⟩
    · refine T.exit (Post.thnE (Post.thnE (Post.blkX ?_)))
      have hEl1 : trait_all_Relation_l1 a1 a0 0 () = .go () := (hQl1.symm.trans (by rw [show kl1 = a0.length by omega, List.drop_length, trait_all_Relation_l1]))
      refine id (Post.thnN ?_)
      refine T.seq ?_
      refine T.region ?_
      refine R.asE rfl (by conv => lhs; whnf) ?_
      refine TL.nil (Post.thnN ?_)
      refine T.has Has.nil ?_
      refine T.ret ?_
      have hM : trait_all_Relation_m a0 a1 = true := by rw [trait_all_Relation_m, hEl1, LR.on_go]
      exact fin1L (v := .bool true) [] rfl rfl (List.Sublist.refl _) ⟨rfl, by first | rw [hM] | rfl⟩

def trait_Check_1_m (q0 : List (Int × (Bool × Bool × Int × Int × Int))) (a0 : Int) (a1 : Int × (Bool × Bool × Int × Int × Int)) : Bool :=
  if (2 : Int) ≤ a0 then (if (trait_index_m a1.1) = true then (if ((trait_May_m a1.2) : Int) = 0 then (if a0 = 0 then true else ((decide ((q0.getD (((a0 - 1)).toNat) (((0, (false, false, 0, 0, 0)) : Int × (Bool × Bool × Int × Int × Int)) : Int × (Bool × Bool × Int × Int × Int))).1 < a1.1)))) else false) else false) else (if (a1 : Int × (Bool × Bool × Int × Int × Int)) = (([((1, (true, true, 0, 1, 2)) : Int × (Bool × Bool × Int × Int × Int)), ((2, (true, false, 0, 0, 2)) : Int × (Bool × Bool × Int × Int × Int))] : List (Int × (Bool × Bool × Int × Int × Int))).getD a0.toNat (((0, (false, false, 0, 0, 0)) : Int × (Bool × Bool × Int × Int × Int)) : Int × (Bool × Bool × Int × Int × Int))) then (if (trait_index_m a1.1) = true then (if ((trait_May_m a1.2) : Int) = 0 then (if a0 = 0 then true else ((decide ((q0.getD (((a0 - 1)).toNat) (((0, (false, false, 0, 0, 0)) : Int × (Bool × Bool × Int × Int × Int)) : Int × (Bool × Bool × Int × Int × Int))).1 < a1.1)))) else false) else false) else false)
set_option maxHeartbeats 3200000 in
theorem trait_Check_1_c (H : Heap) {tG0 : TypeId} (hG0 : H 0 = some (.cells #[.int .i64 1, .bool true, .bool true, .int .i64 0, .int .i64 1, .int .i64 2, .int .i64 2, .bool true, .bool false, .int .i64 0, .int .i64 0, .int .i64 2] tG0)) (b1000 : Nat) (vq0 : Value) (q0 : List (Int × (Bool × Bool × Int × Int × Int))) (hq0 : RdS relationE H vq0 q0) (hb0 : H b1000 = some (.cells #[vq0] 22)) (a0 : Int) (a1 : Int × (Bool × Bool × Int × Int × Int)) (h0 : 0 ≤ a0) (h1 : a0 < (q0.length : Int)) : Fv Tryz.prog (.func (.func 62) #[] ([.pointer (some ⟨b1000, 0, none⟩)] : List Value).toArray) [.int .i64 a0, .agg #[.int .i64 a1.1, .bool a1.2.1, .bool a1.2.2.1, .int .i64 a1.2.2.2.1, .int .i64 a1.2.2.2.2.1, .int .i64 a1.2.2.2.2.2]] H (.bool (trait_Check_1_m q0 a0 a1)) := by
  refine Fc.of_body (N := 41) Tryz.func62 rfl (by kernel_rfl) rfl rfl ?_
  intro w0
  obtain ⟨Aq0, cq0, rfl, hcq0, hdq0, hq0⟩ := hq0.shape
  refine T.seq ?_
  refine T.region ?_
  refine R.box rfl (by conv => lhs; whnf) ?_
  intro b4
  refine R.asE rfl (by conv => lhs; whnf) ?_
  refine TL.shut .hd ?_
  intro Hb4_1 sb4_1 qb4_1
  have hb4_1 : Hb4_1 b4 = some (.cells #[.int .i64 (a1.1), .bool (a1.2.1), .bool (a1.2.2.1), .int .i64 (a1.2.2.2.1), .int .i64 (a1.2.2.2.2.1), .int .i64 (a1.2.2.2.2.2)] 55) := shut1 qb4_1
  refine TL.nil (Post.thnN ?_)
  refine T.seq ?_
  refine T.draw Tryz_mixed (by kernel_rfl) ?_
  refine Plan.v 0 [1, 2, 3, 4, 5, 6, 7, 8, 9, 10, 11, 12, 13, 14, 15, 16, 17, 18, 19, 20, 21, 22, 23, 24, 25, 26, 27, 28, 29, 30, 31, 32, 33, 34, 35] (by kernel_rfl) (by kernel_rfl) (by kernel_rfl) (by kernel_rfl) rfl (fun _ _ h_ => R.mvE rfl (by conv => lhs; whnf) (TL.nil h_)) ?_
  refine Plan.v 1 [2, 3, 4, 5, 6, 7, 8, 9, 10, 11, 12, 13, 14, 15, 16, 17, 18, 19, 20, 21, 22, 23, 24, 25, 26, 27, 28, 29, 30, 31, 32, 33, 34, 35] (by kernel_rfl) (by kernel_rfl) (by kernel_rfl) (by kernel_rfl) rfl (fun _ _ h_ => R.geq rfl rfl rfl (TL.nil h_)) ?_
  refine Plan.v 2 [3, 4, 5, 6, 7, 8, 9, 10, 11, 12, 13, 14, 15, 16, 17, 18, 19, 20, 21, 22, 23, 24, 25, 26, 27, 28, 29, 30, 31, 32, 33, 34, 35] (by kernel_rfl) (by kernel_rfl) (by kernel_rfl) (by kernel_rfl) rfl (fun _ _ h_ => R.mvE rfl (by conv => lhs; whnf) (TL.nil h_)) ?_
  refine Plan.gsplitD 8 rfl (fun g8 => ?_) (fun g8 => ?_)
  · refine Plan.v 3 [4, 5, 6, 7, 8, 9, 10, 11, 12, 13, 14, 15, 16, 17, 18, 19, 20, 21, 22, 23, 24, 25, 26, 27, 28, 29, 30, 31, 32, 33, 34, 35] (by kernel_rfl) (by kernel_rfl) (by kernel_rfl) (by kernel_rfl) rfl (fun _ _ h_ => TL.off rfl rfl rfl (TL.nil h_)) ?_
    refine Plan.v 4 [5, 6, 7, 8, 9, 10, 11, 12, 13, 14, 15, 16, 17, 18, 19, 20, 21, 22, 23, 24, 25, 26, 27, 28, 29, 30, 31, 32, 33, 34, 35] (by kernel_rfl) (by kernel_rfl) (by kernel_rfl) (by kernel_rfl) rfl (fun _ _ h_ => TL.off rfl rfl rfl (TL.nil h_)) ?_
    refine Plan.v 5 [6, 7, 8, 9, 10, 11, 12, 13, 14, 15, 16, 17, 18, 19, 20, 21, 22, 23, 24, 25, 26, 27, 28, 29, 30, 31, 32, 33, 34, 35] (by kernel_rfl) (by kernel_rfl) (by kernel_rfl) (by kernel_rfl) rfl (fun _ _ h_ => TL.off rfl rfl rfl (TL.nil h_)) ?_
    refine Plan.v 6 [7, 8, 9, 10, 11, 12, 13, 14, 15, 16, 17, 18, 19, 20, 21, 22, 23, 24, 25, 26, 27, 28, 29, 30, 31, 32, 33, 34, 35] (by kernel_rfl) (by kernel_rfl) (by kernel_rfl) (by kernel_rfl) rfl (fun _ _ h_ => TL.off rfl rfl rfl (TL.nil h_)) ?_
    refine Plan.v 7 [8, 9, 10, 11, 12, 13, 14, 15, 16, 17, 18, 19, 20, 21, 22, 23, 24, 25, 26, 27, 28, 29, 30, 31, 32, 33, 34, 35] (by kernel_rfl) (by kernel_rfl) (by kernel_rfl) (by kernel_rfl) rfl (fun _ _ h_ => TL.off rfl rfl rfl (TL.nil h_)) ?_
    refine Plan.v 8 [9, 10, 11, 12, 13, 14, 15, 16, 17, 18, 19, 20, 21, 22, 23, 24, 25, 26, 27, 28, 29, 30, 31, 32, 33, 34, 35] (by kernel_rfl) (by kernel_rfl) (by kernel_rfl) (by kernel_rfl) rfl (fun _ _ h_ => R.pkTE rfl rfl (by conv => lhs; whnf) (TL.nil h_)) ?_
    refine Plan.v 9 [10, 11, 12, 13, 14, 15, 16, 17, 18, 19, 20, 21, 22, 23, 24, 25, 26, 27, 28, 29, 30, 31, 32, 33, 34, 35] (by kernel_rfl) (by kernel_rfl) (by kernel_rfl) (by kernel_rfl) rfl (fun _ _ h_ => R.mvE rfl (by conv => lhs; whnf) (TL.nil h_)) ?_
    refine Plan.v 10 [11, 12, 13, 14, 15, 16, 17, 18, 19, 20, 21, 22, 23, 24, 25, 26, 27, 28, 29, 30, 31, 32, 33, 34, 35] (by kernel_rfl) (by kernel_rfl) (by kernel_rfl) (by kernel_rfl) rfl (fun _ _ h_ => R.fldA Tryz.underlying55 rfl Tryz.sizeOf3 (by decide) rfl rfl (TL.nil h_)) ?_
    refine Plan.v 11 [12, 13, 14, 15, 16, 17, 18, 19, 20, 21, 22, 23, 24, 25, 26, 27, 28, 29, 30, 31, 32, 33, 34, 35] (by kernel_rfl) (by kernel_rfl) (by kernel_rfl) (by kernel_rfl) rfl (fun _ _ h_ => R.ldH Tryz.isAgg3 rfl rfl hb4_1 rfl (TL.nil h_)) ?_
    refine Plan.v 12 [13, 14, 15, 16, 17, 18, 19, 20, 21, 22, 23, 24, 25, 26, 27, 28, 29, 30, 31, 32, 33, 34, 35] (by kernel_rfl) (by kernel_rfl) (by kernel_rfl) (by kernel_rfl) rfl (fun _ _ h_ => R.callv rfl rfl rfl (trait_index_c _ (a1.1)) (TL.nil h_)) ?_
    refine Plan.v 13 [14, 15, 16, 17, 18, 19, 20, 21, 22, 23, 24, 25, 26, 27, 28, 29, 30, 31, 32, 33, 34, 35] (by kernel_rfl) (by kernel_rfl) (by kernel_rfl) (by kernel_rfl) rfl (fun _ _ h_ => R.pkTE rfl rfl (by conv => lhs; whnf) (TL.nil h_)) ?_
    refine Plan.v 14 [15, 16, 17, 18, 19, 20, 21, 22, 23, 24, 25, 26, 27, 28, 29, 30, 31, 32, 33, 34, 35] (by kernel_rfl) (by kernel_rfl) (by kernel_rfl) (by kernel_rfl) rfl (fun _ _ h_ => R.mvE rfl (by conv => lhs; whnf) (TL.nil h_)) ?_
    refine Plan.gsplit 20 rfl (fun g20 => ?_) (fun g20 => ?_)
    · refine Plan.v 15 [16, 17, 18, 19, 20, 21, 22, 23, 24, 25, 26, 27, 28, 29, 30, 31, 32, 33, 34, 35] (by kernel_rfl) (by kernel_rfl) (by kernel_rfl) (by kernel_rfl) rfl (fun _ _ h_ => R.fldA Tryz.underlying55 rfl Tryz.sizeOf53 (by decide) rfl rfl (TL.nil h_)) ?_
      refine Plan.v 16 [17, 18, 19, 20, 21, 22, 23, 24, 25, 26, 27, 28, 29, 30, 31, 32, 33, 34, 35] (by kernel_rfl) (by kernel_rfl) (by kernel_rfl) (by kernel_rfl) rfl (fun _ _ h_ => R.ldXH (cs := [.int .i64 (a1.1), .bool (a1.2.1), .bool (a1.2.2.1), .int .i64 (a1.2.2.2.1), .int .i64 (a1.2.2.2.2.1), .int .i64 (a1.2.2.2.2.2)]) (l := [.bool (a1.2.1), .bool (a1.2.2.1), .int .i64 (a1.2.2.2.1), .int .i64 (a1.2.2.2.2.1), .int .i64 (a1.2.2.2.2.2)]) Tryz.isAgg53 Tryz.sizeOf53 rfl rfl hb4_1 rfl rfl (TL.nil h_)) ?_
      refine Plan.v 17 [18, 19, 20, 21, 22, 23, 24, 25, 26, 27, 28, 29, 30, 31, 32, 33, 34, 35] (by kernel_rfl) (by kernel_rfl) (by kernel_rfl) (by kernel_rfl) rfl (fun _ _ h_ => R.callv rfl rfl rfl (trait_May_c _ a1.2) (TL.nil h_)) ?_
      refine Plan.v 18 [19, 20, 21, 22, 23, 24, 25, 26, 27, 28, 29, 30, 31, 32, 33, 34, 35] (by kernel_rfl) (by kernel_rfl) (by kernel_rfl) (by kernel_rfl) rfl (fun _ _ h_ => R.eql rfl rfl rfl (TL.nil h_)) ?_
      refine Plan.v 19 [20, 21, 22, 23, 24, 25, 26, 27, 28, 29, 30, 31, 32, 33, 34, 35] (by kernel_rfl) (by kernel_rfl) (by kernel_rfl) (by kernel_rfl) rfl (fun _ _ h_ => R.pkTE rfl rfl (by conv => lhs; whnf) (TL.nil h_)) ?_
      refine Plan.v 20 [21, 22, 23, 24, 25, 26, 27, 28, 29, 30, 31, 32, 33, 34, 35] (by kernel_rfl) (by kernel_rfl) (by kernel_rfl) (by kernel_rfl) rfl (fun _ _ h_ => R.mvE rfl (by conv => lhs; whnf) (TL.nil h_)) ?_
      refine Plan.gsplitD 26 rfl (fun g26 => ?_) (fun g26 => ?_)
      · refine Plan.v 21 [22, 23, 24, 25, 26, 27, 28, 29, 30, 31, 32, 33, 34, 35] (by kernel_rfl) (by kernel_rfl) (by kernel_rfl) (by kernel_rfl) rfl (fun _ _ h_ => R.mvE rfl (by conv => lhs; whnf) (TL.nil h_)) ?_
        refine Plan.v 22 [23, 24, 25, 26, 27, 28, 29, 30, 31, 32, 33, 34, 35] (by kernel_rfl) (by kernel_rfl) (by kernel_rfl) (by kernel_rfl) rfl (fun _ _ h_ => R.eql rfl rfl rfl (TL.nil h_)) ?_
        refine Plan.v 23 [24, 25, 26, 27, 28, 29, 30, 31, 32, 33, 34, 35] (by kernel_rfl) (by kernel_rfl) (by kernel_rfl) (by kernel_rfl) rfl (fun _ _ h_ => R.mvE rfl (by conv => lhs; whnf) (TL.nil h_)) ?_
        refine Plan.gsplitD 29 rfl (fun g29 => ?_) (fun g29 => ?_)
        · refine Plan.v 24 [25, 26, 27, 28, 29, 30, 31, 32, 33, 34, 35] (by kernel_rfl) (by kernel_rfl) (by kernel_rfl) (by kernel_rfl) rfl (fun _ _ h_ => TL.off rfl rfl rfl (TL.nil h_)) ?_
          refine Plan.v 25 [26, 27, 28, 29, 30, 31, 32, 33, 34, 35] (by kernel_rfl) (by kernel_rfl) (by kernel_rfl) (by kernel_rfl) rfl (fun _ _ h_ => TL.off rfl rfl rfl (TL.nil h_)) ?_
          refine Plan.v 26 [27, 28, 29, 30, 31, 32, 33, 34, 35] (by kernel_rfl) (by kernel_rfl) (by kernel_rfl) (by kernel_rfl) rfl (fun _ _ h_ => TL.off rfl rfl rfl (TL.nil h_)) ?_
          refine Plan.v 27 [28, 29, 30, 31, 32, 33, 34, 35] (by kernel_rfl) (by kernel_rfl) (by kernel_rfl) (by kernel_rfl) rfl (fun _ _ h_ => TL.off rfl rfl rfl (TL.nil h_)) ?_
          refine Plan.v 28 [29, 30, 31, 32, 33, 34, 35] (by kernel_rfl) (by kernel_rfl) (by kernel_rfl) (by kernel_rfl) rfl (fun _ _ h_ => TL.off rfl rfl rfl (TL.nil h_)) ?_
          refine Plan.v 29 [30, 31, 32, 33, 34, 35] (by kernel_rfl) (by kernel_rfl) (by kernel_rfl) (by kernel_rfl) rfl (fun _ _ h_ => TL.off rfl rfl rfl (TL.nil h_)) ?_
          refine Plan.v 30 [31, 32, 33, 34, 35] (by kernel_rfl) (by kernel_rfl) (by kernel_rfl) (by kernel_rfl) rfl (fun _ _ h_ => TL.off rfl rfl rfl (TL.nil h_)) ?_
          refine Plan.v 31 [32, 33, 34, 35] (by kernel_rfl) (by kernel_rfl) (by kernel_rfl) (by kernel_rfl) rfl (fun _ _ h_ => TL.off rfl rfl rfl (TL.nil h_)) ?_
          refine Plan.v 32 [33, 34, 35] (by kernel_rfl) (by kernel_rfl) (by kernel_rfl) (by kernel_rfl) rfl (fun _ _ h_ => TL.off rfl rfl rfl (TL.nil h_)) ?_
          refine Plan.v 33 [34, 35] (by kernel_rfl) (by kernel_rfl) (by kernel_rfl) (by kernel_rfl) rfl (fun _ _ h_ => R.pkTE rfl rfl (by conv => lhs; whnf) (TL.nil h_)) ?_
          refine Plan.v 34 [35] (by kernel_rfl) (by kernel_rfl) (by kernel_rfl) (by kernel_rfl) rfl (fun _ _ h_ => R.pkTE rfl rfl (by conv => lhs; whnf) (TL.nil h_)) ?_
          refine Plan.v 35 [] (by kernel_rfl) (by kernel_rfl) (by kernel_rfl) (by kernel_rfl) rfl (fun _ _ h_ => R.asE rfl (by conv => lhs; whnf) (TL.nil h_)) ?_
          refine Plan.done (Post.thnN ?_)
          refine T.has Has.nil ?_
          refine T.ret ?_
          have hM : trait_Check_1_m q0 a0 a1 = true := by rw [trait_Check_1_m, if_pos g8, if_t g20, if_pos g26, if_pos g29]
          exact fin1L (v := .bool true) [] rfl rfl (List.Sublist.refl _) ⟨rfl, by first | rw [hM] | rfl⟩
        · refine Plan.v 24 [25, 26, 27, 28, 29, 30, 31, 32, 33, 34, 35] (by kernel_rfl) (by kernel_rfl) (by kernel_rfl) (by kernel_rfl) rfl (fun _ _ h_ => R.ldH Tryz.isAgg22 rfl rfl (sb4_1 _ _ hb0) rfl (TL.nil h_)) ?_
          refine Plan.v 25 [26, 27, 28, 29, 30, 31, 32, 33, 34, 35] (by kernel_rfl) (by kernel_rfl) (by kernel_rfl) (by kernel_rfl) rfl (fun _ _ h_ => R.mvE rfl (by conv => lhs; whnf) (TL.nil h_)) ?_
          refine Plan.v 26 [27, 28, 29, 30, 31, 32, 33, 34, 35] (by kernel_rfl) (by kernel_rfl) (by kernel_rfl) (by kernel_rfl) rfl (fun _ _ h_ => R.subI rfl rfl rfl (by omega) (TL.nil h_)) ?_
          have hl33 : ((a0 - 1)).toNat < q0.length := by first | omega | (simp; done) | (simp; omega) | (simp at *; omega)
          obtain ⟨y33, e33, h33⟩ : ∃ y, y = (q0.getD (((a0 - 1)).toNat) (((0, (false, false, 0, 0, 0)) : Int × (Bool × Bool × Int × Int × Int)) : Int × (Bool × Bool × Int × Int × Int))) ∧ q0[((a0 - 1)).toNat]? = some y := ⟨_, rfl, getD_get (by first | exact hl33 | simpa using hl33 | (rw [(sortI_perm _).length_eq]; exact hl33))⟩
          obtain ⟨b33, o33, i33, k33⟩ := RdS.elem (hq0.mono sb4_1) h33
          obtain ⟨l33, g33, k33⟩ := k33
          obtain rfl : l33 = [.int .i64 (y33.1), .bool (y33.2.1), .bool (y33.2.2.1), .int .i64 (y33.2.2.2.1), .int .i64 (y33.2.2.2.2.1), .int .i64 (y33.2.2.2.2.2)] := g33
          refine Plan.v 27 [28, 29, 30, 31, 32, 33, 34, 35] (by kernel_rfl) (by kernel_rfl) (by kernel_rfl) (by kernel_rfl) rfl (fun _ _ h_ => R.ixp Tryz.underlying22 Tryz.sizeOf55 rfl rfl rfl (by first | omega | (simp; done) | (simp; omega) | (simp at *; omega)) i33 (TL.nil h_)) ?_
          refine Plan.v 28 [29, 30, 31, 32, 33, 34, 35] (by kernel_rfl) (by kernel_rfl) (by kernel_rfl) (by kernel_rfl) rfl (fun _ _ h_ => R.fldA Tryz.underlying55 rfl Tryz.sizeOf3 (by decide) rfl rfl (TL.nil h_)) ?_
          refine Plan.v 29 [30, 31, 32, 33, 34, 35] (by kernel_rfl) (by kernel_rfl) (by kernel_rfl) (by kernel_rfl) rfl (fun _ _ h_ => R.ldC Tryz.isAgg3 rfl rfl (k33 0 _ rfl) (TL.nil h_)) ?_
          refine Plan.v 30 [31, 32, 33, 34, 35] (by kernel_rfl) (by kernel_rfl) (by kernel_rfl) (by kernel_rfl) rfl (fun _ _ h_ => R.fldA Tryz.underlying55 rfl Tryz.sizeOf3 (by decide) rfl rfl (TL.nil h_)) ?_
          refine Plan.v 31 [32, 33, 34, 35] (by kernel_rfl) (by kernel_rfl) (by kernel_rfl) (by kernel_rfl) rfl (fun _ _ h_ => R.ldH Tryz.isAgg3 rfl rfl hb4_1 rfl (TL.nil h_)) ?_
          refine Plan.v 32 [33, 34, 35] (by kernel_rfl) (by kernel_rfl) (by kernel_rfl) (by kernel_rfl) rfl (fun _ _ h_ => R.lss rfl rfl rfl (TL.nil h_)) ?_
          refine Plan.v 33 [34, 35] (by kernel_rfl) (by kernel_rfl) (by kernel_rfl) (by kernel_rfl) rfl (fun _ _ h_ => R.pkFE rfl rfl (by conv => lhs; whnf) (TL.nil h_)) ?_
          refine Plan.v 34 [35] (by kernel_rfl) (by kernel_rfl) (by kernel_rfl) (by kernel_rfl) rfl (fun _ _ h_ => R.pkTE rfl rfl (by conv => lhs; whnf) (TL.nil h_)) ?_
          refine Plan.v 35 [] (by kernel_rfl) (by kernel_rfl) (by kernel_rfl) (by kernel_rfl) rfl (fun _ _ h_ => R.asE rfl (by conv => lhs; whnf) (TL.nil h_)) ?_
          refine Plan.done (Post.thnN ?_)
          refine T.has Has.nil ?_
          refine T.ret ?_
          have hM : trait_Check_1_m q0 a0 a1 = (decide (y33.1 < a1.1)) := by subst e33; rw [trait_Check_1_m, if_pos g8, if_t g20, if_pos g26, if_neg g29]
          exact fin1L (v := .bool (decide (y33.1 < a1.1))) [] rfl rfl (List.Sublist.refl _) ⟨rfl, by first | rw [hM] | rfl⟩
      · refine Plan.v 21 [22, 23, 24, 25, 26, 27, 28, 29, 30, 31, 32, 33, 34, 35] (by kernel_rfl) (by kernel_rfl) (by kernel_rfl) (by kernel_rfl) rfl (fun _ _ h_ => TL.off rfl rfl rfl (TL.nil h_)) ?_
        refine Plan.v 22 [23, 24, 25, 26, 27, 28, 29, 30, 31, 32, 33, 34, 35] (by kernel_rfl) (by kernel_rfl) (by kernel_rfl) (by kernel_rfl) rfl (fun _ _ h_ => TL.off rfl rfl rfl (TL.nil h_)) ?_
        refine Plan.v 23 [24, 25, 26, 27, 28, 29, 30, 31, 32, 33, 34, 35] (by kernel_rfl) (by kernel_rfl) (by kernel_rfl) (by kernel_rfl) rfl (fun _ _ h_ => TL.off rfl rfl rfl (TL.nil h_)) ?_
        refine Plan.v 24 [25, 26, 27, 28, 29, 30, 31, 32, 33, 34, 35] (by kernel_rfl) (by kernel_rfl) (by kernel_rfl) (by kernel_rfl) rfl (fun _ _ h_ => TL.offU rfl rfl (TL.nil h_)) ?_
        refine Plan.v 25 [26, 27, 28, 29, 30, 31, 32, 33, 34, 35] (by kernel_rfl) (by kernel_rfl) (by kernel_rfl) (by kernel_rfl) rfl (fun _ _ h_ => TL.offU rfl rfl (TL.nil h_)) ?_
        refine Plan.v 26 [27, 28, 29, 30, 31, 32, 33, 34, 35] (by kernel_rfl) (by kernel_rfl) (by kernel_rfl) (by kernel_rfl) rfl (fun _ _ h_ => TL.offU rfl rfl (TL.nil h_)) ?_
        refine Plan.v 27 [28, 29, 30, 31, 32, 33, 34, 35] (by kernel_rfl) (by kernel_rfl) (by kernel_rfl) (by kernel_rfl) rfl (fun _ _ h_ => TL.offU rfl rfl (TL.nil h_)) ?_
        refine Plan.v 28 [29, 30, 31, 32, 33, 34, 35] (by kernel_rfl) (by kernel_rfl) (by kernel_rfl) (by kernel_rfl) rfl (fun _ _ h_ => TL.offU rfl rfl (TL.nil h_)) ?_
        refine Plan.v 29 [30, 31, 32, 33, 34, 35] (by kernel_rfl) (by kernel_rfl) (by kernel_rfl) (by kernel_rfl) rfl (fun _ _ h_ => TL.offU rfl rfl (TL.nil h_)) ?_
        refine Plan.v 30 [31, 32, 33, 34, 35] (by kernel_rfl) (by kernel_rfl) (by kernel_rfl) (by kernel_rfl) rfl (fun _ _ h_ => TL.offU rfl rfl (TL.nil h_)) ?_
        refine Plan.v 31 [32, 33, 34, 35] (by kernel_rfl) (by kernel_rfl) (by kernel_rfl) (by kernel_rfl) rfl (fun _ _ h_ => TL.offU rfl rfl (TL.nil h_)) ?_
        refine Plan.v 32 [33, 34, 35] (by kernel_rfl) (by kernel_rfl) (by kernel_rfl) (by kernel_rfl) rfl (fun _ _ h_ => TL.offU rfl rfl (TL.nil h_)) ?_
        refine Plan.v 33 [34, 35] (by kernel_rfl) (by kernel_rfl) (by kernel_rfl) (by kernel_rfl) rfl (fun _ _ h_ => TL.off rfl rfl rfl (TL.nil h_)) ?_
        refine Plan.v 34 [35] (by kernel_rfl) (by kernel_rfl) (by kernel_rfl) (by kernel_rfl) rfl (fun _ _ h_ => R.pkFE rfl rfl (by conv => lhs; whnf) (TL.nil h_)) ?_
        refine Plan.v 35 [] (by kernel_rfl) (by kernel_rfl) (by kernel_rfl) (by kernel_rfl) rfl (fun _ _ h_ => R.asE rfl (by conv => lhs; whnf) (TL.nil h_)) ?_
        refine Plan.done (Post.thnN ?_)
        refine T.has Has.nil ?_
        refine T.ret ?_
        have hM : trait_Check_1_m q0 a0 a1 = false := by rw [trait_Check_1_m, if_pos g8, if_t g20, if_neg g26]
        exact fin1L (v := .bool false) [] rfl rfl (List.Sublist.refl _) ⟨rfl, by first | rw [hM] | rfl⟩
    · refine Plan.v 15 [16, 17, 18, 19, 20, 21, 22, 23, 24, 25, 26, 27, 28, 29, 30, 31, 32, 33, 34, 35] (by kernel_rfl) (by kernel_rfl) (by kernel_rfl) (by kernel_rfl) rfl (fun _ _ h_ => TL.off rfl rfl rfl (TL.nil h_)) ?_
      refine Plan.v 16 [17, 18, 19, 20, 21, 22, 23, 24, 25, 26, 27, 28, 29, 30, 31, 32, 33, 34, 35] (by kernel_rfl) (by kernel_rfl) (by kernel_rfl) (by kernel_rfl) rfl (fun _ _ h_ => TL.off rfl rfl rfl (TL.nil h_)) ?_
      refine Plan.v 17 [18, 19, 20, 21, 22, 23, 24, 25, 26, 27, 28, 29, 30, 31, 32, 33, 34, 35] (by kernel_rfl) (by kernel_rfl) (by kernel_rfl) (by kernel_rfl) rfl (fun _ _ h_ => TL.off rfl rfl rfl (TL.nil h_)) ?_
      refine Plan.v 18 [19, 20, 21, 22, 23, 24, 25, 26, 27, 28, 29, 30, 31, 32, 33, 34, 35] (by kernel_rfl) (by kernel_rfl) (by kernel_rfl) (by kernel_rfl) rfl (fun _ _ h_ => TL.off rfl rfl rfl (TL.nil h_)) ?_
      refine Plan.v 19 [20, 21, 22, 23, 24, 25, 26, 27, 28, 29, 30, 31, 32, 33, 34, 35] (by kernel_rfl) (by kernel_rfl) (by kernel_rfl) (by kernel_rfl) rfl (fun _ _ h_ => R.pkFE rfl rfl (by conv => lhs; whnf) (TL.nil h_)) ?_
      refine Plan.v 20 [21, 22, 23, 24, 25, 26, 27, 28, 29, 30, 31, 32, 33, 34, 35] (by kernel_rfl) (by kernel_rfl) (by kernel_rfl) (by kernel_rfl) rfl (fun _ _ h_ => R.mvE rfl (by conv => lhs; whnf) (TL.nil h_)) ?_
      refine Plan.v 21 [22, 23, 24, 25, 26, 27, 28, 29, 30, 31, 32, 33, 34, 35] (by kernel_rfl) (by kernel_rfl) (by kernel_rfl) (by kernel_rfl) rfl (fun _ _ h_ => TL.off rfl rfl rfl (TL.nil h_)) ?_
      refine Plan.v 22 [23, 24, 25, 26, 27, 28, 29, 30, 31, 32, 33, 34, 35] (by kernel_rfl) (by kernel_rfl) (by kernel_rfl) (by kernel_rfl) rfl (fun _ _ h_ => TL.off rfl rfl rfl (TL.nil h_)) ?_
      refine Plan.v 23 [24, 25, 26, 27, 28, 29, 30, 31, 32, 33, 34, 35] (by kernel_rfl) (by kernel_rfl) (by kernel_rfl) (by kernel_rfl) rfl (fun _ _ h_ => TL.off rfl rfl rfl (TL.nil h_)) ?_
      refine Plan.v 24 [25, 26, 27, 28, 29, 30, 31, 32, 33, 34, 35] (by kernel_rfl) (by kernel_rfl) (by kernel_rfl) (by kernel_rfl) rfl (fun _ _ h_ => TL.offU rfl rfl (TL.nil h_)) ?_
      refine Plan.v 25 [26, 27, 28, 29, 30, 31, 32, 33, 34, 35] (by kernel_rfl) (by kernel_rfl) (by kernel_rfl) (by kernel_rfl) rfl (fun _ _ h_ => TL.offU rfl rfl (TL.nil h_)) ?_
      refine Plan.v 26 [27, 28, 29, 30, 31, 32, 33, 34, 35] (by kernel_rfl) (by kernel_rfl) (by kernel_rfl) (by kernel_rfl) rfl (fun _ _ h_ => TL.offU rfl rfl (TL.nil h_)) ?_
      refine Plan.v 27 [28, 29, 30, 31, 32, 33, 34, 35] (by kernel_rfl) (by kernel_rfl) (by kernel_rfl) (by kernel_rfl) rfl (fun _ _ h_ => TL.offU rfl rfl (TL.nil h_)) ?_
      refine Plan.v 28 [29, 30, 31, 32, 33, 34, 35] (by kernel_rfl) (by kernel_rfl) (by kernel_rfl) (by kernel_rfl) rfl (fun _ _ h_ => TL.offU rfl rfl (TL.nil h_)) ?_
      refine Plan.v 29 [30, 31, 32, 33, 34, 35] (by kernel_rfl) (by kernel_rfl) (by kernel_rfl) (by kernel_rfl) rfl (fun _ _ h_ => TL.offU rfl rfl (TL.nil h_)) ?_
      refine Plan.v 30 [31, 32, 33, 34, 35] (by kernel_rfl) (by kernel_rfl) (by kernel_rfl) (by kernel_rfl) rfl (fun _ _ h_ => TL.offU rfl rfl (TL.nil h_)) ?_
      refine Plan.v 31 [32, 33, 34, 35] (by kernel_rfl) (by kernel_rfl) (by kernel_rfl) (by kernel_rfl) rfl (fun _ _ h_ => TL.offU rfl rfl (TL.nil h_)) ?_
      refine Plan.v 32 [33, 34, 35] (by kernel_rfl) (by kernel_rfl) (by kernel_rfl) (by kernel_rfl) rfl (fun _ _ h_ => TL.offU rfl rfl (TL.nil h_)) ?_
      refine Plan.v 33 [34, 35] (by kernel_rfl) (by kernel_rfl) (by kernel_rfl) (by kernel_rfl) rfl (fun _ _ h_ => TL.off rfl rfl rfl (TL.nil h_)) ?_
      refine Plan.v 34 [35] (by kernel_rfl) (by kernel_rfl) (by kernel_rfl) (by kernel_rfl) rfl (fun _ _ h_ => R.pkFE rfl rfl (by conv => lhs; whnf) (TL.nil h_)) ?_
      refine Plan.v 35 [] (by kernel_rfl) (by kernel_rfl) (by kernel_rfl) (by kernel_rfl) rfl (fun _ _ h_ => R.asE rfl (by conv => lhs; whnf) (TL.nil h_)) ?_
      refine Plan.done (Post.thnN ?_)
      refine T.has Has.nil ?_
      refine T.ret ?_
      have hM : trait_Check_1_m q0 a0 a1 = false := by rw [trait_Check_1_m, if_pos g8, if_f g20]
      exact fin1L (v := .bool false) [] rfl rfl (List.Sublist.refl _) ⟨rfl, by first | rw [hM] | rfl⟩
  · refine Plan.v 3 [4, 5, 6, 7, 8, 9, 10, 11, 12, 13, 14, 15, 16, 17, 18, 19, 20, 21, 22, 23, 24, 25, 26, 27, 28, 29, 30, 31, 32, 33, 34, 35] (by kernel_rfl) (by kernel_rfl) (by kernel_rfl) (by kernel_rfl) rfl (fun _ _ h_ => R.ldXH (cs := [.int .i64 (a1.1), .bool (a1.2.1), .bool (a1.2.2.1), .int .i64 (a1.2.2.2.1), .int .i64 (a1.2.2.2.2.1), .int .i64 (a1.2.2.2.2.2)]) (l := [.int .i64 (a1.1), .bool (a1.2.1), .bool (a1.2.2.1), .int .i64 (a1.2.2.2.1), .int .i64 (a1.2.2.2.2.1), .int .i64 (a1.2.2.2.2.2)]) Tryz.isAgg55 Tryz.sizeOf55 rfl rfl hb4_1 rfl rfl (TL.nil h_)) ?_
    refine Plan.v 4 [5, 6, 7, 8, 9, 10, 11, 12, 13, 14, 15, 16, 17, 18, 19, 20, 21, 22, 23, 24, 25, 26, 27, 28, 29, 30, 31, 32, 33, 34, 35] (by kernel_rfl) (by kernel_rfl) (by kernel_rfl) (by kernel_rfl) rfl (fun _ _ h_ => R.mvE rfl (by conv => lhs; whnf) (TL.nil h_)) ?_
    refine Plan.v 5 [6, 7, 8, 9, 10, 11, 12, 13, 14, 15, 16, 17, 18, 19, 20, 21, 22, 23, 24, 25, 26, 27, 28, 29, 30, 31, 32, 33, 34, 35] (by kernel_rfl) (by kernel_rfl) (by kernel_rfl) (by kernel_rfl) rfl (fun _ _ h_ => R.ixA Tryz.underlying101 Tryz.sizeOf55 rfl rfl rfl (by first | omega | (simp; done) | (simp; omega) | (simp at *; omega)) (by first | omega | (simp; done) | (simp; omega) | (simp at *; omega)) (TL.nil h_)) ?_
    obtain ⟨y12, e12⟩ : ∃ y, y = (([((1, (true, true, 0, 1, 2)) : Int × (Bool × Bool × Int × Int × Int)), ((2, (true, false, 0, 0, 2)) : Int × (Bool × Bool × Int × Int × Int))] : List (Int × (Bool × Bool × Int × Int × Int))).getD a0.toNat (((0, (false, false, 0, 0, 0)) : Int × (Bool × Bool × Int × Int × Int)) : Int × (Bool × Bool × Int × Int × Int))) := ⟨_, rfl⟩
    refine Plan.v 6 [7, 8, 9, 10, 11, 12, 13, 14, 15, 16, 17, 18, 19, 20, 21, 22, 23, 24, 25, 26, 27, 28, 29, 30, 31, 32, 33, 34, 35] (by kernel_rfl) (by kernel_rfl) (by kernel_rfl) (by kernel_rfl) rfl (fun _ _ h_ => R.ldXH (cs := [.int .i64 1, .bool true, .bool true, .int .i64 0, .int .i64 1, .int .i64 2, .int .i64 2, .bool true, .bool false, .int .i64 0, .int .i64 0, .int .i64 2]) (l := [.int .i64 (y12.1), .bool (y12.2.1), .bool (y12.2.2.1), .int .i64 (y12.2.2.2.1), .int .i64 (y12.2.2.2.2.1), .int .i64 (y12.2.2.2.2.2)]) Tryz.isAgg55 Tryz.sizeOf55 rfl rfl (sb4_1 _ _ hG0) (by rw [e12]; rcases (show a0 = 0 ∨ a0 = 1 by omega) with h | h <;> rw [h] <;> rfl) rfl (TL.nil h_)) ?_
    refine Plan.v 7 [8, 9, 10, 11, 12, 13, 14, 15, 16, 17, 18, 19, 20, 21, 22, 23, 24, 25, 26, 27, 28, 29, 30, 31, 32, 33, 34, 35] (by kernel_rfl) (by kernel_rfl) (by kernel_rfl) (by kernel_rfl) rfl (fun _ _ h_ => R.eqG (a := (a1 : Int × (Bool × Bool × Int × Int × Int))) (b := (y12 : Int × (Bool × Bool × Int × Int × Int))) (eqT55 9997 a1 y12) eqG55 rfl rfl rfl (TL.nil h_)) ?_
    refine Plan.v 8 [9, 10, 11, 12, 13, 14, 15, 16, 17, 18, 19, 20, 21, 22, 23, 24, 25, 26, 27, 28, 29, 30, 31, 32, 33, 34, 35] (by kernel_rfl) (by kernel_rfl) (by kernel_rfl) (by kernel_rfl) rfl (fun _ _ h_ => R.pkFE rfl rfl (by conv => lhs; whnf) (TL.nil h_)) ?_
    refine Plan.v 9 [10, 11, 12, 13, 14, 15, 16, 17, 18, 19, 20, 21, 22, 23, 24, 25, 26, 27, 28, 29, 30, 31, 32, 33, 34, 35] (by kernel_rfl) (by kernel_rfl) (by kernel_rfl) (by kernel_rfl) rfl (fun _ _ h_ => R.mvE rfl (by conv => lhs; whnf) (TL.nil h_)) ?_
    refine Plan.gsplitD 15 rfl (fun g15 => ?_) (fun g15 => ?_)
    · refine Plan.v 10 [11, 12, 13, 14, 15, 16, 17, 18, 19, 20, 21, 22, 23, 24, 25, 26, 27, 28, 29, 30, 31, 32, 33, 34, 35] (by kernel_rfl) (by kernel_rfl) (by kernel_rfl) (by kernel_rfl) rfl (fun _ _ h_ => R.fldA Tryz.underlying55 rfl Tryz.sizeOf3 (by decide) rfl rfl (TL.nil h_)) ?_
      refine Plan.v 11 [12, 13, 14, 15, 16, 17, 18, 19, 20, 21, 22, 23, 24, 25, 26, 27, 28, 29, 30, 31, 32, 33, 34, 35] (by kernel_rfl) (by kernel_rfl) (by kernel_rfl) (by kernel_rfl) rfl (fun _ _ h_ => R.ldH Tryz.isAgg3 rfl rfl hb4_1 rfl (TL.nil h_)) ?_
      refine Plan.v 12 [13, 14, 15, 16, 17, 18, 19, 20, 21, 22, 23, 24, 25, 26, 27, 28, 29, 30, 31, 32, 33, 34, 35] (by kernel_rfl) (by kernel_rfl) (by kernel_rfl) (by kernel_rfl) rfl (fun _ _ h_ => R.callv rfl rfl rfl (trait_index_c _ (a1.1)) (TL.nil h_)) ?_
      refine Plan.v 13 [14, 15, 16, 17, 18, 19, 20, 21, 22, 23, 24, 25, 26, 27, 28, 29, 30, 31, 32, 33, 34, 35] (by kernel_rfl) (by kernel_rfl) (by kernel_rfl) (by kernel_rfl) rfl (fun _ _ h_ => R.pkTE rfl rfl (by conv => lhs; whnf) (TL.nil h_)) ?_
      refine Plan.v 14 [15, 16, 17, 18, 19, 20, 21, 22, 23, 24, 25, 26, 27, 28, 29, 30, 31, 32, 33, 34, 35] (by kernel_rfl) (by kernel_rfl) (by kernel_rfl) (by kernel_rfl) rfl (fun _ _ h_ => R.mvE rfl (by conv => lhs; whnf) (TL.nil h_)) ?_
      refine Plan.gsplit 20 rfl (fun g20 => ?_) (fun g20 => ?_)
      · refine Plan.v 15 [16, 17, 18, 19, 20, 21, 22, 23, 24, 25, 26, 27, 28, 29, 30, 31, 32, 33, 34, 35] (by kernel_rfl) (by kernel_rfl) (by kernel_rfl) (by kernel_rfl) rfl (fun _ _ h_ => R.fldA Tryz.underlying55 rfl Tryz.sizeOf53 (by decide) rfl rfl (TL.nil h_)) ?_
        refine Plan.v 16 [17, 18, 19, 20, 21, 22, 23, 24, 25, 26, 27, 28, 29, 30, 31, 32, 33, 34, 35] (by kernel_rfl) (by kernel_rfl) (by kernel_rfl) (by kernel_rfl) rfl (fun _ _ h_ => R.ldXH (cs := [.int .i64 (a1.1), .bool (a1.2.1), .bool (a1.2.2.1), .int .i64 (a1.2.2.2.1), .int .i64 (a1.2.2.2.2.1), .int .i64 (a1.2.2.2.2.2)]) (l := [.bool (a1.2.1), .bool (a1.2.2.1), .int .i64 (a1.2.2.2.1), .int .i64 (a1.2.2.2.2.1), .int .i64 (a1.2.2.2.2.2)]) Tryz.isAgg53 Tryz.sizeOf53 rfl rfl hb4_1 rfl rfl (TL.nil h_)) ?_
        refine Plan.v 17 [18, 19, 20, 21, 22, 23, 24, 25, 26, 27, 28, 29, 30, 31, 32, 33, 34, 35] (by kernel_rfl) (by kernel_rfl) (by kernel_rfl) (by kernel_rfl) rfl (fun _ _ h_ => R.callv rfl rfl rfl (trait_May_c _ a1.2) (TL.nil h_)) ?_
        refine Plan.v 18 [19, 20, 21, 22, 23, 24, 25, 26, 27, 28, 29, 30, 31, 32, 33, 34, 35] (by kernel_rfl) (by kernel_rfl) (by kernel_rfl) (by kernel_rfl) rfl (fun _ _ h_ => R.eql rfl rfl rfl (TL.nil h_)) ?_
        refine Plan.v 19 [20, 21, 22, 23, 24, 25, 26, 27, 28, 29, 30, 31, 32, 33, 34, 35] (by kernel_rfl) (by kernel_rfl) (by kernel_rfl) (by kernel_rfl) rfl (fun _ _ h_ => R.pkTE rfl rfl (by conv => lhs; whnf) (TL.nil h_)) ?_
        refine Plan.v 20 [21, 22, 23, 24, 25, 26, 27, 28, 29, 30, 31, 32, 33, 34, 35] (by kernel_rfl) (by kernel_rfl) (by kernel_rfl) (by kernel_rfl) rfl (fun _ _ h_ => R.mvE rfl (by conv => lhs; whnf) (TL.nil h_)) ?_
        refine Plan.gsplitD 26 rfl (fun g26 => ?_) (fun g26 => ?_)
        · refine Plan.v 21 [22, 23, 24, 25, 26, 27, 28, 29, 30, 31, 32, 33, 34, 35] (by kernel_rfl) (by kernel_rfl) (by kernel_rfl) (by kernel_rfl) rfl (fun _ _ h_ => R.mvE rfl (by conv => lhs; whnf) (TL.nil h_)) ?_
          refine Plan.v 22 [23, 24, 25, 26, 27, 28, 29, 30, 31, 32, 33, 34, 35] (by kernel_rfl) (by kernel_rfl) (by kernel_rfl) (by kernel_rfl) rfl (fun _ _ h_ => R.eql rfl rfl rfl (TL.nil h_)) ?_
          refine Plan.v 23 [24, 25, 26, 27, 28, 29, 30, 31, 32, 33, 34, 35] (by kernel_rfl) (by kernel_rfl) (by kernel_rfl) (by kernel_rfl) rfl (fun _ _ h_ => R.mvE rfl (by conv => lhs; whnf) (TL.nil h_)) ?_
          refine Plan.gsplitD 29 rfl (fun g29 => ?_) (fun g29 => ?_)
          · refine Plan.v 24 [25, 26, 27, 28, 29, 30, 31, 32, 33, 34, 35] (by kernel_rfl) (by kernel_rfl) (by kernel_rfl) (by kernel_rfl) rfl (fun _ _ h_ => TL.off rfl rfl rfl (TL.nil h_)) ?_
            refine Plan.v 25 [26, 27, 28, 29, 30, 31, 32, 33, 34, 35] (by kernel_rfl) (by kernel_rfl) (by kernel_rfl) (by kernel_rfl) rfl (fun _ _ h_ => TL.off rfl rfl rfl (TL.nil h_)) ?_
            refine Plan.v 26 [27, 28, 29, 30, 31, 32, 33, 34, 35] (by kernel_rfl) (by kernel_rfl) (by kernel_rfl) (by kernel_rfl) rfl (fun _ _ h_ => TL.off rfl rfl rfl (TL.nil h_)) ?_
            refine Plan.v 27 [28, 29, 30, 31, 32, 33, 34, 35] (by kernel_rfl) (by kernel_rfl) (by kernel_rfl) (by kernel_rfl) rfl (fun _ _ h_ => TL.off rfl rfl rfl (TL.nil h_)) ?_
            refine Plan.v 28 [29, 30, 31, 32, 33, 34, 35] (by kernel_rfl) (by kernel_rfl) (by kernel_rfl) (by kernel_rfl) rfl (fun _ _ h_ => TL.off rfl rfl rfl (TL.nil h_)) ?_
            refine Plan.v 29 [30, 31, 32, 33, 34, 35] (by kernel_rfl) (by kernel_rfl) (by kernel_rfl) (by kernel_rfl) rfl (fun _ _ h_ => TL.off rfl rfl rfl (TL.nil h_)) ?_
            refine Plan.v 30 [31, 32, 33, 34, 35] (by kernel_rfl) (by kernel_rfl) (by kernel_rfl) (by kernel_rfl) rfl (fun _ _ h_ => TL.off rfl rfl rfl (TL.nil h_)) ?_
            refine Plan.v 31 [32, 33, 34, 35] (by kernel_rfl) (by kernel_rfl) (by kernel_rfl) (by kernel_rfl) rfl (fun _ _ h_ => TL.off rfl rfl rfl (TL.nil h_)) ?_
            refine Plan.v 32 [33, 34, 35] (by kernel_rfl) (by kernel_rfl) (by kernel_rfl) (by kernel_rfl) rfl (fun _ _ h_ => TL.off rfl rfl rfl (TL.nil h_)) ?_
            refine Plan.v 33 [34, 35] (by kernel_rfl) (by kernel_rfl) (by kernel_rfl) (by kernel_rfl) rfl (fun _ _ h_ => R.pkTE rfl rfl (by conv => lhs; whnf) (TL.nil h_)) ?_
            refine Plan.v 34 [35] (by kernel_rfl) (by kernel_rfl) (by kernel_rfl) (by kernel_rfl) rfl (fun _ _ h_ => R.pkTE rfl rfl (by conv => lhs; whnf) (TL.nil h_)) ?_
            refine Plan.v 35 [] (by kernel_rfl) (by kernel_rfl) (by kernel_rfl) (by kernel_rfl) rfl (fun _ _ h_ => R.asE rfl (by conv => lhs; whnf) (TL.nil h_)) ?_
            refine Plan.done (Post.thnN ?_)
            refine T.has Has.nil ?_
            refine T.ret ?_
            have hM : trait_Check_1_m q0 a0 a1 = true := by subst e12; rw [trait_Check_1_m, if_neg g8, if_pos g15, if_t g20, if_pos g26, if_pos g29]
            exact fin1L (v := .bool true) [] rfl rfl (List.Sublist.refl _) ⟨rfl, by first | rw [hM] | rfl⟩
          · refine Plan.v 24 [25, 26, 27, 28, 29, 30, 31, 32, 33, 34, 35] (by kernel_rfl) (by kernel_rfl) (by kernel_rfl) (by kernel_rfl) rfl (fun _ _ h_ => R.ldH Tryz.isAgg22 rfl rfl (sb4_1 _ _ hb0) rfl (TL.nil h_)) ?_
            refine Plan.v 25 [26, 27, 28, 29, 30, 31, 32, 33, 34, 35] (by kernel_rfl) (by kernel_rfl) (by kernel_rfl) (by kernel_rfl) rfl (fun _ _ h_ => R.mvE rfl (by conv => lhs; whnf) (TL.nil h_)) ?_
            refine Plan.v 26 [27, 28, 29, 30, 31, 32, 33, 34, 35] (by kernel_rfl) (by kernel_rfl) (by kernel_rfl) (by kernel_rfl) rfl (fun _ _ h_ => R.subI rfl rfl rfl (by omega) (TL.nil h_)) ?_
            have hl33 : ((a0 - 1)).toNat < q0.length := by first | omega | (simp; done) | (simp; omega) | (simp at *; omega)
            obtain ⟨y33, e33, h33⟩ : ∃ y, y = (q0.getD (((a0 - 1)).toNat) (((0, (false, false, 0, 0, 0)) : Int × (Bool × Bool × Int × Int × Int)) : Int × (Bool × Bool × Int × Int × Int))) ∧ q0[((a0 - 1)).toNat]? = some y := ⟨_, rfl, getD_get (by first | exact hl33 | simpa using hl33 | (rw [(sortI_perm _).length_eq]; exact hl33))⟩
            obtain ⟨b33, o33, i33, k33⟩ := RdS.elem (hq0.mono sb4_1) h33
            obtain ⟨l33, g33, k33⟩ := k33
            obtain rfl : l33 = [.int .i64 (y33.1), .bool (y33.2.1), .bool (y33.2.2.1), .int .i64 (y33.2.2.2.1), .int .i64 (y33.2.2.2.2.1), .int .i64 (y33.2.2.2.2.2)] := g33
            refine Plan.v 27 [28, 29, 30, 31, 32, 33, 34, 35] (by kernel_rfl) (by kernel_rfl) (by kernel_rfl) (by kernel_rfl) rfl (fun _ _ h_ => R.ixp Tryz.underlying22 Tryz.sizeOf55 rfl rfl rfl (by first | omega | (simp; done) | (simp; omega) | (simp at *; omega)) i33 (TL.nil h_)) ?_
            refine Plan.v 28 [29, 30, 31, 32, 33, 34, 35] (by kernel_rfl) (by kernel_rfl) (by kernel_rfl) (by kernel_rfl) rfl (fun _ _ h_ => R.fldA Tryz.underlying55 rfl Tryz.sizeOf3 (by decide) rfl rfl (TL.nil h_)) ?_
            refine Plan.v 29 [30, 31, 32, 33, 34, 35] (by kernel_rfl) (by kernel_rfl) (by kernel_rfl) (by kernel_rfl) rfl (fun _ _ h_ => R.ldC Tryz.isAgg3 rfl rfl (k33 0 _ rfl) (TL.nil h_)) ?_
            refine Plan.v 30 [31, 32, 33, 34, 35] (by kernel_rfl) (by kernel_rfl) (by kernel_rfl) (by kernel_rfl) rfl (fun _ _ h_ => R.fldA Tryz.underlying55 rfl Tryz.sizeOf3 (by decide) rfl rfl (TL.nil h_)) ?_
            refine Plan.v 31 [32, 33, 34, 35] (by kernel_rfl) (by kernel_rfl) (by kernel_rfl) (by kernel_rfl) rfl (fun _ _ h_ => R.ldH Tryz.isAgg3 rfl rfl hb4_1 rfl (TL.nil h_)) ?_
            refine Plan.v 32 [33, 34, 35] (by kernel_rfl) (by kernel_rfl) (by kernel_rfl) (by kernel_rfl) rfl (fun _ _ h_ => R.lss rfl rfl rfl (TL.nil h_)) ?_
            refine Plan.v 33 [34, 35] (by kernel_rfl) (by kernel_rfl) (by kernel_rfl) (by kernel_rfl) rfl (fun _ _ h_ => R.pkFE rfl rfl (by conv => lhs; whnf) (TL.nil h_)) ?_
            refine Plan.v 34 [35] (by kernel_rfl) (by kernel_rfl) (by kernel_rfl) (by kernel_rfl) rfl (fun _ _ h_ => R.pkTE rfl rfl (by conv => lhs; whnf) (TL.nil h_)) ?_
            refine Plan.v 35 [] (by kernel_rfl) (by kernel_rfl) (by kernel_rfl) (by kernel_rfl) rfl (fun _ _ h_ => R.asE rfl (by conv => lhs; whnf) (TL.nil h_)) ?_
            refine Plan.done (Post.thnN ?_)
            refine T.has Has.nil ?_
            refine T.ret ?_
            have hM : trait_Check_1_m q0 a0 a1 = (decide (y33.1 < a1.1)) := by subst e33; subst e12; rw [trait_Check_1_m, if_neg g8, if_pos g15, if_t g20, if_pos g26, if_neg g29]
            exact fin1L (v := .bool (decide (y33.1 < a1.1))) [] rfl rfl (List.Sublist.refl _) ⟨rfl, by first | rw [hM] | rfl⟩
        · refine Plan.v 21 [22, 23, 24, 25, 26, 27, 28, 29, 30, 31, 32, 33, 34, 35] (by kernel_rfl) (by kernel_rfl) (by kernel_rfl) (by kernel_rfl) rfl (fun _ _ h_ => TL.off rfl rfl rfl (TL.nil h_)) ?_
          refine Plan.v 22 [23, 24, 25, 26, 27, 28, 29, 30, 31, 32, 33, 34, 35] (by kernel_rfl) (by kernel_rfl) (by kernel_rfl) (by kernel_rfl) rfl (fun _ _ h_ => TL.off rfl rfl rfl (TL.nil h_)) ?_
          refine Plan.v 23 [24, 25, 26, 27, 28, 29, 30, 31, 32, 33, 34, 35] (by kernel_rfl) (by kernel_rfl) (by kernel_rfl) (by kernel_rfl) rfl (fun _ _ h_ => TL.off rfl rfl rfl (TL.nil h_)) ?_
          refine Plan.v 24 [25, 26, 27, 28, 29, 30, 31, 32, 33, 34, 35] (by kernel_rfl) (by kernel_rfl) (by kernel_rfl) (by kernel_rfl) rfl (fun _ _ h_ => TL.offU rfl rfl (TL.nil h_)) ?_
          refine Plan.v 25 [26, 27, 28, 29, 30, 31, 32, 33, 34, 35] (by kernel_rfl) (by kernel_rfl) (by kernel_rfl) (by kernel_rfl) rfl (fun _ _ h_ => TL.offU rfl rfl (TL.nil h_)) ?_
          refine Plan.v 26 [27, 28, 29, 30, 31, 32, 33, 34, 35] (by kernel_rfl) (by kernel_rfl) (by kernel_rfl) (by kernel_rfl) rfl (fun _ _ h_ => TL.offU rfl rfl (TL.nil h_)) ?_
          refine Plan.v 27 [28, 29, 30, 31, 32, 33, 34, 35] (by kernel_rfl) (by kernel_rfl) (by kernel_rfl) (by kernel_rfl) rfl (fun _ _ h_ => TL.offU rfl rfl (TL.nil h_)) ?_
          refine Plan.v 28 [29, 30, 31, 32, 33, 34, 35] (by kernel_rfl) (by kernel_rfl) (by kernel_rfl) (by kernel_rfl) rfl (fun _ _ h_ => TL.offU rfl rfl (TL.nil h_)) ?_
          refine Plan.v 29 [30, 31, 32, 33, 34, 35] (by kernel_rfl) (by kernel_rfl) (by kernel_rfl) (by kernel_rfl) rfl (fun _ _ h_ => TL.offU rfl rfl (TL.nil h_)) ?_
          refine Plan.v 30 [31, 32, 33, 34, 35] (by kernel_rfl) (by kernel_rfl) (by kernel_rfl) (by kernel_rfl) rfl (fun _ _ h_ => TL.offU rfl rfl (TL.nil h_)) ?_
          refine Plan.v 31 [32, 33, 34, 35] (by kernel_rfl) (by kernel_rfl) (by kernel_rfl) (by kernel_rfl) rfl (fun _ _ h_ => TL.offU rfl rfl (TL.nil h_)) ?_
          refine Plan.v 32 [33, 34, 35] (by kernel_rfl) (by kernel_rfl) (by kernel_rfl) (by kernel_rfl) rfl (fun _ _ h_ => TL.offU rfl rfl (TL.nil h_)) ?_
          refine Plan.v 33 [34, 35] (by kernel_rfl) (by kernel_rfl) (by kernel_rfl) (by kernel_rfl) rfl (fun _ _ h_ => TL.off rfl rfl rfl (TL.nil h_)) ?_
          refine Plan.v 34 [35] (by kernel_rfl) (by kernel_rfl) (by kernel_rfl) (by kernel_rfl) rfl (fun _ _ h_ => R.pkFE rfl rfl (by conv => lhs; whnf) (TL.nil h_)) ?_
          refine Plan.v 35 [] (by kernel_rfl) (by kernel_rfl) (by kernel_rfl) (by kernel_rfl) rfl (fun _ _ h_ => R.asE rfl (by conv => lhs; whnf) (TL.nil h_)) ?_
          refine Plan.done (Post.thnN ?_)
          refine T.has Has.nil ?_
          refine T.ret ?_
          have hM : trait_Check_1_m q0 a0 a1 = false := by subst e12; rw [trait_Check_1_m, if_neg g8, if_pos g15, if_t g20, if_neg g26]
          exact fin1L (v := .bool false) [] rfl rfl (List.Sublist.refl _) ⟨rfl, by first | rw [hM] | rfl⟩
      · refine Plan.v 15 [16, 17, 18, 19, 20, 21, 22, 23, 24, 25, 26, 27, 28, 29, 30, 31, 32, 33, 34, 35] (by kernel_rfl) (by kernel_rfl) (by kernel_rfl) (by kernel_rfl) rfl (fun _ _ h_ => TL.off rfl rfl rfl (TL.nil h_)) ?_
        refine Plan.v 16 [17, 18, 19, 20, 21, 22, 23, 24, 25, 26, 27, 28, 29, 30, 31, 32, 33, 34, 35] (by kernel_rfl) (by kernel_rfl) (by kernel_rfl) (by kernel_rfl) rfl (fun _ _ h_ => TL.off rfl rfl rfl (TL.nil h_)) ?_
        refine Plan.v 17 [18, 19, 20, 21, 22, 23, 24, 25, 26, 27, 28, 29, 30, 31, 32, 33, 34, 35] (by kernel_rfl) (by kernel_rfl) (by kernel_rfl) (by kernel_rfl) rfl (fun _ _ h_ => TL.off rfl rfl rfl (TL.nil h_)) ?_
        refine Plan.v 18 [19, 20, 21, 22, 23, 24, 25, 26, 27, 28, 29, 30, 31, 32, 33, 34, 35] (by kernel_rfl) (by kernel_rfl) (by kernel_rfl) (by kernel_rfl) rfl (fun _ _ h_ => TL.off rfl rfl rfl (TL.nil h_)) ?_
        refine Plan.v 19 [20, 21, 22, 23, 24, 25, 26, 27, 28, 29, 30, 31, 32, 33, 34, 35] (by kernel_rfl) (by kernel_rfl) (by kernel_rfl) (by kernel_rfl) rfl (fun _ _ h_ => R.pkFE rfl rfl (by conv => lhs; whnf) (TL.nil h_)) ?_
        refine Plan.v 20 [21, 22, 23, 24, 25, 26, 27, 28, 29, 30, 31, 32, 33, 34, 35] (by kernel_rfl) (by kernel_rfl) (by kernel_rfl) (by kernel_rfl) rfl (fun _ _ h_ => R.mvE rfl (by conv => lhs; whnf) (TL.nil h_)) ?_
        refine Plan.v 21 [22, 23, 24, 25, 26, 27, 28, 29, 30, 31, 32, 33, 34, 35] (by kernel_rfl) (by kernel_rfl) (by kernel_rfl) (by kernel_rfl) rfl (fun _ _ h_ => TL.off rfl rfl rfl (TL.nil h_)) ?_
        refine Plan.v 22 [23, 24, 25, 26, 27, 28, 29, 30, 31, 32, 33, 34, 35] (by kernel_rfl) (by kernel_rfl) (by kernel_rfl) (by kernel_rfl) rfl (fun _ _ h_ => TL.off rfl rfl rfl (TL.nil h_)) ?_
        refine Plan.v 23 [24, 25, 26, 27, 28, 29, 30, 31, 32, 33, 34, 35] (by kernel_rfl) (by kernel_rfl) (by kernel_rfl) (by kernel_rfl) rfl (fun _ _ h_ => TL.off rfl rfl rfl (TL.nil h_)) ?_
        refine Plan.v 24 [25, 26, 27, 28, 29, 30, 31, 32, 33, 34, 35] (by kernel_rfl) (by kernel_rfl) (by kernel_rfl) (by kernel_rfl) rfl (fun _ _ h_ => TL.offU rfl rfl (TL.nil h_)) ?_
        refine Plan.v 25 [26, 27, 28, 29, 30, 31, 32, 33, 34, 35] (by kernel_rfl) (by kernel_rfl) (by kernel_rfl) (by kernel_rfl) rfl (fun _ _ h_ => TL.offU rfl rfl (TL.nil h_)) ?_
        refine Plan.v 26 [27, 28, 29, 30, 31, 32, 33, 34, 35] (by kernel_rfl) (by kernel_rfl) (by kernel_rfl) (by kernel_rfl) rfl (fun _ _ h_ => TL.offU rfl rfl (TL.nil h_)) ?_
        refine Plan.v 27 [28, 29, 30, 31, 32, 33, 34, 35] (by kernel_rfl) (by kernel_rfl) (by kernel_rfl) (by kernel_rfl) rfl (fun _ _ h_ => TL.offU rfl rfl (TL.nil h_)) ?_
        refine Plan.v 28 [29, 30, 31, 32, 33, 34, 35] (by kernel_rfl) (by kernel_rfl) (by kernel_rfl) (by kernel_rfl) rfl (fun _ _ h_ => TL.offU rfl rfl (TL.nil h_)) ?_
        refine Plan.v 29 [30, 31, 32, 33, 34, 35] (by kernel_rfl) (by kernel_rfl) (by kernel_rfl) (by kernel_rfl) rfl (fun _ _ h_ => TL.offU rfl rfl (TL.nil h_)) ?_
        refine Plan.v 30 [31, 32, 33, 34, 35] (by kernel_rfl) (by kernel_rfl) (by kernel_rfl) (by kernel_rfl) rfl (fun _ _ h_ => TL.offU rfl rfl (TL.nil h_)) ?_
        refine Plan.v 31 [32, 33, 34, 35] (by kernel_rfl) (by kernel_rfl) (by kernel_rfl) (by kernel_rfl) rfl (fun _ _ h_ => TL.offU rfl rfl (TL.nil h_)) ?_
        refine Plan.v 32 [33, 34, 35] (by kernel_rfl) (by kernel_rfl) (by kernel_rfl) (by kernel_rfl) rfl (fun _ _ h_ => TL.offU rfl rfl (TL.nil h_)) ?_
        refine Plan.v 33 [34, 35] (by kernel_rfl) (by kernel_rfl) (by kernel_rfl) (by kernel_rfl) rfl (fun _ _ h_ => TL.off rfl rfl rfl (TL.nil h_)) ?_
        refine Plan.v 34 [35] (by kernel_rfl) (by kernel_rfl) (by kernel_rfl) (by kernel_rfl) rfl (fun _ _ h_ => R.pkFE rfl rfl (by conv => lhs; whnf) (TL.nil h_)) ?_
        refine Plan.v 35 [] (by kernel_rfl) (by kernel_rfl) (by kernel_rfl) (by kernel_rfl) rfl (fun _ _ h_ => R.asE rfl (by conv => lhs; whnf) (TL.nil h_)) ?_
        refine Plan.done (Post.thnN ?_)
        refine T.has Has.nil ?_
        refine T.ret ?_
        have hM : trait_Check_1_m q0 a0 a1 = false := by subst e12; rw [trait_Check_1_m, if_neg g8, if_pos g15, if_f g20]
        exact fin1L (v := .bool false) [] rfl rfl (List.Sublist.refl _) ⟨rfl, by first | rw [hM] | rfl⟩
    · refine Plan.v 10 [11, 12, 13, 14, 15, 16, 17, 18, 19, 20, 21, 22, 23, 24, 25, 26, 27, 28, 29, 30, 31, 32, 33, 34, 35] (by kernel_rfl) (by kernel_rfl) (by kernel_rfl) (by kernel_rfl) rfl (fun _ _ h_ => TL.off rfl rfl rfl (TL.nil h_)) ?_
      refine Plan.v 11 [12, 13, 14, 15, 16, 17, 18, 19, 20, 21, 22, 23, 24, 25, 26, 27, 28, 29, 30, 31, 32, 33, 34, 35] (by kernel_rfl) (by kernel_rfl) (by kernel_rfl) (by kernel_rfl) rfl (fun _ _ h_ => TL.off rfl rfl rfl (TL.nil h_)) ?_
      refine Plan.v 12 [13, 14, 15, 16, 17, 18, 19, 20, 21, 22, 23, 24, 25, 26, 27, 28, 29, 30, 31, 32, 33, 34, 35] (by kernel_rfl) (by kernel_rfl) (by kernel_rfl) (by kernel_rfl) rfl (fun _ _ h_ => TL.off rfl rfl rfl (TL.nil h_)) ?_
      refine Plan.v 13 [14, 15, 16, 17, 18, 19, 20, 21, 22, 23, 24, 25, 26, 27, 28, 29, 30, 31, 32, 33, 34, 35] (by kernel_rfl) (by kernel_rfl) (by kernel_rfl) (by kernel_rfl) rfl (fun _ _ h_ => R.pkFE rfl rfl (by conv => lhs; whnf) (TL.nil h_)) ?_
      refine Plan.v 14 [15, 16, 17, 18, 19, 20, 21, 22, 23, 24, 25, 26, 27, 28, 29, 30, 31, 32, 33, 34, 35] (by kernel_rfl) (by kernel_rfl) (by kernel_rfl) (by kernel_rfl) rfl (fun _ _ h_ => R.mvE rfl (by conv => lhs; whnf) (TL.nil h_)) ?_
      refine Plan.v 15 [16, 17, 18, 19, 20, 21, 22, 23, 24, 25, 26, 27, 28, 29, 30, 31, 32, 33, 34, 35] (by kernel_rfl) (by kernel_rfl) (by kernel_rfl) (by kernel_rfl) rfl (fun _ _ h_ => TL.off rfl rfl rfl (TL.nil h_)) ?_
      refine Plan.v 16 [17, 18, 19, 20, 21, 22, 23, 24, 25, 26, 27, 28, 29, 30, 31, 32, 33, 34, 35] (by kernel_rfl) (by kernel_rfl) (by kernel_rfl) (by kernel_rfl) rfl (fun _ _ h_ => TL.off rfl rfl rfl (TL.nil h_)) ?_
      refine Plan.v 17 [18, 19, 20, 21, 22, 23, 24, 25, 26, 27, 28, 29, 30, 31, 32, 33, 34, 35] (by kernel_rfl) (by kernel_rfl) (by kernel_rfl) (by kernel_rfl) rfl (fun _ _ h_ => TL.off rfl rfl rfl (TL.nil h_)) ?_
      refine Plan.v 18 [19, 20, 21, 22, 23, 24, 25, 26, 27, 28, 29, 30, 31, 32, 33, 34, 35] (by kernel_rfl) (by kernel_rfl) (by kernel_rfl) (by kernel_rfl) rfl (fun _ _ h_ => TL.off rfl rfl rfl (TL.nil h_)) ?_
      refine Plan.v 19 [20, 21, 22, 23, 24, 25, 26, 27, 28, 29, 30, 31, 32, 33, 34, 35] (by kernel_rfl) (by kernel_rfl) (by kernel_rfl) (by kernel_rfl) rfl (fun _ _ h_ => R.pkFE rfl rfl (by conv => lhs; whnf) (TL.nil h_)) ?_
      refine Plan.v 20 [21, 22, 23, 24, 25, 26, 27, 28, 29, 30, 31, 32, 33, 34, 35] (by kernel_rfl) (by kernel_rfl) (by kernel_rfl) (by kernel_rfl) rfl (fun _ _ h_ => R.mvE rfl (by conv => lhs; whnf) (TL.nil h_)) ?_
      refine Plan.v 21 [22, 23, 24, 25, 26, 27, 28, 29, 30, 31, 32, 33, 34, 35] (by kernel_rfl) (by kernel_rfl) (by kernel_rfl) (by kernel_rfl) rfl (fun _ _ h_ => TL.off rfl rfl rfl (TL.nil h_)) ?_
      refine Plan.v 22 [23, 24, 25, 26, 27, 28, 29, 30, 31, 32, 33, 34, 35] (by kernel_rfl) (by kernel_rfl) (by kernel_rfl) (by kernel_rfl) rfl (fun _ _ h_ => TL.off rfl rfl rfl (TL.nil h_)) ?_
      refine Plan.v 23 [24, 25, 26, 27, 28, 29, 30, 31, 32, 33, 34, 35] (by kernel_rfl) (by kernel_rfl) (by kernel_rfl) (by kernel_rfl) rfl (fun _ _ h_ => TL.off rfl rfl rfl (TL.nil h_)) ?_
      refine Plan.v 24 [25, 26, 27, 28, 29, 30, 31, 32, 33, 34, 35] (by kernel_rfl) (by kernel_rfl) (by kernel_rfl) (by kernel_rfl) rfl (fun _ _ h_ => TL.offU rfl rfl (TL.nil h_)) ?_
      refine Plan.v 25 [26, 27, 28, 29, 30, 31, 32, 33, 34, 35] (by kernel_rfl) (by kernel_rfl) (by kernel_rfl) (by kernel_rfl) rfl (fun _ _ h_ => TL.offU rfl rfl (TL.nil h_)) ?_
      refine Plan.v 26 [27, 28, 29, 30, 31, 32, 33, 34, 35] (by kernel_rfl) (by kernel_rfl) (by kernel_rfl) (by kernel_rfl) rfl (fun _ _ h_ => TL.offU rfl rfl (TL.nil h_)) ?_
      refine Plan.v 27 [28, 29, 30, 31, 32, 33, 34, 35] (by kernel_rfl) (by kernel_rfl) (by kernel_rfl) (by kernel_rfl) rfl (fun _ _ h_ => TL.offU rfl rfl (TL.nil h_)) ?_
      refine Plan.v 28 [29, 30, 31, 32, 33, 34, 35] (by kernel_rfl) (by kernel_rfl) (by kernel_rfl) (by kernel_rfl) rfl (fun _ _ h_ => TL.offU rfl rfl (TL.nil h_)) ?_
      refine Plan.v 29 [30, 31, 32, 33, 34, 35] (by kernel_rfl) (by kernel_rfl) (by kernel_rfl) (by kernel_rfl) rfl (fun _ _ h_ => TL.offU rfl rfl (TL.nil h_)) ?_
      refine Plan.v 30 [31, 32, 33, 34, 35] (by kernel_rfl) (by kernel_rfl) (by kernel_rfl) (by kernel_rfl) rfl (fun _ _ h_ => TL.offU rfl rfl (TL.nil h_)) ?_
      refine Plan.v 31 [32, 33, 34, 35] (by kernel_rfl) (by kernel_rfl) (by kernel_rfl) (by kernel_rfl) rfl (fun _ _ h_ => TL.offU rfl rfl (TL.nil h_)) ?_
      refine Plan.v 32 [33, 34, 35] (by kernel_rfl) (by kernel_rfl) (by kernel_rfl) (by kernel_rfl) rfl (fun _ _ h_ => TL.offU rfl rfl (TL.nil h_)) ?_
      refine Plan.v 33 [34, 35] (by kernel_rfl) (by kernel_rfl) (by kernel_rfl) (by kernel_rfl) rfl (fun _ _ h_ => TL.off rfl rfl rfl (TL.nil h_)) ?_
      refine Plan.v 34 [35] (by kernel_rfl) (by kernel_rfl) (by kernel_rfl) (by kernel_rfl) rfl (fun _ _ h_ => R.pkFE rfl rfl (by conv => lhs; whnf) (TL.nil h_)) ?_
      refine Plan.v 35 [] (by kernel_rfl) (by kernel_rfl) (by kernel_rfl) (by kernel_rfl) rfl (fun _ _ h_ => R.asE rfl (by conv => lhs; whnf) (TL.nil h_)) ?_
      refine Plan.done (Post.thnN ?_)
      refine T.has Has.nil ?_
      refine T.ret ?_
      have hM : trait_Check_1_m q0 a0 a1 = false := by subst e12; rw [trait_Check_1_m, if_neg g8, if_neg g15]
      exact fin1L (v := .bool false) [] rfl rfl (List.Sublist.refl _) ⟨rfl, by first | rw [hM] | rfl⟩

def trait_Check_m (a0 : List (Int × (Bool × Bool × Int × Int × Int))) : Int :=
  LR.seq (if (2 : Int) ≤ (a0.length : Int) then (if (a0.length : Int) ≤ 200 then ((trait_all_Relation_m a0 ((fun z0 z1 => trait_Check_1_m a0 z0 z1)))) else false) else false : Bool) (fun sc1 => if (!sc1) = true then 230 else 0)
set_option maxHeartbeats 3200000 in
theorem trait_Check_c (H : Heap) {tG0 : TypeId} (hG0 : H 0 = some (.cells #[.int .i64 1, .bool true, .bool true, .int .i64 0, .int .i64 1, .int .i64 2, .int .i64 2, .bool true, .bool false, .int .i64 0, .int .i64 0, .int .i64 2] tG0)) (va0 : Value) (a0 : List (Int × (Bool × Bool × Int × Int × Int))) (ha0 : RdS relationE H va0 a0) : Fv Tryz.prog (fnv 28) [va0] H (.int .i64 (trait_Check_m a0)) := by
  refine Fc.of_body (N := 19) Tryz.func28 rfl (by kernel_rfl) rfl rfl ?_
  intro w0
  obtain ⟨Aa0, ca0, rfl, hca0, hda0, ha0⟩ := ha0.shape
  refine T.seq ?_
  refine T.region ?_
  refine R.box rfl (by conv => lhs; whnf) ?_
  intro b1
  refine R.asE rfl (by conv => lhs; whnf) ?_
  refine TL.shut .hd ?_
  intro Hb1_1 sb1_1 qb1_1
  have hb1_1 : Hb1_1 b1 = some (.cells #[.slice Aa0 a0.length ca0] 22) := shut1 qb1_1
  refine TL.nil (Post.thnN ?_)
  refine T.seq ?_
  refine T.cutK (ι := Bool) (fun b3c1 H' L' ds' => Has L' [] ∧ (if (2 : Int) ≤ (a0.length : Int) then (if (a0.length : Int) ≤ 200 then ((trait_all_Relation_m a0 ((fun z0 z1 => trait_Check_1_m a0 z0 z1)))) else false) else false : Bool) = b3c1) (fun b3c1 => [(3, .bool (b3c1))]) ?_ ?_
  · refine T.region ?_
    refine R.ldH Tryz.isAgg22 rfl rfl hb1_1 rfl ?_
    refine R.len Tryz.underlying22 rfl rfl ?_
    refine R.geq rfl rfl rfl ?_
    refine R.mvE rfl (by conv => lhs; whnf) ?_
    refine TL.gsplitD 7 rfl (fun g7 => ?_) (fun g7 => ?_)
    · refine R.ldH Tryz.isAgg22 rfl rfl hb1_1 rfl ?_
      refine R.len Tryz.underlying22 rfl rfl ?_
      refine R.leq rfl rfl rfl ?_
      refine R.pkTE rfl rfl (by conv => lhs; whnf) ?_
      refine R.mvE rfl (by conv => lhs; whnf) ?_
      refine TL.gsplitD 12 rfl (fun g12 => ?_) (fun g12 => ?_)
      · refine R.ldH Tryz.isAgg22 rfl rfl hb1_1 rfl ?_
        refine R.mkf (cs := [_]) rfl rfl ?_
        refine R.callv rfl rfl rfl (trait_all_Relation_c _ _ a0 (ha0.mono sb1_1) _ (fun z0 z1 => trait_Check_1_m a0 z0 z1) (fun H2 h2 z0 z1 hpre => trait_Check_1_c H2 (h2 _ _ (sb1_1 _ _ hG0)) b1 _ a0 ((ha0.mono sb1_1).mono h2) (h2 _ _ hb1_1) z0 z1 (by obtain ⟨k_, rfl, hk_⟩ := hpre; have := (List.getElem?_eq_some_iff.1 hk_).1; omega) (by obtain ⟨k_, rfl, hk_⟩ := hpre; have := (List.getElem?_eq_some_iff.1 hk_).1; omega))) ?_
        refine R.pkTE rfl rfl (by conv => lhs; whnf) ?_
        refine R.asE rfl (by conv => lhs; whnf) ?_
        refine TL.nil (Post.thnN ?_)
        exact ⟨(trait_all_Relation_m a0 ((fun z0 z1 => trait_Check_1_m a0 z0 z1))), HLe.refl _, ⟨Has.nil, (by rw [if_pos g7, if_pos g12])⟩, rfl, trivial⟩
      · refine TL.off rfl rfl rfl ?_
        refine TL.off rfl rfl rfl ?_
        refine TL.off rfl rfl rfl ?_
        refine R.pkFE rfl rfl (by conv => lhs; whnf) ?_
        refine R.asE rfl (by conv => lhs; whnf) ?_
        refine TL.nil (Post.thnN ?_)
        exact ⟨false, HLe.refl _, ⟨Has.nil, (by rw [if_pos g7, if_neg g12])⟩, rfl, trivial⟩
    · refine TL.off rfl rfl rfl ?_
      refine TL.off rfl rfl rfl ?_
      refine TL.off rfl rfl rfl ?_
      refine R.pkFE rfl rfl (by conv => lhs; whnf) ?_
      refine R.mvE rfl (by conv => lhs; whnf) ?_
      refine TL.off rfl rfl rfl ?_
      refine TL.off rfl rfl rfl ?_
      refine TL.off rfl rfl rfl ?_
      refine R.pkFE rfl rfl (by conv => lhs; whnf) ?_
      refine R.asE rfl (by conv => lhs; whnf) ?_
      refine TL.nil (Post.thnN ?_)
      exact ⟨false, HLe.refl _, ⟨Has.nil, (by rw [if_neg g7])⟩, rfl, trivial⟩
  · intro b3c1 σ_c1 H_c1 L_c1 ds_c1 s_c1 hI_c1
    obtain ⟨hLc1, hTc1⟩ := hI_c1
    refine T.has hLc1 ?_
    refine T.seq ?_
    refine T.seq ?_
    refine T.region ?_
    refine R.mvE rfl (by conv => lhs; whnf) ?_
    refine R.not rfl rfl ?_
    refine TL.nil (Post.thnN ?_)
    refine T.cond rfl (fun c18 => ?_) (fun c18 => ?_)
    · refine T.set 18 (.bool true) (congrArg Value.bool c18) ?_
      refine T.seq ?_
      refine T.region ?_
      refine R.asE rfl (by conv => lhs; whnf) ?_
      refine TL.nil (Post.thnN ?_)
      refine T.has Has.nil ?_
      refine T.ret (Post.thnR ?_)
      have hM : trait_Check_m a0 = 230 := by rw [trait_Check_m, hTc1, LR.seq_go, if_t c18]
      exact fin1L (v := .int .i64 230) [] rfl rfl (List.Sublist.refl _) ⟨rfl, by first | rw [hM] | rfl⟩
    · refine T.set 18 (.bool false) (congrArg Value.bool c18) ?_
      refine T.skip (Post.thnN ?_)
      refine T.seq ?_
      refine T.region ?_
      refine R.asE rfl (by conv => lhs; whnf) ?_
      refine TL.nil (Post.thnN ?_)
      refine T.has Has.nil ?_
      refine T.ret ?_
      have hM : trait_Check_m a0 = 0 := by rw [trait_Check_m, hTc1, LR.seq_go, if_f c18]
      exact fin1L (v := .int .i64 0) [] rfl rfl (List.Sublist.refl _) ⟨rfl, by first | rw [hM] | rfl⟩

def slices_BinarySearchFunc_Relation_int_l1 (a0 : List (Int × (Bool × Bool × Int × Int × Int))) (a1 : Int) (a2 : (Int × (Bool × Bool × Int × Int × Int)) → Int → Int) : Nat → (Int × Int) → Int × Int
  | 0, _ => default
  | ml1 + 1, sl1 => if sl1.1 < sl1.2 then (if ((a2 (a0.getD (((IntKind.i64.wrap (bshr .u64 (IntKind.u64.wrap (sl1.1 + sl1.2)) 1))).toNat) (((0, (false, false, 0, 0, 0)) : Int × (Bool × Bool × Int × Int × Int)) : Int × (Bool × Bool × Int × Int × Int))) a1) : Int) < 0 then (slices_BinarySearchFunc_Relation_int_l1 a0 a1 a2 ml1 ((((IntKind.i64.wrap (bshr .u64 (IntKind.u64.wrap (sl1.1 + sl1.2)) 1)) + 1), sl1.2))) else (slices_BinarySearchFunc_Relation_int_l1 a0 a1 a2 ml1 ((sl1.1, (IntKind.i64.wrap (bshr .u64 (IntKind.u64.wrap (sl1.1 + sl1.2)) 1)))))) else ((sl1.1, sl1.2))
def slices_BinarySearchFunc_Relation_int_m (a0 : List (Int × (Bool × Bool × Int × Int × Int))) (a1 : Int) (a2 : (Int × (Bool × Bool × Int × Int × Int)) → Int → Int) : Int × Bool :=
  LR.seq (slices_BinarySearchFunc_Relation_int_l1 a0 a1 a2 ((((a0.length : Int)) - 0).toNat + 1) ((0, (a0.length : Int)))) (fun ol1 => if ol1.1 < (a0.length : Int) then ((ol1.1, (decide (((a2 (a0.getD ol1.1.toNat (((0, (false, false, 0, 0, 0)) : Int × (Bool × Bool × Int × Int × Int)) : Int × (Bool × Bool × Int × Int × Int))) a1) : Int) = 0)))) else ((ol1.1, false)))
set_option maxHeartbeats 3200000 in
theorem slices_BinarySearchFunc_Relation_int_c (H : Heap) (va0 : Value) (a0 : List (Int × (Bool × Bool × Int × Int × Int))) (ha0 : RdS relationE H va0 a0) (a1 : Int) (fa2 : Value) (a2 : (Int × (Bool × Bool × Int × Int × Int)) → Int → Int) (ha2 : ∀ H', HLe H H' → ∀ (z0 : Int × (Bool × Bool × Int × Int × Int)) (z1 : Int), Fv Tryz.prog fa2 [.agg #[.int .i64 z0.1, .bool z0.2.1, .bool z0.2.2.1, .int .i64 z0.2.2.2.1, .int .i64 z0.2.2.2.2.1, .int .i64 z0.2.2.2.2.2], .int .i64 z1] H' (.int .i64 (a2 z0 z1))) (hl : a0.length ≤ 2000000) : Fv Tryz.prog (fnv 90) [va0, .int .i64 a1, fa2] H (.tuple #[.int .i64 (slices_BinarySearchFunc_Relation_int_m a0 a1 a2).1, .bool (slices_BinarySearchFunc_Relation_int_m a0 a1 a2).2]) := by
  refine Fc.of_body (N := 49) Tryz.func90 rfl (by kernel_rfl) rfl rfl ?_
  intro w0
  obtain ⟨Aa0, ca0, rfl, hca0, hda0, ha0⟩ := ha0.shape
  refine T.seq ?_
  refine T.region ?_
  refine R.asE rfl (by conv => lhs; whnf) ?_
  refine R.asE rfl (by conv => lhs; whnf) ?_
  refine TL.nil (Post.thnN ?_)
  refine T.seq ?_
  refine T.region ?_
  refine R.mvE rfl (by conv => lhs; whnf) ?_
  refine R.len Tryz.underlying22 rfl rfl ?_
  refine R.asE rfl (by conv => lhs; whnf) ?_
  refine TL.nil (Post.thnN ?_)
  refine T.seq ?_
  refine T.region ?_
  refine R.mvE rfl (by conv => lhs; whnf) ?_
  refine R.asE rfl (by conv => lhs; whnf) ?_
  refine R.asE rfl (by conv => lhs; whnf) ?_
  refine TL.nil (Post.thnN ?_)
  refine T.seq ?_
  refine T.block ?_
  refine T.loop (ι := Nat × Int × Int) (fun ⟨kl1, n9l1, n10l1⟩ H' L' ds' => (n10l1 - n9l1).toNat < kl1 ∧ Has L' [] ∧ 0 ≤ n9l1 ∧ n9l1 ≤ n10l1 ∧ n10l1 ≤ (a0.length : Int) ∧ slices_BinarySearchFunc_Relation_int_l1 a0 a1 a2 kl1 ((n9l1, n10l1)) = slices_BinarySearchFunc_Relation_int_l1 a0 a1 a2 ((((a0.length : Int)) - 0).toNat + 1) ((0, (a0.length : Int)))) (fun ⟨kl1, n9l1, n10l1⟩ => [(0, .slice Aa0 a0.length ca0), (1, .int .i64 a1), (2, fa2), (8, .int .i64 (a0.length : Int)), (9, .int .i64 n9l1), (10, .int .i64 n10l1)]) (fun ⟨kl1, n9l1, n10l1⟩ => kl1) (((((a0.length : Int)) - 0).toNat + 1), 0, (a0.length : Int)) ?_ ?_ ?_
  · exact ⟨(by omega), Has.nil, (by first | omega | (simp; done) | (simp; omega) | (simp at *; omega)), (by first | omega | (simp; done) | (simp; omega) | (simp at *; omega)), (by first | omega | (simp; done) | (simp; omega) | (simp at *; omega)), (by rfl)⟩
  · exact ⟨rfl, rfl, rfl, rfl, rfl, rfl, trivial⟩
  · intro ⟨kl1, n9l1, n10l1⟩ σ_l1 H_l1 L_l1 ds_l1 s_l1 hI_l1
    obtain ⟨hkl1, hI_l1⟩ := hI_l1
    obtain ⟨ml1, rfl⟩ : ∃ m, kl1 = m + 1 := ⟨kl1 - 1, by omega⟩
    obtain ⟨hLl1, hBl1_0, hBl1_1, hBl1_2, hQl1⟩ := hI_l1
    refine T.has hLl1 ?_
    refine T.seq ?_
    refine T.seq ?_
    refine T.region ?_
    refine R.mvE rfl (by conv => lhs; whnf) ?_
    refine R.mvE rfl (by conv => lhs; whnf) ?_
    refine R.lss rfl rfl rfl ?_
    refine TL.nil (Post.thnN ?_)
    refine T.condD rfl (fun c17 => ?_) (fun c17 => ?_)
    · refine T.set 17 (.bool true) (congrArg Value.bool (decide_eq_true c17)) ?_
      refine T.skip (Post.thnN ?_)
      refine T.block ?_
      refine T.seq ?_
      refine T.region ?_
      refine R.mvE rfl (by conv => lhs; whnf) ?_
      refine R.mvE rfl (by conv => lhs; whnf) ?_
      refine R.addI rfl rfl rfl (by omega) ?_
      refine R.conv Tryz.underlying3 Tryz.underlying118 rfl rfl ?_
      refine R.shr rfl rfl rfl (by omega) ?_
      refine R.conv Tryz.underlying118 Tryz.underlying3 rfl rfl ?_
      refine R.asE rfl (by conv => lhs; whnf) ?_
      refine TL.nil (Post.thnN ?_)
      refine T.seq ?_
      have hmid := midI (i := n9l1) (j := n10l1) (by omega) (by omega) (by omega)
      refine T.region ?_
      refine R.mvE rfl (by conv => lhs; whnf) ?_
      refine R.mvE rfl (by conv => lhs; whnf) ?_
      refine R.mvE rfl (by conv => lhs; whnf) ?_
      have hl27 : ((IntKind.i64.wrap (bshr .u64 (IntKind.u64.wrap (n9l1 + n10l1)) 1))).toNat < a0.length := by first | omega | (simp; done) | (simp; omega) | (simp at *; omega)
      obtain ⟨y27, e27, h27⟩ : ∃ y, y = (a0.getD (((IntKind.i64.wrap (bshr .u64 (IntKind.u64.wrap (n9l1 + n10l1)) 1))).toNat) (((0, (false, false, 0, 0, 0)) : Int × (Bool × Bool × Int × Int × Int)) : Int × (Bool × Bool × Int × Int × Int))) ∧ a0[((IntKind.i64.wrap (bshr .u64 (IntKind.u64.wrap (n9l1 + n10l1)) 1))).toNat]? = some y := ⟨_, rfl, getD_get (by first | exact hl27 | simpa using hl27 | (rw [(sortI_perm _).length_eq]; exact hl27))⟩
      obtain ⟨b27, o27, i27, k27⟩ := RdS.elem (ha0.mono s_l1) h27
      obtain ⟨l27, g27, k27⟩ := k27
      obtain rfl : l27 = [.int .i64 (y27.1), .bool (y27.2.1), .bool (y27.2.2.1), .int .i64 (y27.2.2.2.1), .int .i64 (y27.2.2.2.2.1), .int .i64 (y27.2.2.2.2.2)] := g27
      refine R.ixp Tryz.underlying22 Tryz.sizeOf55 rfl rfl rfl (by first | omega | (simp; done) | (simp; omega) | (simp at *; omega)) i27 ?_
      refine R.ldK (l := [.int .i64 (y27.1), .bool (y27.2.1), .bool (y27.2.2.1), .int .i64 (y27.2.2.2.1), .int .i64 (y27.2.2.2.2.1), .int .i64 (y27.2.2.2.2.2)]) Tryz.isAgg55 Tryz.sizeOf55 rfl rfl k27 rfl ?_
      refine R.mvE rfl (by conv => lhs; whnf) ?_
      refine R.callv rfl rfl rfl (ha2 _ s_l1 y27 (a1)) ?_
      refine R.lss rfl rfl rfl ?_
      refine TL.nil (Post.thnN ?_)
      refine T.condD rfl (fun c31 => ?_) (fun c31 => ?_)
      · refine T.set 31 (.bool true) (congrArg Value.bool (decide_eq_true c31)) ?_
        refine T.region ?_
        refine R.mvE rfl (by conv => lhs; whnf) ?_
        refine R.addI rfl rfl rfl (by omega) ?_
        refine R.asE rfl (by conv => lhs; whnf) ?_
        refine TL.nil (Post.blkN ?_)
        refine id (Post.thnN ?_)
        exact ⟨(ml1, ((IntKind.i64.wrap (bshr .u64 (IntKind.u64.wrap (n9l1 + n10l1)) 1)) + 1), n10l1), s_l1, ⟨(by first | omega | (simp; omega) | (simp at *; omega)), Has.nil, (by first | omega | (simp; done) | (simp; omega) | (simp at *; omega)), (by first | omega | (simp; done) | (simp; omega) | (simp at *; omega)), (by first | omega | (simp; done) | (simp; omega) | (simp at *; omega)), (by subst e27; rw [← hQl1, slices_BinarySearchFunc_Relation_int_l1]; rw [if_pos c17, if_pos c31])⟩, by show ml1 < ml1 + 1; omega, rfl, rfl, rfl, rfl, rfl, rfl, trivial⟩
      · refine T.set 31 (.bool false) (congrArg Value.bool (decide_eq_false c31)) ?_
        refine T.region ?_
        refine R.mvE rfl (by conv => lhs; whnf) ?_
        refine R.asE rfl (by conv => lhs; whnf) ?_
        refine TL.nil (Post.blkN ?_)
        refine id (Post.thnN ?_)
        exact ⟨(ml1, n9l1, (IntKind.i64.wrap (bshr .u64 (IntKind.u64.wrap (n9l1 + n10l1)) 1))), s_l1, ⟨(by first | omega | (simp; omega) | (simp at *; omega)), Has.nil, (by first | omega | (simp; done) | (simp; omega) | (simp at *; omega)), (by first | omega | (simp; done) | (simp; omega) | (simp at *; omega)), (by first | omega | (simp; done) | (simp; omega) | (simp at *; omega)), (by subst e27; rw [← hQl1, slices_BinarySearchFunc_Relation_int_l1]; rw [if_pos c17, if_neg c31])⟩, by show ml1 < ml1 + 1; omega, rfl, rfl, rfl, rfl, rfl, rfl, trivial⟩
    · refine T.set 17 (.bool false) (congrArg Value.bool (decide_eq_false c17)) ?_
      refine T.exit (Post.thnE (Post.thnE (Post.blkX ?_)))
      have hEl1 : slices_BinarySearchFunc_Relation_int_l1 a0 a1 a2 ((((a0.length : Int)) - 0).toNat + 1) ((0, (a0.length : Int))) = (n9l1, n10l1) := (by rw [← hQl1, slices_BinarySearchFunc_Relation_int_l1]; rw [if_neg c17])
      refine id (Post.thnN ?_)
      refine T.seq ?_
      refine T.region ?_
      refine R.mvE rfl (by conv => lhs; whnf) ?_
      refine R.mvE rfl (by conv => lhs; whnf) ?_
      refine R.mvE rfl (by conv => lhs; whnf) ?_
      refine R.lss rfl rfl rfl ?_
      refine R.mvE rfl (by conv => lhs; whnf) ?_
      refine TL.gsplitD 39 rfl (fun g39 => ?_) (fun g39 => ?_)
      · refine R.mvE rfl (by conv => lhs; whnf) ?_
        refine R.mvE rfl (by conv => lhs; whnf) ?_
        refine R.mvE rfl (by conv => lhs; whnf) ?_
        have hl43 : n9l1.toNat < a0.length := by first | omega | (simp; done) | (simp; omega) | (simp at *; omega)
        obtain ⟨y43, e43, h43⟩ : ∃ y, y = (a0.getD n9l1.toNat (((0, (false, false, 0, 0, 0)) : Int × (Bool × Bool × Int × Int × Int)) : Int × (Bool × Bool × Int × Int × Int))) ∧ a0[n9l1.toNat]? = some y := ⟨_, rfl, getD_get (by first | exact hl43 | simpa using hl43 | (rw [(sortI_perm _).length_eq]; exact hl43))⟩
        obtain ⟨b43, o43, i43, k43⟩ := RdS.elem (ha0.mono s_l1) h43
        obtain ⟨l43, g43, k43⟩ := k43
        obtain rfl : l43 = [.int .i64 (y43.1), .bool (y43.2.1), .bool (y43.2.2.1), .int .i64 (y43.2.2.2.1), .int .i64 (y43.2.2.2.2.1), .int .i64 (y43.2.2.2.2.2)] := g43
        refine R.ixp Tryz.underlying22 Tryz.sizeOf55 rfl rfl rfl (by first | omega | (simp; done) | (simp; omega) | (simp at *; omega)) i43 ?_
        refine R.ldK (l := [.int .i64 (y43.1), .bool (y43.2.1), .bool (y43.2.2.1), .int .i64 (y43.2.2.2.1), .int .i64 (y43.2.2.2.2.1), .int .i64 (y43.2.2.2.2.2)]) Tryz.isAgg55 Tryz.sizeOf55 rfl rfl k43 rfl ?_
        refine R.mvE rfl (by conv => lhs; whnf) ?_
        refine R.callv rfl rfl rfl (ha2 _ s_l1 y43 (a1)) ?_
        refine R.eql rfl rfl rfl ?_
        refine R.pkTE rfl rfl (by conv => lhs; whnf) ?_
        refine R.asE rfl (by conv => lhs; whnf) ?_
        refine R.asE rfl (by conv => lhs; whnf) ?_
        refine TL.nil (Post.thnN ?_)
        refine T.has Has.nil ?_
        refine T.ret ?_
        have hM : slices_BinarySearchFunc_Relation_int_m a0 a1 a2 = (n9l1, (decide (((a2 y43 a1) : Int) = 0))) := by subst e43; rw [slices_BinarySearchFunc_Relation_int_m, hEl1, LR.seq_go, if_pos g39]
        exact fin2L (v := .int .i64 n9l1) (v' := .bool (decide (((a2 y43 a1) : Int) = 0))) [] rfl rfl rfl (List.Sublist.refl _) ⟨rfl, by first | rw [hM] | rfl⟩
      · refine TL.off rfl rfl rfl ?_
        refine TL.off rfl rfl rfl ?_
        refine TL.off rfl rfl rfl ?_
        refine TL.off rfl rfl rfl ?_
        refine TL.off rfl rfl rfl ?_
        refine TL.off rfl rfl rfl ?_
        refine TL.off rfl rfl rfl ?_
        refine TL.off rfl rfl rfl ?_
        refine R.pkFE rfl rfl (by conv => lhs; whnf) ?_
        refine R.asE rfl (by conv => lhs; whnf) ?_
        refine R.asE rfl (by conv => lhs; whnf) ?_
        refine TL.nil (Post.thnN ?_)
        refine T.has Has.nil ?_
        refine T.ret ?_
        have hM : slices_BinarySearchFunc_Relation_int_m a0 a1 a2 = (n9l1, false) := by rw [slices_BinarySearchFunc_Relation_int_m, hEl1, LR.seq_go, if_neg g39]
        exact fin2L (v := .int .i64 n9l1) (v' := .bool false) [] rfl rfl rfl (List.Sublist.refl _) ⟨rfl, by first | rw [hM] | rfl⟩

def trait_find_1_m (a0 : Int × (Bool × Bool × Int × Int × Int)) (a1 : Int) : Int :=
  (IntKind.i64.wrap (a0.1 - a1))
set_option maxHeartbeats 3200000 in
theorem trait_find_1_c (H : Heap) (a0 : Int × (Bool × Bool × Int × Int × Int)) (a1 : Int) : Fv Tryz.prog (fnv 91) [.agg #[.int .i64 a0.1, .bool a0.2.1, .bool a0.2.2.1, .int .i64 a0.2.2.2.1, .int .i64 a0.2.2.2.2.1, .int .i64 a0.2.2.2.2.2], .int .i64 a1] H (.int .i64 (trait_find_1_m a0 a1)) := by
  refine Fc.of_body (N := 9) Tryz.func91 rfl (by kernel_rfl) rfl rfl ?_
  intro w0
  refine T.seq ?_
  refine T.region ?_
  refine R.box rfl (by conv => lhs; whnf) ?_
  intro b2
  refine R.asE rfl (by conv => lhs; whnf) ?_
  refine TL.shut .hd ?_
  intro Hb2_1 sb2_1 qb2_1
  have hb2_1 : Hb2_1 b2 = some (.cells #[.int .i64 (a0.1), .bool (a0.2.1), .bool (a0.2.2.1), .int .i64 (a0.2.2.2.1), .int .i64 (a0.2.2.2.2.1), .int .i64 (a0.2.2.2.2.2)] 55) := shut1 qb2_1
  refine TL.nil (Post.thnN ?_)
  refine T.seq ?_
  refine T.region ?_
  refine R.fldA Tryz.underlying55 rfl Tryz.sizeOf3 (by decide) rfl rfl ?_
  refine R.ldH Tryz.isAgg3 rfl rfl hb2_1 rfl ?_
  refine R.mvE rfl (by conv => lhs; whnf) ?_
  refine R.sub rfl rfl rfl ?_
  refine R.asE rfl (by conv => lhs; whnf) ?_
  refine TL.nil (Post.thnN ?_)
  refine T.has Has.nil ?_
  refine T.ret ?_
  have hM : trait_find_1_m a0 a1 = (IntKind.i64.wrap (a0.1 - a1)) := by rw [trait_find_1_m]
  exact fin1L (v := .int .i64 (IntKind.i64.wrap (a0.1 - a1))) [] rfl rfl (List.Sublist.refl _) ⟨rfl, by first | rw [hM] | rfl⟩

def trait_find_m (a0 : List (Int × (Bool × Bool × Int × Int × Int))) (a1 : Int) : Int × Bool :=
  LR.seq (slices_BinarySearchFunc_Relation_int_m a0 a1 ((fun z0 z1 => trait_find_1_m z0 z1))) (fun r8 => (r8.1, r8.2))
set_option maxHeartbeats 3200000 in
theorem trait_find_c (H : Heap) (va0 : Value) (a0 : List (Int × (Bool × Bool × Int × Int × Int))) (ha0 : RdS relationE H va0 a0) (a1 : Int) (hl : a0.length ≤ 2000000) : Fv Tryz.prog (fnv 66) [va0, .int .i64 a1] H (.tuple #[.int .i64 (trait_find_m a0 a1).1, .bool (trait_find_m a0 a1).2]) := by
  refine Fc.of_body (N := 11) Tryz.func66 rfl (by kernel_rfl) rfl rfl ?_
  intro w0
  obtain ⟨Aa0, ca0, rfl, hca0, hda0, ha0⟩ := ha0.shape
  refine T.seq ?_
  refine T.region ?_
  refine R.asE rfl (by conv => lhs; whnf) ?_
  refine R.asE rfl (by conv => lhs; whnf) ?_
  refine TL.nil (Post.thnN ?_)
  refine T.seq ?_
  refine T.region ?_
  refine R.mvE rfl (by conv => lhs; whnf) ?_
  refine R.mvE rfl (by conv => lhs; whnf) ?_
  obtain ⟨r8, er8⟩ : ∃ r, r = (slices_BinarySearchFunc_Relation_int_m a0 a1 ((fun z0 z1 => trait_find_1_m z0 z1))) := ⟨_, rfl⟩
  refine R.callv (v := .tuple #[.int .i64 r8.1, .bool r8.2]) rfl rfl rfl (by rw [er8]; exact slices_BinarySearchFunc_Relation_int_c _ _ a0 ha0 (a1) _ (fun z0 z1 => trait_find_1_m z0 z1) (fun H2 h2 z0 z1 => trait_find_1_c H2 z0 z1) (by first | omega | (simp; done) | (simp; omega) | (simp at *; omega))) ?_
  refine R.ext rfl rfl rfl ?_
  refine R.ext rfl rfl rfl ?_
  refine R.asE rfl (by conv => lhs; whnf) ?_
  refine R.asE rfl (by conv => lhs; whnf) ?_
  refine TL.nil (Post.thnN ?_)
  refine T.has Has.nil ?_
  refine T.ret ?_
  have hM : trait_find_m a0 a1 = (r8.1, r8.2) := by subst er8; rw [trait_find_m, LR.seq_go]
  exact fin2L (v := .int .i64 (r8.1)) (v' := .bool (r8.2)) [] rfl rfl rfl (List.Sublist.refl _) ⟨rfl, by first | rw [hM] | rfl⟩

end Go.SX

set_option linter.unusedVariables false
set_option linter.unusedSimpArgs false
namespace Go.SX
open Go
abbrev Tr := Bool × Bool × Int × Int × Int
abbrev Rl := Int × Tr
abbrev rl0 : Rl := (0, (false, false, 0, 0, 0))
theorem bs_rng {a : List Rl} {n : Int} {f : Rl → Int → Int} (hl : a.length ≤ 2000000) : ∀ (m : Nat) (i j : Int), 0 ≤ i → i ≤ j → j ≤ (a.length : Int) → 0 ≤ (slices_BinarySearchFunc_Relation_int_l1 a n f m (i, j)).1
  | 0, i, j, _, _, _ => by rw [slices_BinarySearchFunc_Relation_int_l1]; exact Int.le_refl _
  | m + 1, i, j, h0, h1, h2 => by
    rw [slices_BinarySearchFunc_Relation_int_l1]
    simp only
    by_cases c : i < j
    · have hm := midI h0 c (by omega)
      rw [if_pos c, hm]
      split
      · exact bs_rng hl m _ j (by omega) (by omega) h2
      · exact bs_rng hl m i _ h0 (by omega) (by omega)
    · rw [if_neg c]; exact h0
theorem bs_l1 {a : List Rl} {n : Int} {f : Rl → Int → Int} (hl : a.length ≤ 2000000) (hm : ∀ p q : Nat, p ≤ q → q < a.length → f (a.getD q rl0) n < 0 → f (a.getD p rl0) n < 0) : ∀ (m : Nat) (i j : Int), 0 ≤ i → i ≤ j → j ≤ (a.length : Int) → (j - i).toNat < m →
    ∃ k : Int, slices_BinarySearchFunc_Relation_int_l1 a n f m (i, j) = (k, k) ∧ i ≤ k ∧ k ≤ j ∧ (∀ p : Nat, i ≤ p → (p : Int) < k → f (a.getD p rl0) n < 0) ∧ (∀ p : Nat, k ≤ p → (p : Int) < j → ¬ f (a.getD p rl0) n < 0)
  | 0, i, j, _, _, _, h3 => by omega
  | m + 1, i, j, h0, h1, h2, h3 => by
    rw [slices_BinarySearchFunc_Relation_int_l1]
    simp only
    by_cases c : i < j
    · have hmd := midI h0 c (by omega)
      rw [if_pos c, hmd]
      by_cases c2 : f (a.getD ((i + j) / 2).toNat rl0) n < 0
      · rw [if_pos c2]
        obtain ⟨k, e, k1, k2, k3, k4⟩ := bs_l1 hl hm m ((i + j) / 2 + 1) j (by omega) (by omega) h2 (by omega)
        refine ⟨k, e, by omega, k2, fun p hp hk => ?_, k4⟩
        by_cases c3 : (i + j) / 2 + 1 ≤ (p : Int)
        · exact k3 p c3 hk
        · exact hm p ((i + j) / 2).toNat (by omega) (by omega) c2
      · rw [if_neg c2]
        obtain ⟨k, e, k1, k2, k3, k4⟩ := bs_l1 hl hm m i ((i + j) / 2) h0 (by omega) (by omega) (by omega)
        refine ⟨k, e, k1, by omega, k3, fun p hp hk => ?_⟩
        by_cases c3 : (p : Int) < (i + j) / 2
        · exact k4 p hp c3
        · exact fun h => c2 (hm ((i + j) / 2).toNat p (by omega) (by omega) h)
    · rw [if_neg c]
      exact ⟨i, by rw [show j = i by omega], Int.le_refl _, h1, fun p h4 h5 => by omega, fun p h4 h5 => by omega⟩
theorem find_rng (a : List Rl) (n : Int) (r : Int × Bool) (e : r = trait_find_m a n) (hl : a.length ≤ 2000000) : r.2 = true → 0 ≤ r.1 ∧ r.1 < (a.length : Int) := by
  subst e
  intro h
  have h0 := bs_rng (a := a) (n := n) (f := fun z0 z1 => trait_find_1_m z0 z1) hl (((a.length : Int) - 0).toNat + 1) 0 a.length (by omega) (by omega) (by omega)
  unfold trait_find_m slices_BinarySearchFunc_Relation_int_m at h ⊢
  simp only [LR.seq] at h ⊢
  generalize slices_BinarySearchFunc_Relation_int_l1 a n (fun z0 z1 => trait_find_1_m z0 z1) (((a.length : Int) - 0).toNat + 1) (0, a.length) = o at *
  by_cases c : o.1 < (a.length : Int)
  · rw [if_pos c]; exact ⟨h0, c⟩
  · rw [if_neg c] at h; cases h
/-- Which traits may be. -/
def MayT (t : Tr) : Prop := 0 ≤ t.2.2.1 ∧ t.2.2.1 ≤ 4 ∧ (0 ≤ t.2.2.2.1 ∧ t.2.2.2.1 ≤ 2) ∧ (0 ≤ t.2.2.2.2 ∧ t.2.2.2.2 ≤ 2)
theorem may1 (p : Int) : trait_May_1_m p = true ↔ 0 ≤ p ∧ p ≤ 2 := by
  unfold trait_May_1_m
  by_cases h : 0 ≤ p
  · rw [if_pos h, decide_eq_true_eq]; exact ⟨fun k => ⟨h, k⟩, fun k => k.2⟩
  · rw [if_neg h]; exact ⟨fun k => (by cases k), fun k => absurd k.1 h⟩
theorem may_iff (t : Tr) : trait_May_m t = 0 ↔ MayT t := by
  unfold trait_May_m MayT
  simp only [LR.seq]
  by_cases h1 : t.2.2.1 < 0
  · rw [if_pos h1, if_pos rfl]; exact ⟨fun k => by omega, fun k => by omega⟩
  rw [if_neg h1]
  by_cases h2 : (4 : Int) < t.2.2.1
  · rw [decide_eq_true h2, if_pos rfl]; exact ⟨fun k => by omega, fun k => by omega⟩
  rw [decide_eq_false h2, if_neg Bool.false_ne_true]
  have e1 := may1 t.2.2.2.1
  have e2 := may1 t.2.2.2.2
  cases h3 : trait_May_1_m t.2.2.2.1 with
  | false =>
    rw [Bool.not_false, if_pos rfl, if_pos rfl]
    refine ⟨fun k => by omega, fun k => ?_⟩
    have := e1.2 k.2.2.1; rw [h3] at this; cases this
  | true =>
    rw [Bool.not_true, if_neg Bool.false_ne_true]
    cases h4 : trait_May_1_m t.2.2.2.2 with
    | false =>
      rw [Bool.not_false, if_pos rfl]
      refine ⟨fun k => by omega, fun k => ?_⟩
      have := e2.2 k.2.2.2; rw [h4] at this; cases this
    | true =>
      rw [Bool.not_true, if_neg Bool.false_ne_true]
      exact ⟨fun _ => ⟨by omega, by omega, e1.1 h3, e2.1 h4⟩, fun _ => rfl⟩
/-- Relations that may be. -/
structure RelOk (a : List Rl) : Prop where
  n1 : 2 ≤ a.length
  n2 : a.length ≤ 200
  f0 : a.getD 0 rl0 = (1, (true, true, 0, 1, 2))
  f1 : a.getD 1 rl0 = (2, (true, false, 0, 0, 2))
  idx : ∀ (i : Nat) (r : Rl), a[i]? = some r → (1 ≤ r.1 ∧ r.1 ≤ 1048578) ∧ MayT r.2
  up : ∀ i : Nat, i + 1 < a.length → (a.getD i rl0).1 < (a.getD (i + 1) rl0).1
theorem all_rel (f : Int → Rl → Bool) : ∀ (l : List Rl) (k : Nat), (trait_all_Relation_l1 f l k () = .go () ∧ ∀ i s, l[i]? = some s → f ((k + i : Nat) : Int) s = true) ∨ (trait_all_Relation_l1 f l k () = .ret false ∧ ∃ i s, l[i]? = some s ∧ f ((k + i : Nat) : Int) s = false)
  | [], k => .inl ⟨rfl, fun i s h => by simp at h⟩
  | y :: ys, k => by
    rw [trait_all_Relation_l1]
    cases h : f (k : Int) y with
    | false => exact .inr ⟨by rw [Bool.not_false, if_pos rfl], 0, y, rfl, by simpa using h⟩
    | true =>
      rw [Bool.not_true, if_neg Bool.false_ne_true]
      rcases all_rel f ys (k + 1) with ⟨h1, h2⟩ | ⟨h1, i, s, h2, h3⟩
      · refine .inl ⟨h1, fun i s hs => ?_⟩
        cases i with
        | zero => simp at hs; subst hs; simpa using h
        | succ i => rw [show k + (i + 1) = k + 1 + i by omega]; exact h2 i s (by simpa using hs)
      · exact .inr ⟨h1, i + 1, s, by simpa using h2, by rw [show k + (i + 1) = k + 1 + i by omega]; exact h3⟩
theorem all_rel_m (f : Int → Rl → Bool) (l : List Rl) : trait_all_Relation_m l f = true ↔ ∀ i s, l[i]? = some s → f ((i : Nat) : Int) s = true := by
  unfold trait_all_Relation_m
  rcases all_rel f l 0 with ⟨h1, h2⟩ | ⟨h1, i, s, h2, h3⟩
  · rw [h1, LR.on_go]; exact ⟨fun _ i s hs => by simpa using h2 i s hs, fun _ => rfl⟩
  · rw [h1, LR.on_ret]
    exact ⟨fun h => (by cases h), fun h => (by have := h i s h2; rw [Nat.zero_add] at h3; rw [h3] at this; cases this)⟩
theorem tindex_iff (n : Int) : trait_index_m n = true ↔ 1 ≤ n ∧ n ≤ 1048578 := by
  unfold trait_index_m
  by_cases h : 1 ≤ n
  · rw [if_pos h, decide_eq_true_eq]; exact ⟨fun k => ⟨h, k⟩, fun k => k.2⟩
  · rw [if_neg h]; exact ⟨fun k => (by cases k), fun k => absurd k.1 h⟩
def relBeg (i : Int) : Rl := ([((1, (true, true, 0, 1, 2)) : Rl), ((2, (true, false, 0, 0, 2)) : Rl)] : List Rl).getD i.toNat rl0
theorem check1_iff (a : List Rl) (i : Int) (r : Rl) : trait_Check_1_m a i r = true ↔ ((2 ≤ i ∨ r = relBeg i) ∧ (1 ≤ r.1 ∧ r.1 ≤ 1048578) ∧ MayT r.2 ∧ (i = 0 ∨ (a.getD (i - 1).toNat rl0).1 < r.1)) := by
  have e1 := tindex_iff r.1
  have e2 := may_iff r.2
  have hT : (if trait_index_m r.1 = true then (if trait_May_m r.2 = 0 then (if i = 0 then true else decide ((a.getD (i - 1).toNat rl0).1 < r.1)) else false) else false) = true ↔ (1 ≤ r.1 ∧ r.1 ≤ 1048578) ∧ MayT r.2 ∧ (i = 0 ∨ (a.getD (i - 1).toNat rl0).1 < r.1) := by
    rw [and_t, and_t, or_t, decide_eq_true_eq, e1, e2]
  unfold trait_Check_1_m
  by_cases h : 2 ≤ i
  · rw [if_pos h]
    rw [hT]; exact ⟨fun k => ⟨.inl h, k⟩, fun k => k.2⟩
  · rw [if_neg h]
    change (if r = relBeg i then _ else _) = true ↔ _
    by_cases h2 : r = relBeg i
    · rw [if_pos h2]
      rw [hT]; exact ⟨fun k => ⟨.inr h2, k⟩, fun k => k.2⟩
    · rw [if_neg h2]
      exact ⟨fun k => (by cases k), fun k => by rcases k.1 with q | q; exact absurd q h; exact absurd q h2⟩
theorem tcheck_iff (a : List Rl) : (trait_Check_m a = 0 ↔ RelOk a) ∧ (trait_Check_m a = 0 ∨ trait_Check_m a = 230) := by
  unfold trait_Check_m
  simp only [LR.seq]
  by_cases h1 : (2 : Int) ≤ (a.length : Int)
  rotate_left
  · rw [if_neg h1]; exact ⟨⟨fun k => (by cases k), fun k => absurd k.n1 (by omega)⟩, .inr rfl⟩
  rw [if_pos h1]
  by_cases h2 : (a.length : Int) ≤ 200
  rotate_left
  · rw [if_neg h2]; exact ⟨⟨fun k => (by cases k), fun k => absurd k.n2 (by omega)⟩, .inr rfl⟩
  rw [if_pos h2]
  have hA := all_rel_m (fun z0 z1 => trait_Check_1_m a z0 z1) a
  have hiff : trait_all_Relation_m a (fun z0 z1 => trait_Check_1_m a z0 z1) = true ↔ RelOk a := by
    rw [hA]
    constructor
    · intro h
      have hg : ∀ (i : Nat) (r : Rl), a[i]? = some r → _ := fun i r hi => (check1_iff a i r).1 (h i r hi)
      have h00 := hg 0 _ (getD_get (z := rl0) (by omega))
      have h11 := hg 1 _ (getD_get (z := rl0) (by omega))
      refine ⟨by omega, by omega, ?_, ?_, fun i r hi => ⟨(hg i r hi).2.1, (hg i r hi).2.2.1⟩, fun i hi => ?_⟩
      · rcases h00.1 with q | q
        · omega
        · exact q
      · rcases h11.1 with q | q
        · omega
        · exact q
      · have := (hg (i + 1) _ (getD_get (z := rl0) hi)).2.2.2
        rcases this with q | q
        · omega
        · rwa [show (((i + 1 : Nat) : Int) - 1).toNat = i by omega] at q
    · intro h i r hi
      have hlt := (List.getElem?_eq_some_iff.1 hi).1
      refine (check1_iff a i r).2 ⟨?_, (h.idx i r hi).1, (h.idx i r hi).2, ?_⟩
      · match i, hi with
        | 0, hi => exact .inr (by have := h.f0; rw [List.getD_eq_getElem?_getD, hi] at this; exact this)
        | 1, hi => exact .inr (by have := h.f1; rw [List.getD_eq_getElem?_getD, hi] at this; exact this)
        | i + 2, hi => exact .inl (by omega)
      · cases i with
        | zero => exact .inl rfl
        | succ i =>
          refine .inr ?_
          rw [show (((i + 1 : Nat) : Int) - 1).toNat = i by omega]
          have := h.up i hlt
          rwa [show a.getD (i + 1) rl0 = r by rw [List.getD_eq_getElem?_getD, hi]; rfl] at this
  cases hc : trait_all_Relation_m a (fun z0 z1 => trait_Check_1_m a z0 z1) with
  | false => exact ⟨⟨fun k => (by cases k), fun k => by have := hiff.2 k; rw [hc] at this; cases this⟩, .inr rfl⟩
  | true => exact ⟨⟨fun _ => hiff.1 hc, fun _ => rfl⟩, .inl rfl⟩
end Go.SX

set_option linter.unusedVariables false
set_option linter.unusedSimpArgs false
namespace Go.SX
open Go Go.Proofs

def trait_Find_m (a0 : List (Int × (Bool × Bool × Int × Int × Int))) (a1 : Int) : (Bool × Bool × Int × Int × Int) × Bool :=
  LR.seq (trait_find_m a0 a1) (fun r11 => LR.seq (if (!r11.2) = true then true else ((decide (((trait_Check_m a0) : Int) ≠ 0))) : Bool) (fun sc1 => if sc1 = true then ((((false, false, 0, 0, 0) : Bool × Bool × Int × Int × Int), false)) else (((a0.getD r11.1.toNat (((0, (false, false, 0, 0, 0)) : Int × (Bool × Bool × Int × Int × Int)) : Int × (Bool × Bool × Int × Int × Int))).2, true))))
set_option maxHeartbeats 3200000 in
theorem trait_Find_c (H : Heap) {tG0 : TypeId} (hG0 : H 0 = some (.cells #[.int .i64 1, .bool true, .bool true, .int .i64 0, .int .i64 1, .int .i64 2, .int .i64 2, .bool true, .bool false, .int .i64 0, .int .i64 0, .int .i64 2] tG0)) (va0 : Value) (a0 : List (Int × (Bool × Bool × Int × Int × Int))) (ha0 : RdS relationE H va0 a0) (a1 : Int) (hl : a0.length ≤ 2000000) : Fv Tryz.prog (fnv 30) [va0, .int .i64 a1] H (.tuple #[.agg #[.bool (trait_Find_m a0 a1).1.1, .bool (trait_Find_m a0 a1).1.2.1, .int .i64 (trait_Find_m a0 a1).1.2.2.1, .int .i64 (trait_Find_m a0 a1).1.2.2.2.1, .int .i64 (trait_Find_m a0 a1).1.2.2.2.2], .bool (trait_Find_m a0 a1).2]) := by
  refine Fc.of_body (N := 27) Tryz.func30 rfl (by kernel_rfl) rfl rfl ?_
  intro w0
  obtain ⟨Aa0, ca0, rfl, hca0, hda0, ha0⟩ := ha0.shape
  refine T.seq ?_
  refine T.region ?_
  refine R.alloc Tryz.zeroValue53 rfl ?_
  intro b4
  refine R.asE rfl (by conv => lhs; whnf) ?_
  refine TL.nil (Post.thnN ?_)
  refine T.seq ?_
  refine T.region ?_
  refine R.mvE rfl (by conv => lhs; whnf) ?_
  refine R.mvE rfl (by conv => lhs; whnf) ?_
  obtain ⟨r11, er11⟩ : ∃ r, r = (trait_find_m a0 a1) := ⟨_, rfl⟩
  refine R.callv (v := .tuple #[.int .i64 r11.1, .bool r11.2]) rfl rfl rfl (by rw [er11]; exact trait_find_c _ _ a0 ha0 (a1) (by first | omega | (simp; done) | (simp; omega) | (simp at *; omega))) ?_
  have tf11 := find_rng _ _ _ er11 (by first | omega | (simp; done) | (simp; omega) | (simp at *; omega))
  refine R.mvE rfl (by conv => lhs; whnf) ?_
  refine R.ext rfl rfl rfl ?_
  refine R.ext rfl rfl rfl ?_
  refine R.asE rfl (by conv => lhs; whnf) ?_
  refine R.asE rfl (by conv => lhs; whnf) ?_
  refine TL.nil (Post.thnN ?_)
  refine T.seq ?_
  refine T.seq ?_
  refine T.cutK (ι := Bool) (fun b20c1 H' L' ds' => Has L' [[(b4, .cells #[.bool false, .bool false, .int .i64 0, .int .i64 0, .int .i64 0] 53)]] ∧ (if (!r11.2) = true then true else ((decide (((trait_Check_m a0) : Int) ≠ 0))) : Bool) = b20c1) (fun b20c1 => [(0, .slice Aa0 a0.length ca0), (4, .pointer (some ⟨b4, 0, none⟩)), (6, .int .i64 (r11.1)), (20, .bool (b20c1))]) ?_ ?_
  · refine T.region ?_
    refine R.mvE rfl (by conv => lhs; whnf) ?_
    refine R.not rfl rfl ?_
    refine R.mvE rfl (by conv => lhs; whnf) ?_
    refine TL.gsplit 16 rfl (fun g16 => ?_) (fun g16 => ?_)
    · refine TL.off rfl rfl rfl ?_
      refine TL.off rfl rfl rfl ?_
      refine TL.off rfl rfl rfl ?_
      refine R.pkTE rfl rfl (by conv => lhs; whnf) ?_
      refine TL.nil (Post.thnN ?_)
      exact ⟨true, HLe.refl _, ⟨(Has.cons .hd Has.nil), (by rw [if_t g16])⟩, rfl, rfl, rfl, rfl, trivial⟩
    · refine R.mvE rfl (by conv => lhs; whnf) ?_
      refine R.callv rfl rfl rfl (trait_Check_c _ hG0 _ a0 ha0) ?_
      refine R.neq rfl rfl rfl ?_
      refine R.pkFE rfl rfl (by conv => lhs; whnf) ?_
      refine TL.nil (Post.thnN ?_)
      exact ⟨(decide (((trait_Check_m a0) : Int) ≠ 0)), HLe.refl _, ⟨(Has.cons .hd Has.nil), (by rw [if_f g16])⟩, rfl, rfl, rfl, rfl, trivial⟩
  · intro b20c1 σ_c1 H_c1 L_c1 ds_c1 s_c1 hI_c1
    obtain ⟨hLc1, hTc1⟩ := hI_c1
    refine T.has hLc1 ?_
    refine T.cond rfl (fun c20 => ?_) (fun c20 => ?_)
    · refine T.set 20 (.bool true) (congrArg Value.bool c20) ?_
      have hZ20 := hTc1.trans c20
      try simp only [or_f, or_t, and_f, and_t, decide_eq_true_eq, decide_eq_false_iff_not, Bool.not_eq_true'] at hZ20
      refine T.seq ?_
      refine T.region ?_
      refine R.bld (cs := [.bool false, .bool false, .int .i64 0, .int .i64 0, .int .i64 0]) rfl (fun _ => by kernel_rfl) ?_
      refine R.stX (old := [.bool false, .bool false, .int .i64 0, .int .i64 0, .int .i64 0]) (l := [.bool false, .bool false, .int .i64 0, .int .i64 0, .int .i64 0]) (new := [.bool false, .bool false, .int .i64 0, .int .i64 0, .int .i64 0]) (et := 53) Tryz.sizeOf53 rfl rfl rfl rfl rfl (by show 0 + 5 ≤ 5; decide) rfl (all_one rfl) .hd ?_
      refine R.asE rfl (by conv => lhs; whnf) ?_
      refine TL.nil (Post.thnN ?_)
      refine T.has (Has.cons .hd Has.nil) ?_
      refine T.ret (Post.thnR ?_)
      have hM : trait_Find_m a0 a1 = (((false, false, 0, 0, 0) : Bool × Bool × Int × Int × Int), false) := by subst er11; rw [trait_Find_m, LR.seq_go, hTc1, LR.seq_go, if_t c20]
      exact finR2 (v := .agg #[.bool false, .bool false, .int .i64 0, .int .i64 0, .int .i64 0]) (v' := .bool false) [] rfl (.cellA (cs := [.bool false, .bool false, .int .i64 0, .int .i64 0, .int .i64 0]) (l := [.bool false, .bool false, .int .i64 0, .int .i64 0, .int .i64 0]) Tryz.isAgg53 Tryz.sizeOf53 rfl .hd rfl rfl) (.tmp rfl) (List.sublist_append_left ([] : Own) _) ⟨rfl, by first | rw [hM] | rfl⟩
    · refine T.set 20 (.bool false) (congrArg Value.bool c20) ?_
      have hZ20 := hTc1.trans c20
      try simp only [or_f, or_t, and_f, and_t, decide_eq_true_eq, decide_eq_false_iff_not, Bool.not_eq_true'] at hZ20
      refine T.skip (Post.thnN ?_)
      refine T.seq ?_
      have tf := tf11 (by simpa using hZ20.1)
      refine T.region ?_
      refine R.mvE rfl (by conv => lhs; whnf) ?_
      refine R.mvE rfl (by conv => lhs; whnf) ?_
      have hl24 : r11.1.toNat < a0.length := by first | omega | (simp; done) | (simp; omega) | (simp at *; omega)
      obtain ⟨y24, e24, h24⟩ : ∃ y, y = (a0.getD r11.1.toNat (((0, (false, false, 0, 0, 0)) : Int × (Bool × Bool × Int × Int × Int)) : Int × (Bool × Bool × Int × Int × Int))) ∧ a0[r11.1.toNat]? = some y := ⟨_, rfl, getD_get (by first | exact hl24 | simpa using hl24 | (rw [(sortI_perm _).length_eq]; exact hl24))⟩
      obtain ⟨b24, o24, i24, k24⟩ := RdS.elem (ha0.mono s_c1) h24
      obtain ⟨l24, g24, k24⟩ := k24
      obtain rfl : l24 = [.int .i64 (y24.1), .bool (y24.2.1), .bool (y24.2.2.1), .int .i64 (y24.2.2.2.1), .int .i64 (y24.2.2.2.2.1), .int .i64 (y24.2.2.2.2.2)] := g24
      refine R.ixp Tryz.underlying22 Tryz.sizeOf55 rfl rfl rfl (by first | omega | (simp; done) | (simp; omega) | (simp at *; omega)) i24 ?_
      refine R.fldA Tryz.underlying55 rfl Tryz.sizeOf53 (by decide) rfl rfl ?_
      refine R.ldK (l := [.bool (y24.2.1), .bool (y24.2.2.1), .int .i64 (y24.2.2.2.1), .int .i64 (y24.2.2.2.2.1), .int .i64 (y24.2.2.2.2.2)]) Tryz.isAgg53 Tryz.sizeOf53 rfl rfl (cells_sub (j := 1) (n := 5) k24 rfl) rfl ?_
      refine R.stX (old := [.bool false, .bool false, .int .i64 0, .int .i64 0, .int .i64 0]) (l := [.bool (y24.2.1), .bool (y24.2.2.1), .int .i64 (y24.2.2.2.1), .int .i64 (y24.2.2.2.2.1), .int .i64 (y24.2.2.2.2.2)]) (new := [.bool (y24.2.1), .bool (y24.2.2.1), .int .i64 (y24.2.2.2.1), .int .i64 (y24.2.2.2.2.1), .int .i64 (y24.2.2.2.2.2)]) (et := 53) Tryz.sizeOf53 rfl rfl rfl rfl rfl (by show 0 + 5 ≤ 5; decide) rfl (all_one rfl) .hd ?_
      refine R.asE rfl (by conv => lhs; whnf) ?_
      refine TL.nil (Post.thnN ?_)
      refine T.has (Has.cons .hd Has.nil) ?_
      refine T.ret ?_
      have hM : trait_Find_m a0 a1 = (y24.2, true) := by subst e24; subst er11; rw [trait_Find_m, LR.seq_go, hTc1, LR.seq_go, if_f c20]
      exact finR2 (v := .agg #[.bool (y24.2.1), .bool (y24.2.2.1), .int .i64 (y24.2.2.2.1), .int .i64 (y24.2.2.2.2.1), .int .i64 (y24.2.2.2.2.2)]) (v' := .bool true) [] rfl (.cellA (cs := [.bool (y24.2.1), .bool (y24.2.2.1), .int .i64 (y24.2.2.2.1), .int .i64 (y24.2.2.2.2.1), .int .i64 (y24.2.2.2.2.2)]) (l := [.bool (y24.2.1), .bool (y24.2.2.1), .int .i64 (y24.2.2.2.1), .int .i64 (y24.2.2.2.2.1), .int .i64 (y24.2.2.2.2.2)]) Tryz.isAgg53 Tryz.sizeOf53 rfl .hd rfl rfl) (.tmp rfl) (List.sublist_append_left ([] : Own) _) ⟨rfl, by first | rw [hM] | rfl⟩

end Go.SX

set_option linter.unusedVariables false
set_option linter.unusedSimpArgs false
namespace Go.SX
open Go
theorem find_pol (a : List Rl) (n : Int) (r : Tr × Bool) (e : r = trait_Find_m a n) (hl : a.length ≤ 2000000) : r.2 = true → (0 ≤ r.1.2.2.2.1 ∧ r.1.2.2.2.1 ≤ 2) ∧ (0 ≤ r.1.2.2.2.2 ∧ r.1.2.2.2.2 ≤ 2) := by
  subst e
  intro h
  have hr := find_rng a n _ rfl hl
  unfold trait_Find_m at h ⊢
  simp only [LR.seq] at h ⊢
  generalize trait_find_m a n = o at *
  cases ho : o.2 with
  | false => rw [ho, Bool.not_false, if_pos rfl, if_pos rfl] at h; cases h
  | true =>
    rw [ho] at h
    rw [Bool.not_true, if_neg Bool.false_ne_true] at h ⊢
    by_cases hc : trait_Check_m a = 0
    · rw [decide_eq_false (fun k => k hc), if_neg Bool.false_ne_true]
      obtain ⟨r1, r2⟩ := hr ho
      have hk := ((tcheck_iff a).1.1 hc).idx o.1.toNat _ (getD_get (z := rl0) (by omega))
      exact ⟨hk.2.2.2.1, hk.2.2.2.2⟩
    · rw [decide_eq_true hc, if_pos rfl] at h; cases h
end Go.SX
