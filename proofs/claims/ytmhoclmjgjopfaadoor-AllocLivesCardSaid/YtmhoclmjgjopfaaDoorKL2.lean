/- 'AllocLives' answers true, whatever it is handed, and what it is handed reads behind it as it did: the row, and its tied card. -/
import Derived.RangeFuncNested
import Derived.RangeFuncBound
import Derived.RangeFuncCalls
import Derived.RangeFuncLeaves
import Derived.Shelf.Abstract
import Derived.Laws.AppendOwn
import Derived.Laws.OwnMore
import Derived.KernelRfl
import Derived.IntWalk
import Derived.Laws.Append
import Derived.WideLaws
import Derived.Laws.Slices
import Derived.Laws.MakeOwn
import Derived.OrdersIn
import Derived.Laws.Cover3
import Derived.Test.YtmhoclmjgjopfaaDoorProg
import Derived.Laws.StructEq
import Derived.Shelf.Sort.Plain
import Derived.Sort.OwnSortedInts
import Derived.Shelf.Slices.In.SortNone
import Derived.ProofKit
import Derived.ChangeSlices
import Derived.Carry
import Derived.Deep.Slices
import Derived.OpenShut
import Derived.Test.YtmhoclmjgjopfaaDoorCards
import Derived.Test.YtmhoclmjgjopfaaDoorTie
import Derived.LaidMore
import Derived.Stop.Joined
import Derived.MakeChecks
import Derived.Test.YtmhoclmjgjopfaaDoorKL1
set_option linter.unusedVariables false
set_option linter.unusedSimpArgs false
namespace Go.SX
open Go Go.Proofs

/-- what Kind asks -/
def kbG (x : Int) : Nat → Bool
  | 1 => identKind1_m x (ident_halves_m x).1 (ident_halves_m x).2
  | 2 => identKind2_m x (ident_halves_m x).2
  | 3 => identKind3_m x (ident_halves_m x).1 (ident_halves_m x).2
  | 4 => identKind4_m x (ident_halves_m x).1 (ident_halves_m x).2
  | _ => false
def kindG (x : Int) : Int := if kbG x 1 then 1 else if kbG x 2 then 2 else if kbG x 3 then 3 else if kbG x 4 then 4 else 0
theorem kindG_at {x : Int} {k : Nat} (h1 : 1 ≤ k) (h4 : k ≤ 4) (hk : kbG x k = true) (hlt : ∀ j, 1 ≤ j → j < k → kbG x j = false) : kindG x = k := by
  unfold kindG
  have h : k = 1 ∨ k = 2 ∨ k = 3 ∨ k = 4 := by omega
  rcases h with rfl | rfl | rfl | rfl
  · simp [hk]
  · simp [hk, hlt 1 (by omega) (by omega)]
  · simp [hk, hlt 1 (by omega) (by omega), hlt 2 (by omega) (by omega)]
  · simp [hk, hlt 1 (by omega) (by omega), hlt 2 (by omega) (by omega), hlt 3 (by omega) (by omega)]
theorem kindG_none {x : Int} (hlt : ∀ j, 1 ≤ j → j < 5 → kbG x j = false) : kindG x = 0 := by
  unfold kindG
  simp [hlt 1 (by omega) (by omega), hlt 2 (by omega) (by omega), hlt 3 (by omega) (by omega), hlt 4 (by omega) (by omega)]
set_option maxHeartbeats 1600000 in
theorem kindG_c (H : Heap) (x : Int) : Fv Tryd.prog (fnv 99) [.int .u64 x] H (.int .i64 (kindG x)) := by
  refine Fc.of_body (N := 26) Tryd.func99 rfl (by kernel_rfl) rfl rfl ?_
  intro w0
  refine T.seq ?_
  refine T.region ?_
  refine R.box rfl (by conv => lhs; whnf) ?_
  intro b1
  refine R.asE rfl (by conv => lhs; whnf) ?_
  refine TL.nil (Post.thnN ?_)
  refine T.seq ?_
  refine T.region ?_
  refine R.ld Tryd.isAgg32 rfl rfl (by repeat (first | exact .hd | refine .tl ?_)) rfl ?_
  refine R.callv rfl rfl rfl (ident_halves_c _ x) ?_
  refine R.mvE rfl (by conv => lhs; whnf) ?_
  refine R.ext rfl rfl rfl ?_
  refine R.ext rfl rfl rfl ?_
  refine R.alloc Tryd.zeroValue3 rfl ?_
  intro b3
  refine R.alloc Tryd.zeroValue3 rfl ?_
  intro b4
  refine R.st Tryd.sizeOf3 rfl rfl (by conv => lhs; whnf) rfl (by first | exact .hd | exact .tl .hd | exact .tl (.tl .hd) | exact .tl (.tl (.tl .hd)) | exact .tl (.tl (.tl (.tl .hd))) | exact .tl (.tl (.tl (.tl (.tl .hd)))) | exact .tl (.tl (.tl (.tl (.tl (.tl .hd))))) | exact .tl (.tl (.tl (.tl (.tl (.tl (.tl .hd)))))) | exact .tl (.tl (.tl (.tl (.tl (.tl (.tl (.tl .hd))))))) | exact .tl (.tl (.tl (.tl (.tl (.tl (.tl (.tl (.tl .hd))))))))) ?_
  refine R.st Tryd.sizeOf3 rfl rfl (by conv => lhs; whnf) rfl (by first | exact .hd | exact .tl .hd | exact .tl (.tl .hd) | exact .tl (.tl (.tl .hd)) | exact .tl (.tl (.tl (.tl .hd))) | exact .tl (.tl (.tl (.tl (.tl .hd)))) | exact .tl (.tl (.tl (.tl (.tl (.tl .hd))))) | exact .tl (.tl (.tl (.tl (.tl (.tl (.tl .hd)))))) | exact .tl (.tl (.tl (.tl (.tl (.tl (.tl (.tl .hd))))))) | exact .tl (.tl (.tl (.tl (.tl (.tl (.tl (.tl (.tl .hd))))))))) ?_
  refine TL.nil (Post.thnN ?_)
  refine T.seq ?_
  refine T.shut .hd ?_
  intro H4 s4 q4
  refine T.shut .hd ?_
  intro H3 s3 q3
  refine T.shut .hd ?_
  intro H1 s1 q1
  have h4 : H1 b4 = some (.cells #[.int .i64 (ident_halves_m x).2] 3) := s1 _ _ (s3 _ _ (shut1 q4))
  have h3 : H1 b3 = some (.cells #[.int .i64 (ident_halves_m x).1] 3) := s1 _ _ (shut1 q3)
  have h1 : H1 b1 = some (.cells #[.int .u64 x] 32) := shut1 q1
  refine T.region ?_
  refine R.mkf (cs := [_, _, _]) rfl rfl ?_
  refine R.mkf (cs := [_, _]) rfl rfl ?_
  refine R.mkf (cs := [_, _, _]) rfl rfl ?_
  refine R.mkf (cs := [_, _, _]) rfl rfl ?_
  refine R.bld (cs := ([.nilFunc, .func (.func 131) #[] ([.pointer (some ⟨b1, 0, none⟩), .pointer (some ⟨b3, 0, none⟩), .pointer (some ⟨b4, 0, none⟩)] : List Value).toArray, .func (.func 132) #[] ([.pointer (some ⟨b1, 0, none⟩), .pointer (some ⟨b4, 0, none⟩)] : List Value).toArray, .func (.func 133) #[] ([.pointer (some ⟨b1, 0, none⟩), .pointer (some ⟨b3, 0, none⟩), .pointer (some ⟨b4, 0, none⟩)] : List Value).toArray, .func (.func 134) #[] ([.pointer (some ⟨b1, 0, none⟩), .pointer (some ⟨b3, 0, none⟩), .pointer (some ⟨b4, 0, none⟩)] : List Value).toArray])) rfl (fun _ => by kernel_rfl) ?_
  refine R.alloc Tryd.zeroValue176 rfl ?_
  intro b5
  refine R.stA (old := [.nilFunc, .nilFunc, .nilFunc, .nilFunc, .nilFunc]) Tryd.sizeOf176 rfl rfl rfl rfl rfl (by intro v hv; simp at hv; rcases hv with rfl | rfl | rfl | rfl | rfl <;> rfl) .hd ?_
  refine TL.shut .hd ?_
  intro H5 s5 q5
  have h5 := shut1 q5
  refine TL.nil (Post.thnN ?_)
  refine T.seq ?_
  refine T.seq ?_
  refine T.region ?_
  refine R.asE rfl (by conv => lhs; whnf) ?_
  refine TL.nil (Post.thnN ?_)
  refine T.block ?_
  refine T.loop (ι := Nat) (fun k H' L' ds' => (1 ≤ k ∧ k ≤ 5) ∧ ∀ j, 1 ≤ j → j < k → kbG x j = false) (fun k => [(5, .pointer (some ⟨b5, 0, none⟩)), (6, .int .i64 (k : Nat))]) (fun k => 5 - k) (1) ?_ ?_ ?_
  · exact ⟨⟨by omega, by omega⟩, fun j h1 h2 => absurd h2 (by omega)⟩
  · exact ⟨rfl, rfl, trivial⟩
  · intro k σ0 H_0 L_0 ds_0 s_0 hI_0
    obtain ⟨hk, hlt⟩ := hI_0
    refine T.seq ?_
    refine T.seq ?_
    refine T.region ?_
    refine R.mvE rfl (by conv => lhs; whnf) ?_
    refine R.leq rfl rfl rfl ?_
    refine TL.nil (Post.thnN ?_)
    refine T.condD rfl (fun c18 => ?_) (fun c18 => ?_)
    · obtain ⟨fv, hfv, hcall⟩ : ∃ fv, ([.nilFunc, .func (.func 131) #[] ([.pointer (some ⟨b1, 0, none⟩), .pointer (some ⟨b3, 0, none⟩), .pointer (some ⟨b4, 0, none⟩)] : List Value).toArray, .func (.func 132) #[] ([.pointer (some ⟨b1, 0, none⟩), .pointer (some ⟨b4, 0, none⟩)] : List Value).toArray, .func (.func 133) #[] ([.pointer (some ⟨b1, 0, none⟩), .pointer (some ⟨b3, 0, none⟩), .pointer (some ⟨b4, 0, none⟩)] : List Value).toArray, .func (.func 134) #[] ([.pointer (some ⟨b1, 0, none⟩), .pointer (some ⟨b3, 0, none⟩), .pointer (some ⟨b4, 0, none⟩)] : List Value).toArray] : List Value).toArray[0 + ((k : Nat) : Int).toNat * 1]? = some fv ∧ ∀ H', HLe H5 H' → Fv Tryd.prog fv [] H' (.bool (kbG x k)) := by
        have hk4 : k = 1 ∨ k = 2 ∨ k = 3 ∨ k = 4 := by omega
        rcases hk4 with rfl | rfl | rfl | rfl
        · exact ⟨_, rfl, fun H' s => identKind1_c H' b1 x (s _ _ (s5 _ _ h1)) b3 (ident_halves_m x).1 (s _ _ (s5 _ _ h3)) b4 (ident_halves_m x).2 (s _ _ (s5 _ _ h4))⟩
        · exact ⟨_, rfl, fun H' s => identKind2_c H' b1 x (s _ _ (s5 _ _ h1)) b4 (ident_halves_m x).2 (s _ _ (s5 _ _ h4))⟩
        · exact ⟨_, rfl, fun H' s => identKind3_c H' b1 x (s _ _ (s5 _ _ h1)) b3 (ident_halves_m x).1 (s _ _ (s5 _ _ h3)) b4 (ident_halves_m x).2 (s _ _ (s5 _ _ h4))⟩
        · exact ⟨_, rfl, fun H' s => identKind4_c H' b1 x (s _ _ (s5 _ _ h1)) b3 (ident_halves_m x).1 (s _ _ (s5 _ _ h3)) b4 (ident_halves_m x).2 (s _ _ (s5 _ _ h4))⟩
      refine T.skip (Post.thnN ?_)
      refine T.seq ?_
      refine T.block ?_
      refine T.seq ?_
      refine T.region ?_
      refine R.mvE rfl (by conv => lhs; whnf) ?_
      refine R.ixA Tryd.underlying176 Tryd.sizeOf27 rfl rfl rfl (by omega) (by omega) ?_
      refine R.ldH Tryd.isAgg27 rfl rfl (s_0 _ _ h5) (hfv) ?_
      refine R.callv rfl rfl rfl (hcall _ s_0) ?_
      refine TL.nil (Post.thnN ?_)
      refine T.cond rfl (fun c24 => ?_) (fun c24 => ?_)
      · refine T.seq ?_
        refine T.region ?_
        refine R.mvE rfl (by conv => lhs; whnf) ?_
        refine R.asE rfl (by conv => lhs; whnf) ?_
        refine TL.nil (Post.thnN ?_)
        refine T.ret (Post.blkR (Post.thnR (Post.thnR (Post.blkR (Post.thnR ?_)))))
        -- way yy
        exact fin1 rfl rfl ⟨rfl, congrArg (Value.int .i64) (kindG_at hk.1 (by omega) c24 hlt).symm⟩
      · refine T.skip (Post.blkN ?_)
        refine id (Post.thnN ?_)
        refine T.region ?_
        refine R.mvE rfl (by conv => lhs; whnf) ?_
        refine R.addI rfl rfl rfl (by omega) ?_
        refine R.asE rfl (by conv => lhs; whnf) ?_
        refine TL.nil (Post.thnN ?_)
        -- round's end, way yn
        exact ⟨k + 1, s_0, ⟨⟨by omega, by omega⟩, fun j j1 j2 => if e : j = k then by rw [e]; exact c24 else hlt j j1 (by omega)⟩, by omega, ⟨rfl, rfl, trivial⟩⟩
    · refine T.exit (Post.thnE (Post.thnE (Post.blkX ?_)))
      refine id (Post.thnN ?_)
      refine T.seq ?_
      refine T.region ?_
      refine R.asE rfl (by conv => lhs; whnf) ?_
      refine TL.nil (Post.thnN ?_)
      refine T.ret ?_
      -- way n
      exact fin1 rfl rfl ⟨rfl, congrArg (Value.int .i64) (kindG_none (fun j j1 j2 => hlt j j1 (by omega))).symm⟩
def ident_Parts_m (a0 : Int) : Int × Int :=
  LR.seq (ident_halves_m a0) (fun r8 => LR.seq (if ((kindG a0) : Int) = 1 then true else ((decide (((kindG a0) : Int) = 2))) : Bool) (fun sc1 => if sc1 = true then ((r8.2, r8.1)) else (LR.seq (if ((kindG a0) : Int) = 3 then true else ((decide (((kindG a0) : Int) = 4))) : Bool) (fun sc2 => if sc2 = true then ((r8.1, r8.2)) else ((0, 0))))))
set_option maxHeartbeats 3200000 in
theorem ident_Parts_c (H : Heap) (a0 : Int) : Fv Tryd.prog (fnv 67) [.int .u64 a0] H (.tuple #[.int .i64 (ident_Parts_m a0).1, .int .i64 (ident_Parts_m a0).2]) := by
  refine Fc.of_body (N := 23) Tryd.func67 rfl (by kernel_rfl) rfl rfl ?_
  intro w0
  refine T.seq ?_
  refine T.region ?_
  refine R.asE rfl (by conv => lhs; whnf) ?_
  refine R.asE rfl (by conv => lhs; whnf) ?_
  refine TL.nil (Post.thnN ?_)
  refine T.seq ?_
  refine T.region ?_
  refine R.mvE rfl (by conv => lhs; whnf) ?_
  obtain ⟨r8, er8⟩ : ∃ r, r = (ident_halves_m a0) := ⟨_, rfl⟩
  refine R.callv (v := .tuple #[.int .i64 r8.1, .int .i64 r8.2]) rfl rfl rfl (by rw [er8]; exact ident_halves_c _ (a0)) ?_
  refine R.mvE rfl (by conv => lhs; whnf) ?_
  refine R.ext rfl rfl rfl ?_
  refine R.ext rfl rfl rfl ?_
  refine R.asE rfl (by conv => lhs; whnf) ?_
  refine R.asE rfl (by conv => lhs; whnf) ?_
  refine TL.nil (Post.thnN ?_)
  refine T.seq ?_
  refine T.seq ?_
  refine T.region ?_
  refine R.mvE rfl (by conv => lhs; whnf) ?_
  refine R.callv rfl rfl rfl (kindG_c _ a0) ?_
  refine TL.nil (Post.thnN ?_)
  refine T.block ?_
  refine T.seq ?_
  refine T.seq ?_
  refine T.region ?_
  refine R.eql rfl rfl rfl ?_
  refine R.asE rfl (by conv => lhs; whnf) ?_
  refine TL.nil (Post.thnN ?_)
  refine T.cutK (ι := Bool) (fun b13c1 H' L' ds' => Has L' [] ∧ (if ((kindG a0) : Int) = 1 then true else ((decide (((kindG a0) : Int) = 2))) : Bool) = b13c1) (fun b13c1 => [(4, .int .i64 (r8.1)), (5, .int .i64 (r8.2)), (12, .int .i64 (kindG a0)), (13, .bool (b13c1))]) ?_ ?_
  · refine T.condD rfl (fun c13 => ?_) (fun c13 => ?_)
    · refine T.set 13 (.bool true) (congrArg Value.bool (decide_eq_true c13)) ?_
      refine T.skip (Post.thnN ?_)
      exact ⟨true, HLe.refl _, ⟨Has.nil, (by rw [if_pos c13])⟩, rfl, rfl, rfl, rfl, trivial⟩
    · refine T.set 13 (.bool false) (congrArg Value.bool (decide_eq_false c13)) ?_
      refine T.region ?_
      refine R.eql rfl rfl rfl ?_
      refine R.asE rfl (by conv => lhs; whnf) ?_
      refine TL.nil (Post.thnN ?_)
      exact ⟨(decide (((kindG a0) : Int) = 2)), HLe.refl _, ⟨Has.nil, (by rw [if_neg c13])⟩, rfl, rfl, rfl, rfl, trivial⟩
  · intro b13c1 σ_c1 H_c1 L_c1 ds_c1 s_c1 hI_c1
    obtain ⟨hLc1, hTc1⟩ := hI_c1
    refine T.has hLc1 ?_
    refine T.cond rfl (fun c13 => ?_) (fun c13 => ?_)
    · refine T.set 13 (.bool true) (congrArg Value.bool c13) ?_
      have hZ13 := hTc1.trans c13
      try simp only [or_f, or_t, and_f, and_t, decide_eq_true_eq, decide_eq_false_iff_not, Bool.not_eq_true'] at hZ13
      refine T.seq ?_
      refine T.region ?_
      refine R.mvE rfl (by conv => lhs; whnf) ?_
      refine R.mvE rfl (by conv => lhs; whnf) ?_
      refine R.asE rfl (by conv => lhs; whnf) ?_
      refine R.asE rfl (by conv => lhs; whnf) ?_
      refine TL.nil (Post.thnN ?_)
      refine T.has Has.nil ?_
      refine T.ret (Post.blkR (Post.thnR ?_))
      have hM : ident_Parts_m a0 = (r8.2, r8.1) := by subst er8; rw [ident_Parts_m, LR.seq_go, hTc1, LR.seq_go, if_t c13]
      exact fin2L (v := .int .i64 (r8.2)) (v' := .int .i64 (r8.1)) [] rfl rfl rfl (List.Sublist.refl _) ⟨rfl, by first | rw [hM] | rfl⟩
    · refine T.set 13 (.bool false) (congrArg Value.bool c13) ?_
      have hZ13 := hTc1.trans c13
      try simp only [or_f, or_t, and_f, and_t, decide_eq_true_eq, decide_eq_false_iff_not, Bool.not_eq_true'] at hZ13
      refine T.seq ?_
      refine T.seq ?_
      refine T.region ?_
      refine R.eql rfl rfl rfl ?_
      refine R.asE rfl (by conv => lhs; whnf) ?_
      refine TL.nil (Post.thnN ?_)
      refine T.cutK (ι := Bool) (fun b18c2 H' L' ds' => Has L' [] ∧ (if ((kindG a0) : Int) = 3 then true else ((decide (((kindG a0) : Int) = 4))) : Bool) = b18c2) (fun b18c2 => [(4, .int .i64 (r8.1)), (5, .int .i64 (r8.2)), (18, .bool (b18c2))]) ?_ ?_
      · refine T.condD rfl (fun c18 => ?_) (fun c18 => ?_)
        · refine T.set 18 (.bool true) (congrArg Value.bool (decide_eq_true c18)) ?_
          refine T.skip (Post.thnN ?_)
          exact ⟨true, HLe.refl _, ⟨Has.nil, (by rw [if_pos c18])⟩, rfl, rfl, rfl, trivial⟩
        · refine T.set 18 (.bool false) (congrArg Value.bool (decide_eq_false c18)) ?_
          refine T.region ?_
          refine R.eql rfl rfl rfl ?_
          refine R.asE rfl (by conv => lhs; whnf) ?_
          refine TL.nil (Post.thnN ?_)
          exact ⟨(decide (((kindG a0) : Int) = 4)), HLe.refl _, ⟨Has.nil, (by rw [if_neg c18])⟩, rfl, rfl, rfl, trivial⟩
      · intro b18c2 σ_c2 H_c2 L_c2 ds_c2 s_c2 hI_c2
        obtain ⟨hLc2, hTc2⟩ := hI_c2
        refine T.has hLc2 ?_
        refine T.cond rfl (fun c18 => ?_) (fun c18 => ?_)
        · refine T.set 18 (.bool true) (congrArg Value.bool c18) ?_
          have hZ18 := hTc2.trans c18
          try simp only [or_f, or_t, and_f, and_t, decide_eq_true_eq, decide_eq_false_iff_not, Bool.not_eq_true'] at hZ18
          refine T.seq ?_
          refine T.region ?_
          refine R.mvE rfl (by conv => lhs; whnf) ?_
          refine R.mvE rfl (by conv => lhs; whnf) ?_
          refine R.asE rfl (by conv => lhs; whnf) ?_
          refine R.asE rfl (by conv => lhs; whnf) ?_
          refine TL.nil (Post.thnN ?_)
          refine T.has Has.nil ?_
          refine T.ret (Post.blkR (Post.thnR ?_))
          have hM : ident_Parts_m a0 = (r8.1, r8.2) := by subst er8; rw [ident_Parts_m, LR.seq_go, hTc1, LR.seq_go, if_f c13, hTc2, LR.seq_go, if_t c18]
          exact fin2L (v := .int .i64 (r8.1)) (v' := .int .i64 (r8.2)) [] rfl rfl rfl (List.Sublist.refl _) ⟨rfl, by first | rw [hM] | rfl⟩
        · refine T.set 18 (.bool false) (congrArg Value.bool c18) ?_
          have hZ18 := hTc2.trans c18
          try simp only [or_f, or_t, and_f, and_t, decide_eq_true_eq, decide_eq_false_iff_not, Bool.not_eq_true'] at hZ18
          refine T.skip (Post.blkN ?_)
          refine id (Post.thnN ?_)
          refine T.seq ?_
          refine T.region ?_
          refine R.asE rfl (by conv => lhs; whnf) ?_
          refine R.asE rfl (by conv => lhs; whnf) ?_
          refine TL.nil (Post.thnN ?_)
          refine T.has Has.nil ?_
          refine T.ret ?_
          have hM : ident_Parts_m a0 = (0, 0) := by subst er8; rw [ident_Parts_m, LR.seq_go, hTc1, LR.seq_go, if_f c13, hTc2, LR.seq_go, if_f c18]
          exact fin2L (v := .int .i64 0) (v' := .int .i64 0) [] rfl rfl rfl (List.Sublist.refl _) ⟨rfl, by first | rw [hM] | rfl⟩

def ident_Entity_m (a0 : Int) (a1 : Int) : Int × Int :=
  LR.seq (if (!(ident_within_m 1 1048578 [a0])) = true then true else ((!(ident_within_m 0 7 [a1]))) : Bool) (fun sc1 => if sc1 = true then ((0, 2)) else (((ident_packed_m 0 a1 a0), 0)))
set_option maxHeartbeats 3200000 in
theorem ident_Entity_c (H : Heap) (a0 : Int) (a1 : Int) : Fv Tryd.prog (fnv 62) [.int .i64 a0, .int .i64 a1] H (.tuple #[.int .u64 (ident_Entity_m a0 a1).1, .int .i64 (ident_Entity_m a0 a1).2]) := by
  refine Fc.of_body (N := 19) Tryd.func62 rfl (by kernel_rfl) rfl rfl ?_
  intro w0
  refine T.seq ?_
  refine T.region ?_
  refine R.asE rfl (by conv => lhs; whnf) ?_
  refine R.asE rfl (by conv => lhs; whnf) ?_
  refine TL.nil (Post.thnN ?_)
  refine T.seq ?_
  refine T.seq ?_
  refine T.cutK (ι := Bool) (fun b15c1 H' L' ds' => Has L' [] ∧ (if (!(ident_within_m 1 1048578 [a0])) = true then true else ((!(ident_within_m 0 7 [a1]))) : Bool) = b15c1) (fun b15c1 => [(0, .int .i64 a0), (1, .int .i64 a1), (15, .bool (b15c1))]) ?_ ?_
  · refine T.region ?_
    refine R.mvE rfl (by conv => lhs; whnf) ?_
    refine R.bs rfl (run_buildSlice1 Tryd.underlying23 Tryd.sizeOf3 Tryd.zeroValue3 rfl rfl) ?_
    intro b7
    have w7 : OwnS (intE .i64) 3 H (.slice (some ⟨b7, 0, none⟩) 1 1) [a0] [(b7, .cells #[.int .i64 a0] 3)] := OwnS.lit (xs := [a0]) (cellsOf_cons (a := [.int .i64 a0]) rfl cellsOf_nil) (by show 1 ≤ maxLen; decide)
    refine TL.shut .hd ?_
    intro HF7_1 sF7_1 qF7_1
    have fF7_1 := OwnS.read w7 sF7_1 qF7_1
    refine R.callv rfl rfl rfl (ident_within_c _ (1) (1048578) _ [a0] fF7_1) ?_
    refine R.not rfl rfl ?_
    refine R.mvE rfl (by conv => lhs; whnf) ?_
    refine TL.gsplit 10 rfl (fun g10 => ?_) (fun g10 => ?_)
    · refine TL.off rfl rfl rfl ?_
      refine TL.off rfl rfl rfl ?_
      refine TL.off rfl rfl rfl ?_
      refine TL.off rfl rfl rfl ?_
      refine R.pkTE rfl rfl (by conv => lhs; whnf) ?_
      refine TL.nil (Post.thnN ?_)
      exact ⟨true, sF7_1, ⟨Has.nil, (by rw [if_t g10])⟩, rfl, rfl, rfl, trivial⟩
    · refine R.mvE rfl (by conv => lhs; whnf) ?_
      refine R.bs rfl (run_buildSlice1 Tryd.underlying23 Tryd.sizeOf3 Tryd.zeroValue3 rfl rfl) ?_
      intro b12
      have w12 : OwnS (intE .i64) 3 HF7_1 (.slice (some ⟨b12, 0, none⟩) 1 1) [a1] [(b12, .cells #[.int .i64 a1] 3)] := OwnS.lit (xs := [a1]) (cellsOf_cons (a := [.int .i64 a1]) rfl cellsOf_nil) (by show 1 ≤ maxLen; decide)
      refine TL.shut .hd ?_
      intro HF12_2 sF12_2 qF12_2
      have fF12_2 := OwnS.read w12 sF12_2 qF12_2
      refine R.callv rfl rfl rfl (ident_within_c _ (0) (7) _ [a1] fF12_2) ?_
      refine R.not rfl rfl ?_
      refine R.pkFE rfl rfl (by conv => lhs; whnf) ?_
      refine TL.nil (Post.thnN ?_)
      exact ⟨(!(ident_within_m 0 7 [a1])), (sF7_1.trans sF12_2), ⟨Has.nil, (by rw [if_f g10])⟩, rfl, rfl, rfl, trivial⟩
  · intro b15c1 σ_c1 H_c1 L_c1 ds_c1 s_c1 hI_c1
    obtain ⟨hLc1, hTc1⟩ := hI_c1
    refine T.has hLc1 ?_
    refine T.cond rfl (fun c15 => ?_) (fun c15 => ?_)
    · refine T.set 15 (.bool true) (congrArg Value.bool c15) ?_
      have hZ15 := hTc1.trans c15
      try simp only [or_f, or_t, and_f, and_t, decide_eq_true_eq, decide_eq_false_iff_not, Bool.not_eq_true'] at hZ15
      refine T.seq ?_
      refine T.region ?_
      refine R.asE rfl (by conv => lhs; whnf) ?_
      refine R.asE rfl (by conv => lhs; whnf) ?_
      refine TL.nil (Post.thnN ?_)
      refine T.has Has.nil ?_
      refine T.ret (Post.thnR ?_)
      have hM : ident_Entity_m a0 a1 = (0, 2) := by rw [ident_Entity_m, hTc1, LR.seq_go, if_t c15]
      exact fin2L (v := .int .u64 0) (v' := .int .i64 2) [] rfl rfl rfl (List.Sublist.refl _) ⟨rfl, by first | rw [hM] | rfl⟩
    · refine T.set 15 (.bool false) (congrArg Value.bool c15) ?_
      have hZ15 := hTc1.trans c15
      try simp only [or_f, or_t, and_f, and_t, decide_eq_true_eq, decide_eq_false_iff_not, Bool.not_eq_true'] at hZ15
      refine T.skip (Post.thnN ?_)
      refine T.seq ?_
      refine T.region ?_
      refine R.mvE rfl (by conv => lhs; whnf) ?_
      refine R.mvE rfl (by conv => lhs; whnf) ?_
      refine R.callv rfl rfl rfl (ident_packed_c _ (0) (a1) (a0)) ?_
      refine R.asE rfl (by conv => lhs; whnf) ?_
      refine R.asE rfl (by conv => lhs; whnf) ?_
      refine TL.nil (Post.thnN ?_)
      refine T.has Has.nil ?_
      refine T.ret ?_
      have hM : ident_Entity_m a0 a1 = ((ident_packed_m 0 a1 a0), 0) := by rw [ident_Entity_m, hTc1, LR.seq_go, if_f c15]
      exact fin2L (v := .int .u64 (ident_packed_m 0 a1 a0)) (v' := .int .i64 0) [] rfl rfl rfl (List.Sublist.refl _) ⟨rfl, by first | rw [hM] | rfl⟩

def ident_Pair_m (a0 : Int) (a1 : Int) : Int × Int :=
  if (!(ident_within_m 0 1048578 ([a0, a1]))) = true then ((0, 2)) else (((ident_packed_m 9223372036854775808 a0 a1), 0))
def windroseref01_Halves_m (a0 : Int) : Int × Int :=
  ((IntKind.i64.wrap (Int.tmod (IntKind.u64.wrap (Int.tdiv a0 4294967296)) 1073741824)), (IntKind.i64.wrap (Int.tmod a0 1073741824)))
def windroseref01_Made_m (a0 : Int) (a1 : Int) (a2 : Int) : Int :=
  (IntKind.u64.wrap ((IntKind.u64.wrap (a0 + (IntKind.u64.wrap ((IntKind.u64.wrap a1) * 4294967296)))) + (IntKind.u64.wrap a2)))
def windroseref01_Is_m (a0 : Int) (a1 : Int) (a2 : Int) : Bool :=
  if a1 ≤ a0 then ((decide (a0 ≤ a2))) else false
def windroseref01_Kind_m (a0 : Int) : Int :=
  LR.seq (windroseref01_Halves_m a0) (fun r7 => LR.seq (if a0 = (windroseref01_Made_m 0 r7.1 r7.2) then (if (windroseref01_Is_m r7.2 1 1048578) = true then ((windroseref01_Is_m r7.1 0 7)) else false) else false : Bool) (fun sc1 => if sc1 = true then 1 else (LR.seq (if a0 = (windroseref01_Made_m 4611686018427387904 0 r7.2) then ((windroseref01_Is_m r7.2 1 24)) else false : Bool) (fun sc2 => if sc2 = true then 2 else (LR.seq (if a0 = (windroseref01_Made_m 9223372036854775808 r7.1 r7.2) then (if (windroseref01_Is_m r7.1 1 1048578) = true then ((windroseref01_Is_m r7.2 1 1048578)) else false) else false : Bool) (fun sc3 => if sc3 = true then 3 else (LR.seq (if a0 = (windroseref01_Made_m 9223372036854775808 r7.1 r7.2) then (if (windroseref01_Is_m r7.1 0 1048578) = true then ((windroseref01_Is_m r7.2 0 1048578)) else false) else false : Bool) (fun sc4 => if sc4 = true then 4 else 0))))))))
def windroseref01_Parts_m (a0 : Int) : Int × Int :=
  LR.seq (windroseref01_Halves_m a0) (fun r8 => LR.on (if ((windroseref01_Kind_m a0) : Int) = 0 then (.ret ((0, 0))) else (LR.seq (if ((windroseref01_Kind_m a0) : Int) = 1 then true else ((decide (((windroseref01_Kind_m a0) : Int) = 2))) : Bool) (fun sc2 => if sc2 = true then (.ret ((r8.2, r8.1))) else (.go ()))) : LR (Int × Int) (Unit)) (fun r => r) (fun sc1 => (r8.1, r8.2)))
end Go.SX

set_option linter.unusedVariables false
set_option linter.unusedSimpArgs false
namespace Go.SX
open Go
attribute [local semireducible] T TL
section
variable {fr : Fr} {x : Cx} {Q : Post} {σ : Env} {H : Heap} {L : Own} {ds : List Nat} {ol rest : List Oper} {d : Nat} {ty : TypeId} {p : String} {af : Array Edge} {g : Option (Nat × Bool)}
end
end Go.SX

set_option linter.unusedVariables false
set_option linter.unusedSimpArgs false
namespace Go.SX
open Go
attribute [local semireducible] T TL
theorem part_one {P : Program} {t o : Nat} {xs : Array Value} {u : Value} {w : World} (ha : ∀ w, (isAgg t).run P w = .ok false w) (hx : xs[o]? = some u) : (part t xs o).run P w = .ok u w := by
  simp [part, ha, hx]
theorem eqF_nil {P : Program} {d : Nat} {xs ys : Array Value} {w : World} : (Op.eqFields d xs ys []).run P w = .ok true w := rfl
theorem eqF_cons {P : Program} {d : Nat} {xs ys : Array Value} {f : Field} {fs : List Field} {u v : Value} {r r' : Bool} {w : World} (hn : f.name ≠ "_") (hx : (part f.type xs f.offset).run P w = .ok u w) (hy : (part f.type ys f.offset).run P w = .ok v w)
    (he : (Op.equalIn d f.type u v).run P w = .ok r w) (hr : (Op.eqFields d xs ys fs).run P w = .ok r' w) : (Op.eqFields d xs ys (f :: fs)).run P w = .ok (r && r') w := by
  cases r <;> simp [Op.eqFields, hn, hx, hy, he, hr]
theorem eq_int {P : Program} {d t : Nat} {k : IntKind} {a b : Int} {w : World} (hu : P.underlying t = some (.int k)) : (Op.equalIn (d + 1) t (.int k a) (.int k b)).run P w = .ok (decide (a = b)) w := by
  have h := run_equalIn_int (P := P) w d t k k a b hu
  rw [h]
  congr 1
theorem eq_bool {P : Program} {d t : Nat} {a b : Bool} {w : World} (hu : P.underlying t = some .bool) : (Op.equalIn (d + 1) t (.bool a) (.bool b)).run P w = .ok (decide (a = b)) w := by
  rw [run_equalIn_bool hu]
  congr 1
theorem eq_struct {P : Program} {d t : Nat} {fs : Array Field} {xs ys : Array Value} {r : Bool} {w : World} (hu : P.underlying t = some (.struct fs)) (hs : P.stoodInHeld t = false) (h : (Op.eqFields d xs ys fs.toList).run P w = .ok r w) : (Op.equalIn (d + 1) t (.agg xs) (.agg ys)).run P w = .ok r w := by
  have hf : P.fieldsOf t = fs := by unfold Program.fieldsOf; rw [hu]
  rw [run_equalIn_struct w d t xs ys (by rw [hf]; exact hu) hs, hf]
  exact h
section
variable {fr : Fr} {x : Cx} {Q : Post} {σ : Env} {H : Heap} {L : Own} {ds : List Nat} {ol rest : List Oper} {d : Nat} {ty : TypeId} {p : String} {af : Array Edge} {g : Option (Nat × Bool)}
theorem R.eqG {α : Type} [DecidableEq α] {X Y : Operand} {t yt : TypeId} {a b : α} {xs ys : Array Value} (he : ∀ w, (Op.equalIn 10000 t (.agg xs) (.agg ys)).run fr.P w = .ok (decide (a = b)) w) (hm : fr.P.eqGuardType fr.P.depth t = false)
    (hw : wan fr.N ol σ d g = true) (hx : ev σ X = .agg xs) (hy : ev σ Y = .agg ys)
    (h : TL fr x ol rest Q (upd σ d (.bool (decide (a = b)))) H L ds) : TL fr x ol (⟨some d, .binOp .eql t X Y yt, ty, p, af, g⟩ :: rest) Q σ H L ds :=
  TL.pureE hw rfl (fun w => by simp [execOp, hx, hy, run_eqGuard_agg w .eql t X Y _ _ hm, run_eql_struct, he w, Result.andThen]) h
/-- A store of several cells into an element of a row of one's own. -/
theorem R.stEF {α : Type} {E : ER α} {te e : TypeId} {Ad V : Operand} {v u : Value} {m : List Value} {xs : List α} {y y' : α} {ch : Chunk} {R : Own} {j b o : Nat} (hsz : ∀ w, (sizeOf te).run fr.P w = .ok m.length w) (hw : wants ol σ g = true)
    (hown : OwnS E e H v xs ch) (hdel : Del L ch R) (hix : IxAt v E.size j b (j * E.size)) (ha : ev σ Ad = .pointer (some ⟨b, j * E.size + o, none⟩)) (hv : ev σ V = u) (hu : u.cells = m.toArray) (h1 : ∀ v ∈ m, v.oneCell' = true)
    (hj : xs[j]? = some y) (ho : o + m.length ≤ E.size) (hy : ∀ l, E.R H l y → E.R H (l.take o ++ m ++ l.drop (o + m.length)) y')
    (hk : ∀ c', OwnS E e H v (xs.set j y') c' → TL fr x ol rest Q σ H (c' :: R) ds) :
    TL fr x ol (⟨none, .store te Ad V, ty, p, af, g⟩ :: rest) Q σ H L ds := by
  intro a w hs hd hst
  have hst1 : St x H (ch ++ (R.flatten ++ hid fr.rd ds)) w := hst.perm (by rw [← List.append_assoc]; exact hdel.perm.append_right _)
  obtain ⟨o0, n0, c0, hv0, hjn, _⟩ := hix
  rcases hown with ⟨rfl, rfl, rfl⟩ | ⟨b', cap, cs, rfl, rfl, h3, h4, h5, h6⟩
  · cases hv0
  · cases hv0
    obtain ⟨l0, hl0, hl0c⟩ := h6 j y hj
    have hl0l := E.len hl0
    have hb := hst1.sat.l (b, .cells cs e) (List.mem_append_left _ (List.mem_singleton.2 rfl))
    simp only at hb
    have hfitE : j * E.size + E.size ≤ cs.size := by
      calc j * E.size + E.size = (j + 1) * E.size := by rw [Nat.add_mul, Nat.one_mul]
        _ ≤ c0 * E.size := Nat.mul_le_mul_right _ (by omega)
        _ ≤ cs.size := h5
    have hfit : j * E.size + o + m.length ≤ cs.size := by omega
    have hstore := run_storeCells_at fr.P b (j * E.size + o) e m 0 cs w hb (by omega) h1
    rw [Nat.add_zero] at hstore
    generalize hnew : cs.toList.take (j * E.size + o) ++ m ++ cs.toList.drop (j * E.size + o + m.length) = new at hstore
    have hst2 := hst1.turn (w' := w.setRow b new.toArray) (o' := .cells new.toArray e) rfl rfl rfl (by simp [World.setRow]) (by simp only [World.setRow]; rw [Array.getElem?_modify, if_pos rfl, hb]; rfl) (fun c hc => by
      simp only [World.setRow, Array.getElem?_modify]
      rw [if_neg (fun e => hc e.symm)])
    unfold wpLo
    rw [if_pos (wanted_of hs hw)]
    refine ⟨fun f _ => fenceFn _ f, ?_⟩
    rw [semAt_of rfl, hs.eval]
    have hrun : (execOp (ev σ) ⟨none, .store te Ad V, ty, p, af, g⟩).run fr.P w = .ok .skip (w.setRow b new.toArray) := by
      simp [execOp, Instr.storeAt, Instr.sureAddr, storeVar, ha, hv, hu, hsz, hstore]
    rw [hrun]
    have hcl : cs.toList.length = cs.size := Array.length_toList
    have htl : (cs.toList.take (j * E.size + o)).length = j * E.size + o := by rw [List.length_take, hcl]; omega
    have hszs : new.length = cs.size := by
      rw [← hnew, List.length_append, List.length_append, List.length_drop, htl, hcl]; omega
    -- what stands where
    have hget : ∀ q, new[q]? = if q < j * E.size + o then cs[q]? else if q < j * E.size + o + m.length then m[q - (j * E.size + o)]? else cs[q]? := by
      intro q
      rw [← hnew]
      by_cases hq : q < j * E.size + o
      · rw [if_pos hq, List.append_assoc, List.getElem?_append_left (by rw [htl]; exact hq), List.getElem?_take_of_lt hq]
        simp
      · rw [if_neg hq]
        by_cases hq2 : q < j * E.size + o + m.length
        · rw [if_pos hq2, List.getElem?_append_left (by rw [List.length_append, htl]; exact hq2), List.getElem?_append_right (by rw [htl]; omega), htl]
        · rw [if_neg hq2, List.getElem?_append_right (by rw [List.length_append, htl]; omega), List.length_append, htl, List.getElem?_drop, show j * E.size + o + m.length + (q - (j * E.size + o + m.length)) = q by omega]
          simp
    refine hk [(b, .cells new.toArray e)] (Or.inr ?_) _ _ hs hd (by simpa using hst2)
    refine ⟨b, c0, _, by rw [List.length_set], rfl, by rw [List.length_set]; exact h3, h4, by rw [List.size_toArray, hszs]; exact h5, fun k q hq => ?_⟩
    by_cases hkj : k = j
    · subst hkj
      rw [List.getElem?_set_self hjn] at hq
      injection hq with hq
      subst hq
      refine ⟨_, hy l0 hl0, fun r u hr => ?_⟩
      rw [List.getElem?_toArray, hget]
      have hlt0 : (l0.take o).length = o := by rw [List.length_take]; omega
      by_cases hro : r < o
      · rw [if_pos (by omega)]
        rw [List.append_assoc, List.getElem?_append_left (by rw [hlt0]; exact hro), List.getElem?_take_of_lt hro] at hr
        exact hl0c r u hr
      · rw [if_neg (by omega)]
        by_cases hro2 : r < o + m.length
        · rw [if_pos (by omega)]
          rw [List.getElem?_append_left (by rw [List.length_append, hlt0]; exact hro2), List.getElem?_append_right (by rw [hlt0]; omega), hlt0] at hr
          rw [show k * E.size + r - (k * E.size + o) = r - o by omega]; exact hr
        · rw [if_neg (by omega)]
          rw [List.getElem?_append_right (by rw [List.length_append, hlt0]; omega), List.length_append, hlt0, List.getElem?_drop, show o + m.length + (r - (o + m.length)) = r by omega] at hr
          exact hl0c r u hr
    · rw [List.getElem?_set_ne (fun e => hkj e.symm)] at hq
      obtain ⟨l2, h7, h8⟩ := h6 k q hq
      refine ⟨l2, h7, fun r u hr => ?_⟩
      have h9 := h8 r u hr
      have hrl : r < E.size := by rw [← E.len h7]; exact (List.getElem?_eq_some_iff.1 hr).1
      rw [List.getElem?_toArray, hget]
      rcases Nat.lt_or_ge k j with hlt | hge
      · have h10 : k * E.size + r < j * E.size := by
          calc k * E.size + r < k * E.size + E.size := by omega
            _ = (k + 1) * E.size := by rw [Nat.add_mul, Nat.one_mul]
            _ ≤ j * E.size := Nat.mul_le_mul_right _ (by omega)
        rw [if_pos (by omega)]; exact h9
      · have h10 : j * E.size + E.size ≤ k * E.size + r := by
          calc j * E.size + E.size = (j + 1) * E.size := by rw [Nat.add_mul, Nat.one_mul]
            _ ≤ k * E.size := Nat.mul_le_mul_right _ (by omega)
            _ ≤ k * E.size + r := by omega
        rw [if_neg (by omega), if_neg (by omega)]; exact h9
end
/-- What a result's variable yields. -/
inductive ResAt (P : Program) (σ : Env) (H : Heap) (L : Own) : ResultVar → Value → Prop
  | tmp {t : Nat} {v : Value} (h : σ t = v) : ResAt P σ H L (.tmp t) v
  | cell1 {t ty b o : Nat} {cs : Array Value} {et : TypeId} {v : Value} (hagg : ∀ w, (isAgg ty).run P w = .ok false w) (ha : σ t = .pointer (some ⟨b, o, none⟩)) (hin : In L [(b, .cells cs et)]) (hv : cs[o]? = some v) : ResAt P σ H L (.cell t ty) v
  | cellA {t ty b o n : Nat} {cs l : List Value} {et : TypeId} (hagg : ∀ w, (isAgg ty).run P w = .ok true w) (hsz : ∀ w, (sizeOf ty).run P w = .ok n w) (ha : σ t = .pointer (some ⟨b, o, none⟩)) (hin : In L [(b, .cells cs.toArray et)]) (hl : (cs.drop o).take n = l) (hn : l.length = n) : ResAt P σ H L (.cell t ty) (.agg l.toArray)
  | cell1H {t ty b o : Nat} {cs : Array Value} {et : TypeId} {v : Value} (hagg : ∀ w, (isAgg ty).run P w = .ok false w) (ha : σ t = .pointer (some ⟨b, o, none⟩)) (hin : H b = some (.cells cs et)) (hv : cs[o]? = some v) : ResAt P σ H L (.cell t ty) v
  | cellAH {t ty b o n : Nat} {cs l : List Value} {et : TypeId} (hagg : ∀ w, (isAgg ty).run P w = .ok true w) (hsz : ∀ w, (sizeOf ty).run P w = .ok n w) (ha : σ t = .pointer (some ⟨b, o, none⟩)) (hin : H b = some (.cells cs.toArray et)) (hl : (cs.drop o).take n = l) (hn : l.length = n) : ResAt P σ H L (.cell t ty) (.agg l.toArray)
theorem take_drop_get {cs l : List Value} {o n : Nat} (hl : (cs.drop o).take n = l) {j : Nat} {u : Value} (hj : l[j]? = some u) : cs[o + j]? = some u := by
  rw [← hl, List.getElem?_take] at hj
  split at hj
  · rw [List.getElem?_drop] at hj; exact hj
  · cases hj
def resOne (tmps : Array Value) : ResultVar → Sem Value
  | .tmp t => pure (tmps.getD t undef)
  | .cell a t => do loadVar t (← asAddr (tmps.getD a undef))
theorem results_eq {fn : Func} {tmps : Array Value} : results fn tmps = (do
  let vs ← fn.results.mapM (resOne tmps)
  pure (if h : vs.size = 1 then vs[0] else .tuple vs)) := by
  unfold results
  congr 1
theorem ResAt.run {P : Program} {N : Nat} {σ : Env} {H : Heap} {L : Own} {r : ResultVar} {v : Value} (h : ResAt P σ H L r v) {tmps : Array Value} {w : World} (hs : Sim N σ tmps) (hsat : Sat H L.flatten w) : (resOne tmps r).run P w = .ok v w := by
  cases h with
  | tmp h => simp [resOne, hs.val, h]
  | cell1 hagg ha hin hv =>
    have hb := hsat.l _ (hin.mem (List.mem_singleton.2 rfl))
    have hc := cell_of_heap hb hv
    simp [resOne, hs.val, ha, asAddr, loadVar, hagg, hc]
  | cellA hagg hsz ha hin hl hn =>
    have hb := hsat.l _ (hin.mem (List.mem_singleton.2 rfl))
    have hl2 := run_loadCells_list (P := P) w _ _ (fun j u hj => by rw [Addr.add_lit]; exact cell_of_heap hb (by simpa using take_drop_get hl hj))
    rw [hn] at hl2
    simp [resOne, hs.val, ha, asAddr, loadVar, hagg, hsz, hl2]
  | cell1H hagg ha hin hv =>
    have hc := cell_of_heap (hsat.h _ _ hin) hv
    simp [resOne, hs.val, ha, asAddr, loadVar, hagg, hc]
  | cellAH hagg hsz ha hin hl hn =>
    have hb := hsat.h _ _ hin
    have hl2 := run_loadCells_list (P := P) w _ _ (fun j u hj => by rw [Addr.add_lit]; exact cell_of_heap hb (by simpa using take_drop_get hl hj))
    rw [hn] at hl2
    simp [resOne, hs.val, ha, asAddr, loadVar, hagg, hsz, hl2]
section
variable {P : Program} {fn : Func} {N : Nat} {post : Value → Heap → Own → Prop} {σ : Env} {H : Heap} {L : Own} {ds : List Nat} {r r' r'' : ResultVar} {v v' v'' : Value}
theorem finR1 (L' : Own) (hr : fn.results = #[r]) (h1 : ResAt P σ H L r v) (hL : List.Sublist L' L) (h : post v H L') : fnPost P fn N post .ret σ H L ds :=
  ⟨v, L', hL, fun tmps w hs hsat => by
    rw [results_eq, hr]
    simp [h1.run hs hsat], h⟩
theorem finR2 (L' : Own) (hr : fn.results = #[r, r']) (h1 : ResAt P σ H L r v) (h2 : ResAt P σ H L r' v') (hL : List.Sublist L' L) (h : post (.tuple #[v, v']) H L') : fnPost P fn N post .ret σ H L ds :=
  ⟨_, L', hL, fun tmps w hs hsat => by
    rw [results_eq, hr]
    simp [h1.run hs hsat, h2.run hs hsat], h⟩
theorem finR3 (L' : Own) (hr : fn.results = #[r, r', r'']) (h1 : ResAt P σ H L r v) (h2 : ResAt P σ H L r' v') (h3 : ResAt P σ H L r'' v'') (hL : List.Sublist L' L) (h : post (.tuple #[v, v', v'']) H L') : fnPost P fn N post .ret σ H L ds :=
  ⟨_, L', hL, fun tmps w hs hsat => by
    rw [results_eq, hr]
    simp [h1.run hs hsat, h2.run hs hsat, h3.run hs hsat], h⟩
end
end Go.SX
namespace Go.SX
theorem getD_get {α : Type} {xs : List α} {k : Nat} {z : α} (h : k < xs.length) : xs[k]? = some (xs.getD k z) := by
  rw [List.getD_eq_getElem?_getD, List.getElem?_eq_getElem h]; rfl
end Go.SX
namespace Go.SX
open Go
/-- v[:i:m] of a row of one's own. -/
theorem OwnS.takeM {α : Type} {E : ER α} {e : TypeId} {H : Heap} {A : Option Addr} {n cap : Nat} {xs : List α} {c : Chunk} (h : OwnS E e H (.slice A n cap) xs c) {i m : Nat} (hi : i ≤ xs.length) (h1 : i ≤ m) (h2 : m ≤ cap) : OwnS E e H (slcV (.slice A n cap) 0 i m E.size) (xs.take i) c := by
  have hlen : (xs.take i).length = i := by rw [List.length_take]; omega
  rcases h with ⟨hv, rfl, rfl⟩ | ⟨b, cap', cs, hv, rfl, h3, h4, h5, h6⟩
  · cases hv
    have hi0 : i = 0 := by simpa using hi
    have hm0 : m = 0 := by omega
    subst hi0 hm0
    exact .inl ⟨by simp [slcV], by simp, rfl⟩
  · cases hv
    refine .inr ⟨b, m, cs, by simp only [slcV, Nat.zero_mul]; rw [hlen]; split <;> simp [Addr.add], rfl, by rw [hlen]; omega, by omega, Nat.le_trans (Nat.mul_le_mul_right _ h2) h5, fun k y hy => ?_⟩
    rw [List.getElem?_take] at hy
    split at hy
    · exact h6 k y hy
    · cases hy
end Go.SX

set_option linter.unusedVariables false
set_option linter.unusedSimpArgs false
namespace Go.SX
open Go
attribute [local semireducible] T TL
section
variable {fr : Fr} {x : Cx} {Q : Post} {σ : Env} {H : Heap} {L : Own} {ds : List Nat} {ol rest : List Oper}
variable {d : Nat} {ty : TypeId} {p : String} {af : Array Edge} {g : Option (Nat × Bool)}
/-- A call that reads all that is owned here, and leaves it owned. -/
theorem TL.callB {F : Operand} {ag : List Operand} {ats : Array TypeId} {fv : Value} {vs : List Value} {post : Value → Own → Prop} (hw : wan fr.N ol σ d g = true)
    (hf : ev σ F = fv) (ha : ag.map (ev σ) = vs) (hc : ∀ H', HLe H H' → (∀ q ∈ L.flatten, H' q.1 = some q.2) → Fc fr.P fv vs H' [] (fun v _ L' => post v L'))
    (h : ∀ v L', post v L' → TL fr x ol rest Q (upd σ d v) H (L' ++ L) ds) :
    TL fr x ol (⟨some d, .call { callee := .value F, args := ag.toArray, argTypes := ats }, ty, p, af, g⟩ :: rest) Q σ H L ds := by
  intro a w hs hd hst
  obtain ⟨hdN, hwn⟩ := wan_lt hw
  obtain ⟨H2, hle, hq, hst2⟩ := St.shut (L := [L.flatten]) (R := []) (c := L.flatten) (hd := hid fr.rd ds) (by simpa using hst) .hd
  have hsub : Sat H2 [] w := hst2.sat.sub (List.nil_sublist _)
  obtain ⟨nx, w1, hrun, hnx⟩ := hc H2 hle hq w hsub
  unfold wpLo
  rw [if_pos (wanted_of hs hwn)]
  refine ⟨fun f _ => fenceFn _ f, ?_⟩
  rw [semAt_of rfl, hs.eval]
  simp only [execOp]
  rw [resolve_value, hf, ha, hrun]
  have fin : ∀ (e : Ending) w', (∃ v H' L', e = .returned v ∧ St ⟨w, H2, List.flatten []⟩ H' (List.flatten L') w' ∧ post v L') →
      (match e with
        | .returned v => wpLo (fence fr.rd) fr.P ol.toArray (lift fr x Q) rest (a.put (some d) v) w'
        | .panicked chain => lift fr x Q (.panic chain) a w'
        | .outgrown => LetsOut (lift fr x Q)) := by
    rintro e w' ⟨v, H', L', rfl, h2, h3⟩
    have k2 : St ⟨w, H, []⟩ H (List.flatten L') w' := ⟨h2.sat.weak (hle.trans h2.le), h2.chg, HLe.refl _, (fun b o h4 h5 => by have h6 : H b = none := h5; rw [h6] at h4; cases h4), h2.ln⟩
    have hj : St x H (L'.flatten ++ (L.flatten ++ hid fr.rd ds)) w' := St.join (Lp := []) hst k2
    rw [← List.append_assoc, ← List.flatten_append] at hj
    exact h v L' h3 _ w' (hs.putA d v hdN) hd hj
  cases nx with
  | enter f ag' => exact ⟨(fun h => by cases h), CallsIn.mono (calls_fence hnx) (fun e w' q => by have := fin e w' q; cases e <;> exact this)⟩
  | round l fn tmps ag' body => exact ⟨(fun h => by cases h), RoundIn.mono (round_fence hnx) (fun e w' q => by have := fin e w' q; cases e <;> exact this)⟩
  | _ => exact hnx.elim
theorem R.callvB {F : Operand} {ag : List Operand} {ats : Array TypeId} {fv : Value} {vs : List Value} {v : Value} (hw : wan fr.N ol σ d g = true)
    (hf : ev σ F = fv) (ha : ag.map (ev σ) = vs) (hc : ∀ H', HLe H H' → (∀ q ∈ L.flatten, H' q.1 = some q.2) → Fv fr.P fv vs H' v) (h : TL fr x ol rest Q (upd σ d v) H L ds) :
    TL fr x ol (⟨some d, .call { callee := .value F, args := ag.toArray, argTypes := ats }, ty, p, af, g⟩ :: rest) Q σ H L ds :=
  TL.callB (post := fun v' L' => L' = [] ∧ v' = v) hw hf ha (fun H' h1 h2 => hc H' h1 h2) (fun v' L' ⟨h1, h2⟩ => by subst h1; subst h2; exact h)
/-- An element's relation that asks no heap. -/
def ER.Flat {α : Type} (E : ER α) : Prop := ∀ H H' l x, E.R H l x → E.R H' l x
/-- A chunk among those that are owned can be read where all of them can. -/
theorem In.all {c : Chunk} (h : In L c) {H' : Heap} (hq : ∀ q ∈ L.flatten, H' q.1 = some q.2) : ∀ q ∈ c, H' q.1 = some q.2 := fun q k => hq q (h.mem k)
/-- copy, with a result. -/
theorem R.copyD {α : Type} {E : ER α} {bytes : Nat} {t t2 e : TypeId} {S X : Operand} {v xv : Value} {xs ys : List α} {ch : Chunk} {R : Own} {cells : List Value} (hty : TyE fr.P t e E bytes) (hw : wan fr.N ol σ d g = true)
    (hs : ev σ S = v) (hx : ev σ X = xv) (hown : OwnS E e H v xs ch) (hdel : Del L ch R) (hsrc : Src H L xv ys.length cells) (hys : CellsOf E H cells ys) (hlen : ys.length = xs.length)
    (hk : ∀ c', OwnS E e H v ys c' → TL fr x ol rest Q (upd σ d (.int .i64 xs.length)) H (c' :: R) ds) :
    TL fr x ol (⟨some d, .call { callee := .builtin .copy, args := #[S, X], argTypes := #[t, t2] }, ty, p, af, g⟩ :: rest) Q σ H L ds :=
  Go.SX.R.copy (dd := some d) hty (wan_lt hw).2 (fun q h => by cases h; exact (wan_lt hw).1) hs hx hown hdel hsrc hys hlen hk
end
end Go.SX
namespace Go.SX
theorem or_f {p : Prop} [Decidable p] {b : Bool} : ((if p then true else b) = false) ↔ (¬p ∧ b = false) := by by_cases h : p <;> simp [h]
theorem or_t {p : Prop} [Decidable p] {b : Bool} : ((if p then true else b) = true) ↔ (p ∨ b = true) := by by_cases h : p <;> simp [h]
theorem and_t {p : Prop} [Decidable p] {b : Bool} : ((if p then b else false) = true) ↔ (p ∧ b = true) := by by_cases h : p <;> simp [h]
theorem and_f {p : Prop} [Decidable p] {b : Bool} : ((if p then b else false) = false) ↔ (¬p ∨ b = false) := by by_cases h : p <;> simp [h]
end Go.SX

set_option linter.unusedVariables false
set_option linter.unusedSimpArgs false
namespace Go.SX
open Go Go.Proofs
def slotE : ER (Int × Bool) where
  size := 2
  R := fun _ cs x => cs = [.int .i64 x.1, .bool x.2]
  len := fun h => by subst h; rfl
  mono := fun _ h => h
  one := fun h v hv => by subst h; simp only [List.mem_cons, List.not_mem_nil, or_false] at hv; rcases hv with rfl | rfl <;> rfl

def relationE : ER (Int × (Bool × Bool × Int × Int × Int)) where
  size := 6
  R := fun _ cs x => cs = [.int .i64 x.1, .bool x.2.1, .bool x.2.2.1, .int .i64 x.2.2.2.1, .int .i64 x.2.2.2.2.1, .int .i64 x.2.2.2.2.2]
  len := fun h => by subst h; rfl
  mono := fun _ h => h
  one := fun h v hv => by subst h; simp only [List.mem_cons, List.not_mem_nil, or_false] at hv; rcases hv with rfl | rfl | rfl | rfl | rfl | rfl <;> rfl

def heldE : ER (Int × Int) where
  size := 2
  R := fun _ cs x => cs = [.int .i64 x.1, .int .u64 x.2]
  len := fun h => by subst h; rfl
  mono := fun _ h => h
  one := fun h v hv => by subst h; simp only [List.mem_cons, List.not_mem_nil, or_false] at hv; rcases hv with rfl | rfl <;> rfl

theorem Tryd_ty22 : TyE Tryd.prog 22 101 slotE 16 := TyE.mk' (z := .agg #[.int .i64 0, .bool false]) Tryd.underlying22 (by kernel_rfl) rfl (by decide)

theorem Tryd_ty29 : TyE Tryd.prog 29 32 (intE .u64) 8 := TyE.mk' (z := .int .u64 0) Tryd.underlying29 (by kernel_rfl) rfl (by decide)

set_option maxHeartbeats 1600000 in
theorem clone23_c (H : Heap) (v : Value) (xs : List (Int)) (hr : RdS (intE .i64) H v xs) (hl : xs.length ≤ 4000000) : Fc Tryd.prog (fnv 57) [v] H [] (fun v' H' L' => ∃ c, L' = [c] ∧ OwnS (intE .i64) 3 H' v' xs c) := by
  refine Fc.of_body (N := 8) Tryd.func57 rfl (by kernel_rfl) rfl rfl ?_
  intro w0
  obtain ⟨A, c, rfl, hc1, hc2, hr⟩ := hr.shape
  refine T.seq ?_
  refine T.region ?_
  refine R.asE rfl (by conv => lhs; whnf) ?_
  refine TL.nil (Post.thnN ?_)
  refine T.seq ?_
  refine T.seq ?_
  refine T.region ?_
  refine R.mvE rfl (by conv => lhs; whnf) ?_
  refine R.nilS Tryd.underlying23 rfl rfl rfl ?_
  refine TL.nil (Post.thnN ?_)
  refine T.cond rfl (fun c4 => ?_) (fun c4 => ?_)
  · refine T.seq ?_
    refine T.nilc ?_
    refine T.region ?_
    refine R.asE rfl (by conv => lhs; whnf) ?_
    refine TL.nil (Post.thnN ?_)
    refine T.ret (Post.thnR ?_)
    -- way y
    exact fin1L [[]] rfl rfl (List.Sublist.refl _) ⟨_, rfl, .inl ⟨rfl, RdS.none_nil (by cases A with | none => exact hr | some _ => cases c4), rfl⟩⟩
  · refine T.skip (Post.thnN ?_)
    refine T.seq ?_
    refine T.region ?_
    refine R.bs0 (E := (intE .i64)) rfl Tryd.underlying23 Tryd.sizeOf3 ?_
    intro v5 c5 w5
    refine R.mvE rfl (by conv => lhs; whnf) ?_
    obtain ⟨cs7, y7, r7⟩ := Src.rd (L := [c5]) hr
    refine R.app Tryd_ty23 rfl rfl rfl w5 .hd r7 y7 (by simp; omega) (by simp; omega) ?_
    intro v7 c7 w7
    rw [List.nil_append] at w7
    refine R.asE rfl (by conv => lhs; whnf) ?_
    refine TL.nil (Post.thnN ?_)
    refine T.ret ?_
    -- way n
    exact fin1L [c7] rfl rfl (List.Sublist.refl _) ⟨_, rfl, w7⟩
def slices_Equal_Id_l1 (a1 : List Int) : List Int → Nat → Unit → LR (Bool) (Unit)
  | [], kl1, sl1 => .go ()
  | yl1 :: ysl1, kl1, sl1 => if yl1 ≠ (a1.getD kl1 (0 : Int)) then (.ret false) else (slices_Equal_Id_l1 a1 ysl1 (kl1 + 1) ())
def slices_Equal_Id_m (a0 : List Int) (a1 : List Int) : Bool :=
  if (a0.length : Int) ≠ (a1.length : Int) then false else (LR.on (slices_Equal_Id_l1 a1 a0 0 ()) (fun r => r) (fun ol1 => true))
def slices_Equal_Held_l1 (a1 : List (Int × Int)) : List (Int × Int) → Nat → Unit → LR (Bool) (Unit)
  | [], kl1, sl1 => .go ()
  | yl1 :: ysl1, kl1, sl1 => if (yl1 : Int × Int) ≠ (a1.getD kl1 (((0, 0) : Int × Int) : Int × Int)) then (.ret false) else (slices_Equal_Held_l1 a1 ysl1 (kl1 + 1) ())
def slices_Equal_Held_m (a0 : List (Int × Int)) (a1 : List (Int × Int)) : Bool :=
  if (a0.length : Int) ≠ (a1.length : Int) then false else (LR.on (slices_Equal_Held_l1 a1 a0 0 ()) (fun r => r) (fun ol1 => true))
def slices_Equal_Relation_l1 (a1 : List (Int × (Bool × Bool × Int × Int × Int))) : List (Int × (Bool × Bool × Int × Int × Int)) → Nat → Unit → LR (Bool) (Unit)
  | [], kl1, sl1 => .go ()
  | yl1 :: ysl1, kl1, sl1 => if (yl1 : Int × (Bool × Bool × Int × Int × Int)) ≠ (a1.getD kl1 (((0, (false, false, 0, 0, 0)) : Int × (Bool × Bool × Int × Int × Int)) : Int × (Bool × Bool × Int × Int × Int))) then (.ret false) else (slices_Equal_Relation_l1 a1 ysl1 (kl1 + 1) ())
def slices_Equal_Relation_m (a0 : List (Int × (Bool × Bool × Int × Int × Int))) (a1 : List (Int × (Bool × Bool × Int × Int × Int))) : Bool :=
  if (a0.length : Int) ≠ (a1.length : Int) then false else (LR.on (slices_Equal_Relation_l1 a1 a0 0 ()) (fun r => r) (fun ol1 => true))
def slices_Equal_int_l1 (a1 : List Int) : List Int → Nat → Unit → LR (Bool) (Unit)
  | [], kl1, sl1 => .go ()
  | yl1 :: ysl1, kl1, sl1 => if yl1 ≠ (a1.getD kl1 (0 : Int)) then (.ret false) else (slices_Equal_int_l1 a1 ysl1 (kl1 + 1) ())
def slices_Equal_int_m (a0 : List Int) (a1 : List Int) : Bool :=
  if (a0.length : Int) ≠ (a1.length : Int) then false else (LR.on (slices_Equal_int_l1 a1 a0 0 ()) (fun r => r) (fun ol1 => true))
set_option maxHeartbeats 3200000 in
theorem slices_Equal_int_c (H : Heap) (va0 : Value) (a0 : List Int) (ha0 : RdS (intE .i64) H va0 a0) (va1 : Value) (a1 : List Int) (ha1 : RdS (intE .i64) H va1 a1) : Fv Tryd.prog (fnv 73) [va0, va1] H (.bool (slices_Equal_int_m a0 a1)) := by
  refine Fc.of_body (N := 26) Tryd.func73 rfl (by kernel_rfl) rfl rfl ?_
  intro w0
  obtain ⟨Aa0, ca0, rfl, hca0, hda0, ha0⟩ := ha0.shape
  obtain ⟨Aa1, ca1, rfl, hca1, hda1, ha1⟩ := ha1.shape
  refine T.seq ?_
  refine T.region ?_
  refine R.asE rfl (by conv => lhs; whnf) ?_
  refine TL.nil (Post.thnN ?_)
  refine T.seq ?_
  refine T.seq ?_
  refine T.region ?_
  refine R.mvE rfl (by conv => lhs; whnf) ?_
  refine R.len Tryd.underlying23 rfl rfl ?_
  refine R.mvE rfl (by conv => lhs; whnf) ?_
  refine R.len Tryd.underlying23 rfl rfl ?_
  refine R.neq rfl rfl rfl ?_
  refine TL.nil (Post.thnN ?_)
  refine T.condD rfl (fun c10 => ?_) (fun c10 => ?_)
  · refine T.set 10 (.bool true) (congrArg Value.bool (decide_eq_true c10)) ?_
    refine T.seq ?_
    refine T.region ?_
    refine R.asE rfl (by conv => lhs; whnf) ?_
    refine TL.nil (Post.thnN ?_)
    refine T.has Has.nil ?_
    refine T.ret (Post.thnR ?_)
    have hM : slices_Equal_int_m a0 a1 = false := by rw [slices_Equal_int_m, if_pos c10]
    exact fin1L (v := .bool false) [] rfl rfl (List.Sublist.refl _) ⟨rfl, by first | rw [hM] | rfl⟩
  · refine T.set 10 (.bool false) (congrArg Value.bool (decide_eq_false c10)) ?_
    refine T.skip (Post.thnN ?_)
    refine T.seq ?_
    refine T.seq ?_
    refine T.region ?_
    refine R.mvE rfl (by conv => lhs; whnf) ?_
    refine R.len Tryd.underlying23 rfl rfl ?_
    refine R.mvE rfl (by conv => lhs; whnf) ?_
    refine TL.nil (Post.thnN ?_)
    refine T.block ?_
    refine T.loop (ι := Nat) (fun kl1 H' L' ds' => kl1 ≤ a0.length ∧ Has L' [] ∧ slices_Equal_int_l1 a1 (a0.drop kl1) kl1 () = slices_Equal_int_l1 a1 a0 0 ()) (fun kl1 => [(13, .int .i64 (kl1 : Int)), (0, .slice Aa0 a0.length ca0), (1, .slice Aa1 a1.length ca1), (12, .int .i64 (a0.length : Int))]) (fun kl1 => a0.length - kl1) 0 ?_ ?_ ?_
    · exact ⟨(by omega), Has.nil, (by rfl)⟩
    · exact ⟨rfl, rfl, rfl, rfl, trivial⟩
    · intro kl1 σ_l1 H_l1 L_l1 ds_l1 s_l1 hI_l1
      obtain ⟨hkl1, hI_l1⟩ := hI_l1
      obtain ⟨hLl1, hQl1⟩ := hI_l1
      refine T.has hLl1 ?_
      refine T.seq ?_
      refine T.region ?_
      refine R.lss rfl rfl rfl ?_
      refine TL.nil (Post.thnN ?_)
      refine T.seq ?_
      refine T.condD rfl (fun c14 => ?_) (fun c14 => ?_)
      · have hltl1 : kl1 < a0.length := by omega
        obtain ⟨yl1, hyl1⟩ := getk (xs := a0) (k := kl1) (by omega)
        refine T.skip (Post.thnN ?_)
        refine T.seq ?_
        refine T.block ?_
        refine T.seq ?_
        refine T.region ?_
        refine R.mvE rfl (by conv => lhs; whnf) ?_
        refine R.asE rfl (by conv => lhs; whnf) ?_
        refine TL.nil (Post.thnN ?_)
        refine T.seq ?_
        refine T.draw Tryd_mixed (by kernel_rfl) ?_
        refine Plan.v 0 [1, 2, 3, 4, 5, 6, 7, 8] (by kernel_rfl) (by kernel_rfl) (by kernel_rfl) (by kernel_rfl) rfl (fun _ _ h_ => R.mvE rfl (by conv => lhs; whnf) (TL.nil h_)) ?_
        refine Plan.v 1 [2, 3, 4, 5, 6, 7, 8] (by kernel_rfl) (by kernel_rfl) (by kernel_rfl) (by kernel_rfl) rfl (fun _ _ h_ => R.mvE rfl (by conv => lhs; whnf) (TL.nil h_)) ?_
        obtain ⟨b18, o18, i18, k18⟩ := RdS.elem (ha0.mono s_l1) hyl1
        obtain ⟨l18, g18, k18⟩ := k18
        obtain rfl : l18 = [.int .i64 yl1] := g18
        refine Plan.v 2 [3, 4, 5, 6, 7, 8] (by kernel_rfl) (by kernel_rfl) (by kernel_rfl) (by kernel_rfl) rfl (fun _ _ h_ => R.ixp Tryd.underlying23 Tryd.sizeOf3 rfl rfl rfl (by omega) i18 (TL.nil h_)) ?_
        refine Plan.v 3 [4, 5, 6, 7, 8] (by kernel_rfl) (by kernel_rfl) (by kernel_rfl) (by kernel_rfl) rfl (fun _ _ h_ => R.ldC Tryd.isAgg3 rfl rfl (k18 0 _ rfl) (TL.nil h_)) ?_
        refine Plan.v 4 [5, 6, 7, 8] (by kernel_rfl) (by kernel_rfl) (by kernel_rfl) (by kernel_rfl) rfl (fun _ _ h_ => R.mvE rfl (by conv => lhs; whnf) (TL.nil h_)) ?_
        refine Plan.v 5 [6, 7, 8] (by kernel_rfl) (by kernel_rfl) (by kernel_rfl) (by kernel_rfl) rfl (fun _ _ h_ => R.mvE rfl (by conv => lhs; whnf) (TL.nil h_)) ?_
        have hl22 : kl1 < a1.length := by first | omega | (simp; done) | (simp; omega) | (simp at *; omega)
        obtain ⟨y22, e22, h22⟩ : ∃ y, y = (a1.getD kl1 (0 : Int)) ∧ a1[kl1]? = some y := ⟨_, rfl, getD_get (by first | exact hl22 | simpa using hl22 | (rw [(sortI_perm _).length_eq]; exact hl22))⟩
        obtain ⟨b22, o22, i22, k22⟩ := RdS.elem (ha1.mono s_l1) h22
        obtain ⟨l22, g22, k22⟩ := k22
        obtain rfl : l22 = [.int .i64 y22] := g22
        refine Plan.v 6 [7, 8] (by kernel_rfl) (by kernel_rfl) (by kernel_rfl) (by kernel_rfl) rfl (fun _ _ h_ => R.ixp Tryd.underlying23 Tryd.sizeOf3 rfl rfl rfl (by first | omega | (simp; done) | (simp; omega) | (simp at *; omega)) i22 (TL.nil h_)) ?_
        refine Plan.v 7 [8] (by kernel_rfl) (by kernel_rfl) (by kernel_rfl) (by kernel_rfl) rfl (fun _ _ h_ => R.ldC Tryd.isAgg3 rfl rfl (k22 0 _ rfl) (TL.nil h_)) ?_
        refine Plan.v 8 [] (by kernel_rfl) (by kernel_rfl) (by kernel_rfl) (by kernel_rfl) rfl (fun _ _ h_ => R.neq rfl rfl rfl (TL.nil h_)) ?_
        refine Plan.done (Post.thnN ?_)
        refine T.condD rfl (fun c24 => ?_) (fun c24 => ?_)
        · refine T.set 24 (.bool true) (congrArg Value.bool (decide_eq_true c24)) ?_
          refine T.seq ?_
          refine T.region ?_
          refine R.asE rfl (by conv => lhs; whnf) ?_
          refine TL.nil (Post.thnN ?_)
          refine T.has Has.nil ?_
          refine T.ret (Post.blkR (Post.thnR (Post.thnR (Post.blkR (Post.thnR ?_)))))
          have hXl1 : slices_Equal_int_l1 a1 a0 0 () = .ret false := by subst e22; rw [← hQl1, drop_cons hyl1, slices_Equal_int_l1]; rw [if_pos c24]
          have hM : slices_Equal_int_m a0 a1 = false := by rw [slices_Equal_int_m, if_neg c10, hXl1, LR.on_ret]
          exact fin1L (v := .bool false) [] rfl rfl (List.Sublist.refl _) ⟨rfl, by first | rw [hM] | rfl⟩
        · refine T.set 24 (.bool false) (congrArg Value.bool (decide_eq_false c24)) ?_
          refine T.skip (Post.blkN ?_)
          refine id (Post.thnN ?_)
          refine T.region ?_
          refine R.addI rfl rfl rfl (by omega) ?_
          refine R.mvE rfl (by conv => lhs; whnf) ?_
          refine TL.nil (Post.thnN ?_)
          exact ⟨kl1 + 1, s_l1, ⟨(by omega), Has.nil, (by subst e22; rw [← hQl1, drop_cons hyl1, slices_Equal_int_l1]; rw [if_neg c24])⟩, by show a0.length - (kl1 + 1) < a0.length - kl1; omega, rfl, rfl, rfl, rfl, trivial⟩
      · refine T.exit (Post.thnE (Post.thnE (Post.blkX ?_)))
        have hEl1 : slices_Equal_int_l1 a1 a0 0 () = .go () := (hQl1.symm.trans (by rw [show kl1 = a0.length by omega, List.drop_length, slices_Equal_int_l1]))
        refine id (Post.thnN ?_)
        refine T.seq ?_
        refine T.region ?_
        refine R.asE rfl (by conv => lhs; whnf) ?_
        refine TL.nil (Post.thnN ?_)
        refine T.has Has.nil ?_
        refine T.ret ?_
        have hM : slices_Equal_int_m a0 a1 = true := by rw [slices_Equal_int_m, if_neg c10, hEl1, LR.on_go]
        exact fin1L (v := .bool true) [] rfl rfl (List.Sublist.refl _) ⟨rfl, by first | rw [hM] | rfl⟩

theorem slices_Equal_int_go (b : List (Int)) : ∀ (a : List (Int)) (k : Nat), k + a.length = b.length → slices_Equal_int_l1 b a k () = if a = b.drop k then .go () else .ret false
  | [], k, h => by
    have : b.drop k = [] := List.drop_eq_nil_iff.2 (by simp at h; omega)
    rw [slices_Equal_int_l1, this, if_pos rfl]
  | y :: ys, k, h => by
    have hk : k < b.length := by simp at h; omega
    rw [slices_Equal_int_l1, List.drop_eq_getElem_cons hk]
    have hg : b.getD k (0 : Int) = b[k] := by rw [List.getD_eq_getElem?_getD, List.getElem?_eq_getElem hk]; rfl
    rw [hg]
    by_cases e : y = b[k]
    · rw [if_neg (fun h => h e), slices_Equal_int_go b ys (k + 1) (by simp at h; omega)]
      subst e
      by_cases e2 : ys = b.drop (k + 1)
      · rw [if_pos e2, if_pos (by rw [← e2])]
      · rw [if_neg e2, if_neg (fun h => e2 (List.cons.inj h).2)]
    · rw [if_pos e, if_neg (fun h => e (List.cons.inj h).1)]
theorem slices_Equal_int_eq (a b : List (Int)) : slices_Equal_int_m a b = decide (a = b) := by
  unfold slices_Equal_int_m
  by_cases h : a.length = b.length
  · rw [if_neg (by omega), slices_Equal_int_go b a 0 (by omega), List.drop_zero]
    by_cases e : a = b
    · rw [if_pos e, LR.on_go, decide_eq_true e]
    · rw [if_neg e, LR.on_ret, decide_eq_false e]
  · rw [if_pos (by omega), decide_eq_false (fun e => h (by rw [e]))]
theorem slices_Equal_int_d (H : Heap) (v : Value) (a : List (Int)) (h : RdS (intE .i64) H v a) (u : Value) (b : List (Int)) (k : RdS (intE .i64) H u b) : Fv Tryd.prog (fnv 73) [v, u] H (.bool (decide (a = b))) := Fv.to (slices_Equal_int_c H v a h u b k) (congrArg Value.bool (slices_Equal_int_eq a b))
theorem eqT101 (d : Nat) (a b : Int × Bool) (w : World) : (Op.equalIn (d + 2) 101 (.agg #[.int .i64 a.1, .bool a.2]) (.agg #[.int .i64 b.1, .bool b.2])).run Tryd.prog w = .ok (decide (a = b)) w := by
  have h : decide (a = b) = (decide (a.1 = b.1) && (decide (a.2 = b.2) && true)) := by
    rw [Bool.eq_iff_iff]; simp [Prod.ext_iff]
  rw [h]
  exact eq_struct (d := d + 1) Tryd.underlying101 (by kernel_rfl) (eqF_cons (by decide) (part_one Tryd.isAgg3 rfl) (part_one Tryd.isAgg3 rfl) (eq_int Tryd.underlying3) (eqF_cons (by decide) (part_one Tryd.isAgg4 rfl) (part_one Tryd.isAgg4 rfl) (eq_bool Tryd.underlying4) eqF_nil))
theorem eqG101 : Tryd.prog.eqGuardType Tryd.prog.depth 101 = false := by kernel_rfl
def slices_Equal_Slot_l1 (a1 : List (Int × Bool)) : List (Int × Bool) → Nat → Unit → LR (Bool) (Unit)
  | [], kl1, sl1 => .go ()
  | yl1 :: ysl1, kl1, sl1 => if (yl1 : Int × Bool) ≠ (a1.getD kl1 (((0, false) : Int × Bool) : Int × Bool)) then (.ret false) else (slices_Equal_Slot_l1 a1 ysl1 (kl1 + 1) ())
def slices_Equal_Slot_m (a0 : List (Int × Bool)) (a1 : List (Int × Bool)) : Bool :=
  if (a0.length : Int) ≠ (a1.length : Int) then false else (LR.on (slices_Equal_Slot_l1 a1 a0 0 ()) (fun r => r) (fun ol1 => true))
def slices_Index_Id_l1 (a1 : Int) : List Int → Nat → Unit → LR (Int) (Unit)
  | [], kl1, sl1 => .go ()
  | yl1 :: ysl1, kl1, sl1 => if a1 = yl1 then (.ret ((kl1 : Int))) else (slices_Index_Id_l1 a1 ysl1 (kl1 + 1) ())
def slices_Index_Id_m (a0 : List Int) (a1 : Int) : Int :=
  LR.on (slices_Index_Id_l1 a1 a0 0 ()) (fun r => r) (fun ol1 => (-1))
def slices_Index_int_l1 (a1 : Int) : List Int → Nat → Unit → LR (Int) (Unit)
  | [], kl1, sl1 => .go ()
  | yl1 :: ysl1, kl1, sl1 => if a1 = yl1 then (.ret ((kl1 : Int))) else (slices_Index_int_l1 a1 ysl1 (kl1 + 1) ())
def slices_Index_int_m (a0 : List Int) (a1 : Int) : Int :=
  LR.on (slices_Index_int_l1 a1 a0 0 ()) (fun r => r) (fun ol1 => (-1))
def slices_Index_Held_l1 (a1 : Int × Int) : List (Int × Int) → Nat → Unit → LR (Int) (Unit)
  | [], kl1, sl1 => .go ()
  | yl1 :: ysl1, kl1, sl1 => if (a1 : Int × Int) = yl1 then (.ret ((kl1 : Int))) else (slices_Index_Held_l1 a1 ysl1 (kl1 + 1) ())
def slices_Index_Held_m (a0 : List (Int × Int)) (a1 : Int × Int) : Int :=
  LR.on (slices_Index_Held_l1 a1 a0 0 ()) (fun r => r) (fun ol1 => (-1))
def slices_Contains_Id_m (a0 : List Int) (a1 : Int) : Bool :=
  (decide ((0 : Int) ≤ (slices_Index_Id_m a0 a1)))
def slices_Contains_int_m (a0 : List Int) (a1 : Int) : Bool :=
  (decide ((0 : Int) ≤ (slices_Index_int_m a0 a1)))
def slices_Contains_Held_m (a0 : List (Int × Int)) (a1 : Int × Int) : Bool :=
  (decide ((0 : Int) ≤ (slices_Index_Held_m a0 a1)))
end Go.SX

namespace Go.Proofs
open Go.Shelf
def Tryd.lays189_ren : Go.Shelf.Ren := ⟨fun | 189 => 68 | 125 => 109 | 257 => 108 | 128 => 145 | 129 => 146 | 294 => 137 | 295 => 138 | 296 => 139 | 297 => 140 | 298 => 141 | 299 => 142 | 216 => 102 | 300 => 143 | 301 => 144 | 328 => 159 | 329 => 160 | 330 => 161 | 331 => 162 | 332 => 163 | 215 => 136 | 343 => 169 | n => n, fun | 28 => 23 | 3 => 3 | 46 => 47 | 0 => 0 | 51 => 186 | 53 => 31 | 4 => 4 | 183 => 180 | 182 => 179 | 131 => 88 | 5 => 5 | 9 => 9 | 218 => 197 | 222 => 201 | 228 => 205 | 229 => 108 | n => n, fun | n => n⟩
theorem Tryd.lays189 : Go.Proofs.Lays.n189 Tryd.prog Tryd.lays189_ren := {
  mixed := by kernel_rfl
  f125 := Tryd.func109.trans (congrArg some (by kernel_rfl))
  f128 := Tryd.func145.trans (congrArg some (by kernel_rfl))
  f129 := Tryd.func146.trans (congrArg some (by kernel_rfl))
  f189 := Tryd.func68.trans (congrArg some (by kernel_rfl))
  f215 := Tryd.func136.trans (congrArg some (by kernel_rfl))
  f216 := Tryd.func102.trans (congrArg some (by kernel_rfl))
  f257 := Tryd.func108.trans (congrArg some (by kernel_rfl))
  f294 := Tryd.func137.trans (congrArg some (by kernel_rfl))
  f295 := Tryd.func138.trans (congrArg some (by kernel_rfl))
  f296 := Tryd.func139.trans (congrArg some (by kernel_rfl))
  f297 := Tryd.func140.trans (congrArg some (by kernel_rfl))
  f298 := Tryd.func141.trans (congrArg some (by kernel_rfl))
  f299 := Tryd.func142.trans (congrArg some (by kernel_rfl))
  f300 := Tryd.func143.trans (congrArg some (by kernel_rfl))
  f301 := Tryd.func144.trans (congrArg some (by kernel_rfl))
  f328 := Tryd.func159.trans (congrArg some (by kernel_rfl))
  f329 := Tryd.func160.trans (congrArg some (by kernel_rfl))
  f330 := Tryd.func161.trans (congrArg some (by kernel_rfl))
  f331 := Tryd.func162.trans (congrArg some (by kernel_rfl))
  f332 := Tryd.func163.trans (congrArg some (by kernel_rfl))
  f343 := Tryd.func169.trans (congrArg some (by kernel_rfl))
  t0 := Tryd.underlying0
  a0 := Tryd.isAgg0
  z0 := Tryd.sizeOf0
  v0 := Tryd.zeroValue0
  t3 := Tryd.underlying3
  a3 := Tryd.isAgg3
  z3 := Tryd.sizeOf3
  v3 := Tryd.zeroValue3
  t4 := Tryd.underlying4
  a4 := Tryd.isAgg4
  z4 := Tryd.sizeOf4
  v4 := Tryd.zeroValue4
  t5 := Tryd.underlying5
  a5 := Tryd.isAgg5
  z5 := Tryd.sizeOf5
  v5 := Tryd.zeroValue5
  t9 := Tryd.underlying9
  a9 := Tryd.isAgg9
  z9 := Tryd.sizeOf9
  v9 := Tryd.zeroValue9
  t28 := Tryd.underlying23
  a28 := Tryd.isAgg23
  z28 := Tryd.sizeOf23
  v28 := Tryd.zeroValue23
  t46 := Tryd.underlying47
  a46 := Tryd.isAgg47
  z46 := Tryd.sizeOf47
  v46 := Tryd.zeroValue47
  t51 := Tryd.underlying186
  a51 := Tryd.isAgg186
  z51 := Tryd.sizeOf186
  v51 := Tryd.zeroValue186
  t53 := Tryd.underlying31
  a53 := Tryd.isAgg31
  z53 := Tryd.sizeOf31
  v53 := Tryd.zeroValue31
  t131 := Tryd.underlying88
  a131 := Tryd.isAgg88
  z131 := Tryd.sizeOf88
  v131 := Tryd.zeroValue88
  t182 := Tryd.underlying179
  a182 := Tryd.isAgg179
  z182 := Tryd.sizeOf179
  v182 := Tryd.zeroValue179
  t183 := Tryd.underlying180
  a183 := Tryd.isAgg180
  z183 := Tryd.sizeOf180
  v183 := Tryd.zeroValue180
  t218 := Tryd.underlying197
  a218 := Tryd.isAgg197
  z218 := Tryd.sizeOf197
  v218 := Tryd.zeroValue197
  t222 := Tryd.underlying201
  a222 := Tryd.isAgg201
  z222 := Tryd.sizeOf201
  v222 := Tryd.zeroValue201
  t228 := Tryd.underlying205
  a228 := Tryd.isAgg205
  z228 := Tryd.sizeOf205
  v228 := Tryd.zeroValue205
  t229 := Tryd.underlying108
  a229 := Tryd.isAgg108
  z229 := Tryd.sizeOf108
  v229 := Tryd.zeroValue108 }
end Go.Proofs

set_option linter.unusedVariables false
set_option linter.unusedSimpArgs false
namespace Go.SX
open Go Go.Sort
attribute [local semireducible] T TL
def sortI (xs : List Int) : List Int := xs.mergeSort (fun x y => decide (x ≤ y))
theorem sortI_perm (xs : List Int) : (sortI xs).Perm xs := List.mergeSort_perm _ _
theorem sortI_sorted (xs : List Int) : (sortI xs).Pairwise (· ≤ ·) := by
  have := List.pairwise_mergeSort (le := fun x y : Int => decide (x ≤ y)) (fun a b c h1 h2 => by simp at *; omega) (fun a b => by simp; omega) xs
  exact this.imp (fun h => of_decide_eq_true h)
theorem sort_fc {P : Program} {f : FuncId} {fn : Func} {cd : Code} {e : TypeId} (hf : P.funcs[f]? = some fn) (hb : fn.body = some cd) (hname : (fn.name == "runtime.NumGoroutine") = false)
    (hcon : ∀ (blk off cap : Nat) (zs : List Int) (w : World), Holds (Value.int .i64) w blk off zs.toArray → blk < w.heap.size → zs.length < 4611686018427387904 →
      Calls P f #[.slice (some ⟨blk, off, none⟩) zs.length cap] w fun e w' => e = .returned (.tuple #[]) ∧ ∃ n os, w' = grow (putRow (Value.int .i64) (Sort.ahead w n) blk off (zs.mergeSort fun x y => decide (x ≤ y)).toArray) os)
    {H : Heap} {v : Value} {xs : List Int} {c : Chunk} (ho : OwnS (intE .i64) e H v xs c) (hne : xs ≠ []) (hl : xs.length ≤ 1099511627776) :
    Fc P (fnv f) [v] H [c] (fun _ H' L' => H' = H ∧ ∃ c', L' = [c'] ∧ OwnS (intE .i64) e H v (sortI xs) c') := by
  rcases ho with ⟨_, h, _⟩ | ⟨b, cap, cs, rfl, rfl, h3, h4, h5, h6⟩
  · exact absurd h hne
  intro w hs
  have hs' : Sat H [(b, .cells cs e)] w := by simpa using hs
  have hbl := hs'.l (b, .cells cs e) (List.mem_singleton.2 rfl)
  simp only at hbl
  have hcs : cap ≤ cs.size := by have : cap * 1 ≤ cs.size := h5; omega
  have hcell : ∀ (i : Nat) x, xs[i]? = some x → cs[i]? = some (.int .i64 x) := fun i x hx => by
    obtain ⟨l, h7, h8⟩ := h6 i x hx
    obtain rfl : l = [.int .i64 x] := h7
    have := h8 0 _ rfl
    simpa [intE] using this
  have htk : cs.toList.take xs.length = xs.map (Value.int .i64) := by
    apply List.ext_getElem?
    intro i
    by_cases hi : i < xs.length
    · rw [List.getElem?_take_of_lt hi, Array.getElem?_toList, hcell i _ (List.getElem?_eq_getElem hi)]
      simp [hi]
    · rw [List.getElem?_take_eq_none (by omega), List.getElem?_eq_none (by simp; omega)]
  have hH := holds_of_blockI hbl htk
  have he := Go.Proofs.enters_of (P := P) hf hname hb #[.slice (some ⟨b, 0, none⟩) xs.length cap] w
  refine ⟨.enter f #[.slice (some ⟨b, 0, none⟩) xs.length cap], w, by simp [Deferred.ofValue, invoke, he], ?_⟩
  refine CallsIn.mono (callsIn_wide.2 (hcon b 0 cap xs w hH (heap_lt hbl) (by omega))) ?_
  rintro e' w' ⟨rfl, n, os, rfl⟩
  have hlen : (sortI xs).length = xs.length := (sortI_perm xs).length_eq
  have hnew := heap_sortedI (n := n) (os := os) (sortI xs).toArray hbl
  have hg := grownBy_sortedI (w := w) (g := b) (n := n) (os := os) (sortI xs).toArray
  refine ⟨_, H, [[(b, .cells (putCells (Value.int .i64) 0 (sortI xs).toArray cs) e)]], rfl, ?_, rfl, _, rfl, ?_⟩
  · obtain ⟨g1, g2, g3, g4, g5⟩ := hg
    refine ⟨⟨fun b' o hb' => ?_, fun q hq => ?_, by simp [keys], fun q hq => ?_⟩, ⟨g1, g2, g3, g4, fun b' h1 h2 => g5 b' h1 (fun x => h2 (by cases x; simp [keys])), Nat.le_add_right _ _⟩, HLe.refl _, fun b' o h1 h2 => ?_, fun b' hb' => ?_⟩
    · have hne' : b' ≠ b := fun x => by
        have := hs'.dj (b, .cells cs e) (List.mem_singleton.2 rfl)
        subst x; rw [hb'] at this; cases this
      have hw := hs'.h b' o hb'
      exact (g5 b' (heap_lt hw) (fun x => hne' (by cases x; rfl))).trans hw
    · simp at hq; subst hq; exact hnew
    · simp at hq; subst hq
      exact hs'.dj (b, .cells cs e) (List.mem_singleton.2 rfl)
    · have : H b' = some o := h1
      have h2' : H b' = none := h2
      rw [this] at h2'; cases h2'
    · left; simpa [keys] using hb'
  · have hsz : (putCells (Value.int .i64) 0 (sortI xs).toArray cs).size = cs.size := by simp [putCells]
    refine .inr ⟨b, cap, putCells (Value.int .i64) 0 (sortI xs).toArray cs, by rw [hlen], rfl, by rw [hlen]; exact h3, h4, by rw [hsz]; exact h5, fun i x hx => ⟨[.int .i64 x], rfl, fun j u hj => ?_⟩⟩
    have hj0 : j = 0 := by have := (List.getElem?_eq_some_iff.1 hj).1; simpa using this
    subst hj0
    simp at hj
    subst hj
    have ht := take_putCellsI cs (sortI xs) (by rw [hlen]; exact Nat.le_trans h3 hcs)
    have hi := (List.getElem?_eq_some_iff.1 hx).1
    have h9 : ((putCells (Value.int .i64) 0 (sortI xs).toArray cs).toList.take (sortI xs).length)[i]? = ((sortI xs).map (Value.int .i64))[i]? := by rw [ht]
    rw [List.getElem?_take_of_lt hi, Array.getElem?_toList, List.getElem?_map, hx] at h9
    show (putCells (Value.int .i64) 0 (sortI xs).toArray cs)[i * 1 + 0]? = _
    rw [Nat.mul_one, Nat.add_zero, h9]; rfl
end Go.SX

set_option linter.unusedVariables false
set_option linter.unusedSimpArgs false
namespace Go.SX
open Go Go.Proofs
def Y68 : Heap → List Value → (Int) → Prop := fun H vs y => vs = [.int .i64 y]

theorem sort_c (H : Heap) (v : Value) (xs : List Int) (ch : Chunk) (ho : OwnS (intE .i64) 3 H v xs ch) (hne : xs ≠ []) (hl : xs.length ≤ 1099511627776) : Fc Tryd.prog (fnv 68) [v] H [ch] (fun _ H' L' => H' = H ∧ ∃ c', L' = [c'] ∧ OwnS (intE .i64) 3 H v (sortI xs) c') :=
  sort_fc Tryd.func68 rfl (by kernel_rfl) (fun blk off cap da w eg h1 h2 => Any.slices_Sort_int Tryd.lays189 blk off cap da w eg h1 h2) ho hne hl
theorem sortA_c (H : Heap) (v : Value) (xs : List Int) (ch : Chunk) (ho : OwnS (intE .i64) 3 H v xs ch) (hl : xs.length ≤ 1099511627776) : Fc Tryd.prog (fnv 68) [v] H [ch] (fun _ H' L' => H' = H ∧ ∃ c', L' = [c'] ∧ OwnS (intE .i64) 3 H v (sortI xs) c') := by
  by_cases hne : xs = []
  · intro w hs
    obtain ⟨A, cap, rfl, _, _⟩ := ho.shape
    subst hne
    have he := Go.Proofs.enters_of (P := Tryd.prog) Tryd.func68 (by kernel_rfl) rfl #[.slice A 0 cap] w
    refine ⟨.enter 68 #[.slice A 0 cap], w, by simp [Deferred.ofValue, invoke, he], ?_⟩
    refine CallsIn.mono (callsIn_wide.2 (Go.Proofs.Any.slices_Sort_int_none Tryd.lays189 A cap w)) ?_
    rintro e' w' ⟨rfl, rfl⟩
    exact ⟨_, H, [ch], rfl, St.init hs, rfl, ch, rfl, by simpa [sortI] using ho⟩
  · exact sort_c H v xs ch ho hne hl
def slices_Values_int_1_l1  : List Int → Unit → List Int
  | [], sl1 => []
  | yl1 :: ysl1, sl1 => yl1 :: (slices_Values_int_1_l1 ysl1 ())
def slices_Values_int_1_m (q0 : List Int) : List Int :=
  (slices_Values_int_1_l1 q0 ()) ++ []
set_option maxHeartbeats 3200000 in
theorem slices_Values_int_1_c (H : Heap) (b1000 : Nat) (vq0 : Value) (q0 : List Int) (hq0 : RdS (intE .i64) H vq0 q0) (hb0 : H b1000 = some (.cells #[vq0] 23)) : Iter Tryd.prog (.func (.func 111) #[] ([.pointer (some ⟨b1000, 0, none⟩)] : List Value).toArray) Y68 H (slices_Values_int_1_m q0) := by
  intro l J Jx H1 Lc s1 hJ hJx hY h0
  obtain ⟨Aq0, cq0, rfl, hcq0, hdq0, hq0⟩ := hq0.shape
  refine Fc.of_body (N := 16) Tryd.func111 rfl (by kernel_rfl) rfl rfl ?_
  intro w0
  refine T.seq ?_
  refine T.region ?_
  refine R.ldH Tryd.isAgg23 rfl rfl (s1 _ _ hb0) rfl ?_
  refine R.len Tryd.underlying23 rfl rfl ?_
  refine R.mvE rfl (by conv => lhs; whnf) ?_
  refine TL.nil (Post.thnN ?_)
  refine T.block ?_
  refine T.loop (ι := Nat × (List Int) × Own) (fun ⟨kl1, accl1, Ml1⟩ H' L' ds' => kl1 ≤ q0.length ∧ Has L' (Ml1) ∧ J accl1 H' Ml1 ∧ accl1 ++ slices_Values_int_1_l1 (q0.drop kl1) () = slices_Values_int_1_l1 q0 ()) (fun ⟨kl1, accl1, Ml1⟩ => [(7, .int .i64 (kl1 : Int)), (0, yieldv l), (5, .slice Aq0 q0.length cq0), (6, .int .i64 (q0.length : Int))]) (fun ⟨kl1, accl1, Ml1⟩ => q0.length - kl1) (0, [], Lc) ?_ ?_ ?_
  · exact ⟨(by omega), (Has.refl _), (by simpa using h0), (by rfl)⟩
  · exact ⟨rfl, rfl, rfl, rfl, trivial⟩
  · intro ⟨kl1, accl1, Ml1⟩ σ_l1 H_l1 L_l1 ds_l1 s_l1 hI_l1
    obtain ⟨hkl1, hI_l1⟩ := hI_l1
    obtain ⟨hLl1, hJl1, hQl1⟩ := hI_l1
    refine T.has hLl1 ?_
    refine T.seq ?_
    refine T.region ?_
    refine R.lss rfl rfl rfl ?_
    refine TL.nil (Post.thnN ?_)
    refine T.seq ?_
    refine T.condD rfl (fun c8 => ?_) (fun c8 => ?_)
    · have hltl1 : kl1 < q0.length := by omega
      obtain ⟨yl1, hyl1⟩ := getk (xs := q0) (k := kl1) (by omega)
      refine T.skip (Post.thnN ?_)
      refine T.seq ?_
      refine T.block ?_
      refine T.seq ?_
      refine T.region ?_
      obtain ⟨b9, o9, i9, k9⟩ := RdS.elem (hq0.mono (s1.trans s_l1)) hyl1
      obtain ⟨l9, g9, k9⟩ := k9
      obtain rfl : l9 = [.int .i64 yl1] := g9
      refine R.ixp Tryd.underlying23 Tryd.sizeOf3 rfl rfl rfl (by omega) i9 ?_
      refine R.ldC Tryd.isAgg3 rfl rfl (k9 0 _ rfl) ?_
      refine R.asE rfl (by conv => lhs; whnf) ?_
      refine TL.nil (Post.thnN ?_)
      refine T.seq ?_
      refine T.region ?_
      refine R.mvE rfl (by conv => lhs; whnf) ?_
      refine R.mvE rfl (by conv => lhs; whnf) ?_
      have hP13_l1 : (accl1 ++ [yl1]) <+: slices_Values_int_1_l1 q0 () := by rw [← hQl1, drop_cons hyl1, slices_Values_int_1_l1]; exact (pf_app pf_one)
      have hP13_f : (accl1 ++ [yl1]) <+: slices_Values_int_1_m q0 := by rw [slices_Values_int_1_m]; exact (pf_l hP13_l1)
      have hp13 : (accl1 ++ [yl1]) <+: slices_Values_int_1_m q0 := by simpa [List.append_assoc] using hP13_f
      refine TL.callT 0 rfl rfl rfl (hY accl1 yl1 _ H_l1 Ml1 s_l1 hp13 hJl1 rfl) ?_
      intro v13 H13 L13 s13 q13
      rcases q13 with ⟨rfl, j13⟩ | ⟨rfl, j13⟩
      · refine R.not rfl rfl ?_
        refine TL.nil (Post.thnN ?_)
        refine T.condN rfl ?_
        refine T.skip (Post.blkN ?_)
        refine id (Post.thnN ?_)
        refine T.region ?_
        refine R.addI rfl rfl rfl (by omega) ?_
        refine R.mvE rfl (by conv => lhs; whnf) ?_
        refine TL.nil (Post.thnN ?_)
        exact ⟨(kl1 + 1, (accl1 ++ [yl1]), L13), (s_l1.trans s13), ⟨(by omega), (Has.refl _), (by simpa [List.append_assoc] using j13), (by (rw [← hQl1, drop_cons hyl1, slices_Values_int_1_l1]) <;> simp)⟩, by show q0.length - (kl1 + 1) < q0.length - kl1; omega, rfl, rfl, rfl, rfl, trivial⟩
      · refine R.not rfl rfl ?_
        refine TL.nil (Post.thnN ?_)
        refine T.condY rfl ?_
        refine T.ret (Post.blkR (Post.thnR (Post.thnR (Post.blkR ?_))))
        exact fin0L L13 rfl (List.Sublist.refl _) (.inr ⟨accl1, yl1, hp13, j13⟩)
    · refine T.exit (Post.thnE (Post.thnE (Post.blkX ?_)))
      have hEl1 : slices_Values_int_1_l1 q0 () = accl1 := (by rw [← hQl1, show kl1 = q0.length by omega, List.drop_length, slices_Values_int_1_l1] <;> simp)
      refine id ?_
      have hM : slices_Values_int_1_m q0 = accl1 := by rw [slices_Values_int_1_m, hEl1] <;> simp
      exact fin0N Ml1 rfl (List.Sublist.refl _) (.inl (by rw [hM]; exact hJl1))

def slices_Values_int_m (a0 : List Int) : (List Int) :=
  (slices_Values_int_1_m a0)
set_option maxHeartbeats 3200000 in
theorem slices_Values_int_c (H : Heap) (va0 : Value) (a0 : List Int) (ha0 : RdS (intE .i64) H va0 a0) : Fp Tryd.prog (fnv 75) [va0] H (fun v' H' => ∃ u0_0, v' = .func (.func 111) #[] u0_0 ∧ Iter Tryd.prog (.func (.func 111) #[] u0_0) Y68 H' (slices_Values_int_m a0)) := by
  refine Fc.of_body (N := 4) Tryd.func75 rfl (by kernel_rfl) rfl rfl ?_
  intro w0
  obtain ⟨Aa0, ca0, rfl, hca0, hda0, ha0⟩ := ha0.shape
  refine T.seq ?_
  refine T.region ?_
  refine R.box rfl (by conv => lhs; whnf) ?_
  intro b1
  refine R.asE rfl (by conv => lhs; whnf) ?_
  refine TL.shut .hd ?_
  intro Hb1_1 sb1_1 qb1_1
  have hb1_1 : Hb1_1 b1 = some (.cells #[.slice Aa0 a0.length ca0] 23) := shut1 qb1_1
  refine TL.nil (Post.thnN ?_)
  refine T.seq ?_
  refine T.region ?_
  refine R.mkf (cs := [_]) rfl rfl ?_
  refine R.asE rfl (by conv => lhs; whnf) ?_
  refine TL.nil (Post.thnN ?_)
  refine T.has Has.nil ?_
  refine T.ret ?_
  have hM : slices_Values_int_m a0 = (slices_Values_int_1_m a0) := by rw [slices_Values_int_m]
  exact fin1L (v := .func (.func 111) #[] ([.pointer (some ⟨b1, 0, none⟩)] : List Value).toArray) [] rfl rfl (List.Sublist.refl _) ⟨rfl, ([.pointer (some ⟨b1, 0, none⟩)] : List Value).toArray, by first | rw [hM] | rfl, by rw [hM]; exact (slices_Values_int_1_c _ b1 _ a0 (ha0.mono sb1_1) hb1_1)⟩

theorem slices_Values_int_go : ∀ (l : List Int) (q : List Int), slices_Values_int_1_l1 l () = l
  | [], _ => rfl
  | y :: ys, q => by rw [slices_Values_int_1_l1, slices_Values_int_go ys q]
theorem slices_Values_int_eq (l : List Int) : slices_Values_int_m l = l := by
  unfold slices_Values_int_m slices_Values_int_1_m
  rw [slices_Values_int_go l l, List.append_nil]
def slices_AppendSeq_int_r1  : List Int → ((List Int)) → (List Int)
  | [], sr1 => sr1
  | yr1 :: ysr1, sr1 => slices_AppendSeq_int_r1 ysr1 ((sr1 ++ [yr1]))
def slices_AppendSeq_int_m (a1 : List Int) : (List Int) :=
  LR.seq (slices_AppendSeq_int_r1 a1 []) (fun or1 => or1)
set_option maxHeartbeats 3200000 in
theorem slices_AppendSeq_int_c (H : Heap)  (ga1 : Nat) (la1 : Array Value) (a1 : List Int) (ea1 : Go.Proofs.Enters Tryd.prog ga1) (ha1 : Iter Tryd.prog (.func (.func ga1) #[] la1) Y68 H a1) (hlen : a1.length ≤ 4000000) : Fc Tryd.prog (fnv 147) [.slice none 0 0, .func (.func ga1) #[] la1] H [] (fun v' H' L' => ∃ u0_0 c0_0, v' = u0_0 ∧ L' = [c0_0] ∧ OwnS (intE .i64) 3 H' u0_0 (slices_AppendSeq_int_m a1) c0_0) := by
  refine Fc.of_body (N := 13) Tryd.func147 rfl (by kernel_rfl) rfl rfl ?_
  intro w0
  refine T.seq ?_
  refine T.region ?_
  refine R.box rfl (by conv => lhs; whnf) ?_
  intro b2
  refine R.asE rfl (by conv => lhs; whnf) ?_
  refine TL.nil (Post.thnN ?_)
  refine T.seq ?_
  refine T.seq ?_
  refine T.region ?_
  refine R.mvE rfl (by conv => lhs; whnf) ?_
  refine TL.nil (Post.thnN ?_)
  refine T.block ?_
  refine T.rangeFunc (xs := a1) rfl rfl ea1 ha1 (fun _ _ _ h => by subst h; rfl) rfl (fun pre H' L' => ∃ (vb2r1_0 : Value) (xb2r1_0 : List Int) (cb2r1_0 : Chunk), Has L' [[(b2, .cells #[vb2r1_0] 23)], cb2r1_0] ∧ OwnS (intE .i64) 3 H' vb2r1_0 xb2r1_0 cb2r1_0 ∧ xb2r1_0.length ≤ pre.length ∧ slices_AppendSeq_int_r1 (a1.drop pre.length) xb2r1_0 = slices_AppendSeq_int_r1 a1 []) (fun _ _ _ _ => False) (fun pre H H' L hle ⟨vb2r1_0, xb2r1_0, cb2r1_0, hL, wb2r1_0, hB0, hQ⟩ => ⟨vb2r1_0, xb2r1_0, cb2r1_0, hL, (wb2r1_0.mono hle), hB0, hQ⟩) (fun _ _ _ _ _ _ h => h) ?_ ?_ ?_ ?_
  · exact ⟨.slice none 0 0, [], [], (Has.cons .hd (Has.none Has.nil)), OwnS.nil, (by first | omega | (simp; done) | (simp; omega) | (simp at *; omega)), (by rfl)⟩
  · intro lr1 rr1 wr1 prer1 yr1 vsr1 Hr1 Lr1 sr1 hpr1 hIr1 hYr1
    obtain ⟨vb2r1_0, xb2r1_0, cb2r1_0, hLr1, wb2r1_0, hBr1_0, hQr1⟩ := hIr1
    obtain ⟨Ab2r1_0, pb2r1_0, rfl, mb2r1_0, nb2r1_0_⟩ := OwnS.shape wb2r1_0
    obtain rfl := hYr1
    refine T.has hLr1 ?_
    have hlpr1 : prer1.length + 1 ≤ a1.length := by have h0 := hpr1.length_le; simpa using h0
    refine T.region ?_
    refine R.asE rfl (by conv => lhs; whnf) ?_
    refine TL.nil ?_
    refine onlyN.mk ?_
    refine T.block ?_
    refine T.region ?_
    refine R.ld Tryd.isAgg23 rfl rfl .hd rfl ?_
    refine R.mvE rfl (by conv => lhs; whnf) ?_
    refine R.bs rfl (run_buildSlice1 Tryd.underlying23 Tryd.sizeOf3 Tryd.zeroValue3 rfl rfl) ?_
    intro b10
    have w10 : OwnS (intE .i64) 3 Hr1 (.slice (some ⟨b10, 0, none⟩) 1 1) [yr1] [(b10, .cells #[.int .i64 yr1] 3)] := OwnS.lit (xs := [yr1]) (cellsOf_cons (a := [.int .i64 yr1]) rfl cellsOf_nil) (by show 1 ≤ maxLen; decide)
    obtain ⟨k11, y11, r11⟩ := Src.ownA w10
    refine R.app (E := (intE .i64)) (e := 3) (xs := xb2r1_0) (ys := [yr1]) Tryd_ty23 rfl rfl rfl wb2r1_0 (.tl (.tl .hd)) (r11 _ .hd) y11 (by (try simp only [List.length_append, List.length_cons, List.length_nil, List.length_replicate, List.length_take, List.length_drop]); omega) (by (try simp only [List.length_append, List.length_cons, List.length_nil, List.length_replicate, List.length_take, List.length_drop]); omega) ?_
    intro v11 c11 w11
    obtain ⟨A11, p11, rfl, m11, n11⟩ := OwnS.shape w11
    refine TL.del (.tl .hd) ?_
    refine R.stX (old := [.slice Ab2r1_0 xb2r1_0.length pb2r1_0]) (l := [.slice A11 (xb2r1_0 ++ [yr1]).length p11]) (new := [.slice A11 (xb2r1_0 ++ [yr1]).length p11]) (et := 23) Tryd.sizeOf23 rfl rfl rfl (cells1 rfl) rfl (by show 0 + 1 ≤ 1; decide) rfl (all_one rfl) (.tl .hd) ?_
    refine TL.nil (Post.blkN ?_)
    refine id ?_
    exact ⟨.slice A11 (xb2r1_0 ++ [yr1]).length p11, (xb2r1_0 ++ [yr1]), c11, (Has.cons (.tl .hd) (Has.cons .hd Has.nil)), w11, (by first | omega | (simp; done) | (simp; omega) | (simp at *; omega)), (by rw [← hQr1, drop_pre hpr1, slices_AppendSeq_int_r1])⟩
  · intro Dr1 Hr1 Lr1 sr1 hIr1
    obtain ⟨vb2r1_0, xb2r1_0, cb2r1_0, hLr1, wb2r1_0, hBr1_0, hQr1⟩ := hIr1
    obtain ⟨Ab2r1_0, pb2r1_0, rfl, mb2r1_0, nb2r1_0_⟩ := OwnS.shape wb2r1_0
    have hEr1 : slices_AppendSeq_int_r1 a1 [] = xb2r1_0 := by rw [← hQr1, List.drop_length, slices_AppendSeq_int_r1]
    refine id (Post.blkN ?_)
    refine id (Post.thnN ?_)
    refine T.has hLr1 ?_
    refine T.seq ?_
    refine T.region ?_
    refine R.ld Tryd.isAgg23 rfl rfl .hd rfl ?_
    refine R.asE rfl (by conv => lhs; whnf) ?_
    refine TL.nil (Post.thnN ?_)
    refine T.has (Has.cons (.tl .hd) Has.nil) ?_
    refine T.ret ?_
    have hM : slices_AppendSeq_int_m a1 = xb2r1_0 := by rw [slices_AppendSeq_int_m, hEr1, LR.seq_go]
    exact fin1L (v := .slice Ab2r1_0 xb2r1_0.length pb2r1_0) [cb2r1_0] rfl rfl (List.Sublist.refl _) ⟨.slice Ab2r1_0 xb2r1_0.length pb2r1_0, cb2r1_0, by first | rw [hM] | rfl, rfl, by rw [hM]; exact wb2r1_0⟩
  · intro Dr1 cr1 prer1 yr1 Hr1 Lr1 sr1 hpr1 hIr1
    exact hIr1.elim

theorem slices_AppendSeq_int_go : ∀ (l a : List Int), slices_AppendSeq_int_r1 l a = a ++ l
  | [], a => by simp [slices_AppendSeq_int_r1]
  | y :: ys, a => by rw [slices_AppendSeq_int_r1, slices_AppendSeq_int_go]; simp
theorem slices_AppendSeq_int_eq (l : List Int) : slices_AppendSeq_int_m l = l := by
  unfold slices_AppendSeq_int_m
  rw [slices_AppendSeq_int_go]; rfl
def slices_Collect_int_m (a0 : List Int) : (List Int) :=
  LR.seq (slices_AppendSeq_int_m a0) (fun r4 => r4)
set_option maxHeartbeats 3200000 in
theorem slices_Collect_int_c (H : Heap) (ga0 : Nat) (la0 : Array Value) (a0 : List Int) (ea0 : Go.Proofs.Enters Tryd.prog ga0) (ha0 : Iter Tryd.prog (.func (.func ga0) #[] la0) Y68 H a0) (hlen : a0.length ≤ 4000000) : Fc Tryd.prog (fnv 110) [.func (.func ga0) #[] la0] H [] (fun v' H' L' => ∃ u0_0 c0_0, v' = u0_0 ∧ L' = [c0_0] ∧ OwnS (intE .i64) 3 H' u0_0 (slices_Collect_int_m a0) c0_0) := by
  refine Fc.of_body (N := 5) Tryd.func110 rfl (by kernel_rfl) rfl rfl ?_
  intro w0
  refine T.seq ?_
  refine T.region ?_
  refine R.asE rfl (by conv => lhs; whnf) ?_
  refine TL.nil (Post.thnN ?_)
  refine T.seq ?_
  refine T.region ?_
  refine R.mvE rfl (by conv => lhs; whnf) ?_
  obtain ⟨r4, er4⟩ : ∃ r, r = (slices_AppendSeq_int_m a0) := ⟨_, rfl⟩
  refine TL.call [] rfl rfl rfl (slices_AppendSeq_int_c _ _ _ a0 ea0 ha0 (by first | omega | (simp; done) | (simp; omega) | (simp at *; omega))) ?_
  intro v4 H4 L4 s4 q4
  rw [← er4] at q4
  obtain ⟨u4_0_0, c4_0_0, rfl, rfl, w4_0_0⟩ := q4
  obtain ⟨A4_0_0, p4_0_0, rfl, m4_0_0, n4_0_0⟩ := OwnS.shape w4_0_0
  have t4 : r4.length ≤ 4000000 := by rw [er4, slices_AppendSeq_int_eq]; omega
  refine R.asE rfl (by conv => lhs; whnf) ?_
  refine TL.nil (Post.thnN ?_)
  refine T.has (Has.cons .hd Has.nil) ?_
  refine T.ret ?_
  have hM : slices_Collect_int_m a0 = r4 := by subst er4; rw [slices_Collect_int_m, LR.seq_go]
  exact fin1L (v := .slice A4_0_0 r4.length p4_0_0) [c4_0_0] rfl rfl (List.Sublist.refl _) ⟨.slice A4_0_0 r4.length p4_0_0, c4_0_0, by first | rw [hM] | rfl, rfl, by rw [hM]; exact w4_0_0⟩

theorem slices_Collect_int_eq (l : List Int) : slices_Collect_int_m l = l := slices_AppendSeq_int_eq l
def slices_Sorted_int_m (a0 : List Int) : (List Int) :=
  LR.seq (slices_Collect_int_m a0) (fun r5 => (sortI r5))
set_option maxHeartbeats 3200000 in
theorem slices_Sorted_int_c (H : Heap) (ga0 : Nat) (la0 : Array Value) (a0 : List Int) (ea0 : Go.Proofs.Enters Tryd.prog ga0) (ha0 : Iter Tryd.prog (.func (.func ga0) #[] la0) Y68 H a0) (hlen : a0.length ≤ 4000000) : Fc Tryd.prog (fnv 74) [.func (.func ga0) #[] la0] H [] (fun v' H' L' => ∃ u0_0 c0_0, v' = u0_0 ∧ L' = [c0_0] ∧ OwnS (intE .i64) 3 H' u0_0 (slices_Sorted_int_m a0) c0_0) := by
  refine Fc.of_body (N := 9) Tryd.func74 rfl (by kernel_rfl) rfl rfl ?_
  intro w0
  refine T.seq ?_
  refine T.region ?_
  refine R.asE rfl (by conv => lhs; whnf) ?_
  refine TL.nil (Post.thnN ?_)
  refine T.seq ?_
  refine T.region ?_
  refine R.mvE rfl (by conv => lhs; whnf) ?_
  obtain ⟨r5, er5⟩ : ∃ r, r = (slices_Collect_int_m a0) := ⟨_, rfl⟩
  refine TL.call [] rfl rfl rfl (slices_Collect_int_c _ _ _ a0 ea0 ha0 (by first | omega | (simp; done) | (simp; omega) | (simp at *; omega))) ?_
  intro v5 H5 L5 s5 q5
  rw [← er5] at q5
  obtain ⟨u5_0_0, c5_0_0, rfl, rfl, w5_0_0⟩ := q5
  obtain ⟨A5_0_0, p5_0_0, rfl, m5_0_0, n5_0_0⟩ := OwnS.shape w5_0_0
  have t5 : r5.length ≤ 4000000 := by rw [er5, slices_Collect_int_eq]; omega
  refine R.asE rfl (by conv => lhs; whnf) ?_
  refine TL.nil (Post.thnN ?_)
  refine T.seq ?_
  refine T.region ?_
  refine R.mvE rfl (by conv => lhs; whnf) ?_
  refine TL.call [true] rfl rfl rfl (sortA_c _ _ _ _ w5_0_0 (by first | omega | (simp; done) | (simp; omega) | (simp at *; omega))) ?_
  intro v7 H7 L7 s7 q7
  obtain ⟨rfl, c7, rfl, w7⟩ := q7
  refine TL.nil (Post.thnN ?_)
  refine T.seq ?_
  refine T.region ?_
  refine R.mvE rfl (by conv => lhs; whnf) ?_
  refine R.asE rfl (by conv => lhs; whnf) ?_
  refine TL.nil (Post.thnN ?_)
  refine T.has (Has.cons .hd Has.nil) ?_
  refine T.ret ?_
  have hM : slices_Sorted_int_m a0 = (sortI r5) := by subst er5; rw [slices_Sorted_int_m, LR.seq_go]
  exact fin1L (v := .slice A5_0_0 r5.length p5_0_0) [c7] rfl rfl (List.Sublist.refl _) ⟨.slice A5_0_0 r5.length p5_0_0, c7, by first | rw [hM] | rfl, rfl, by rw [hM]; exact w7⟩

theorem slices_Sorted_int_eq (l : List Int) : slices_Sorted_int_m l = sortI l := by unfold slices_Sorted_int_m; rw [slices_Collect_int_eq]; rfl
def cmp_isNaN_int_m (a0 : Int) : Bool :=
  (decide (a0 ≠ a0))
def cmp_Less_int_m (a0 : Int) (a1 : Int) : Bool :=
  if (cmp_isNaN_int_m a0) = true then (if (!(cmp_isNaN_int_m a1)) = true then true else ((decide (a0 < a1)))) else ((decide (a0 < a1)))
def slices_IsSorted_int_l1 (a0 : List Int) : Nat → Int → LR (Bool) (Int)
  | 0, _ => .go default
  | ml1 + 1, sl1 => if (0 : Int) < sl1 then (if (cmp_Less_int_m (a0.getD sl1.toNat (0 : Int)) (a0.getD (((sl1 - 1)).toNat) (0 : Int))) = true then (.ret false) else (slices_IsSorted_int_l1 a0 ml1 ((sl1 - 1)))) else (.go sl1)
def slices_IsSorted_int_m (a0 : List Int) : Bool :=
  LR.on (slices_IsSorted_int_l1 a0 ((((a0.length : Int) - 1)).toNat + 1) (((a0.length : Int) - 1))) (fun r => r) (fun ol1 => true)
end Go.SX

set_option linter.unusedVariables false
set_option linter.unusedSimpArgs false
namespace Go.SX
open Go
theorem within_go (a b : Int) : ∀ l : List Int, ident_within_l2 a b l true = withinB a b l
  | [] => rfl
  | y :: ys => by
    rw [ident_within_l2]
    simp only [LR.seq, withinB, List.all_cons]
    by_cases h1 : a ≤ y
    · by_cases h2 : y ≤ b
      · simp [h1, h2, within_go a b ys, withinB]
      · simp [h1, h2]
    · simp [h1]
theorem within_eq (a b : Int) (l : List Int) : ident_within_m a b l = withinB a b l := by
  unfold ident_within_m; simp only [LR.seq]; exact within_go a b l
theorem within1 {a b n : Int} : ident_within_m a b [n] = true ↔ a ≤ n ∧ n ≤ b := by
  rw [within_eq]; simp [withinB]
theorem kindG_1 {x : Int} : kindG x = 1 ↔ kbG x 1 = true := by
  unfold kindG
  constructor
  · intro h
    cases hk : kbG x 1 with
    | true => rfl
    | false =>
      rw [hk] at h
      simp only [Bool.false_eq_true, if_false] at h
      repeat' split at h
      all_goals omega
  · intro h; rw [if_pos h]
theorem kind1_parts {x : Int} (h : kindG x = 1) : ident_Parts_m x = ((ident_halves_m x).2, (ident_halves_m x).1) ∧ x = ident_packed_m 0 (ident_halves_m x).1 (ident_halves_m x).2 ∧ (1 ≤ (ident_halves_m x).2 ∧ (ident_halves_m x).2 ≤ 1048578) ∧ (0 ≤ (ident_halves_m x).1 ∧ (ident_halves_m x).1 ≤ 7) := by
  have h1 := kindG_1.1 h
  have h2 : identKind1_m x (ident_halves_m x).1 (ident_halves_m x).2 = true := h1
  unfold identKind1_m at h2
  split at h2
  · rename_i h3
    split at h2
    · rename_i h4
      refine ⟨?_, h3, within1.1 h4, within1.1 h2⟩
      unfold ident_Parts_m
      simp only [LR.seq, h]
      rfl
    · cases h2
  · cases h2
theorem kind1_idx {x : Int} (h : kindG x = 1) : 1 ≤ (ident_Parts_m x).1 ∧ (ident_Parts_m x).1 ≤ 1048578 := by
  obtain ⟨h1, _, h2, _⟩ := kind1_parts h
  rw [h1]; exact h2
end Go.SX

set_option linter.unusedVariables false
set_option linter.unusedSimpArgs false
namespace Go.SX
open Go Go.Proofs
def Y114 : Heap → List Value → (Int × (Int × Bool)) → Prop := fun H vs y => vs = [.int .i64 y.1, .agg #[.int .i64 y.2.1, .bool y.2.2]]

def alloc_living_1_l1  : List (Int × Bool) → Nat → Unit → List (Int × (Int × Bool))
  | [], kl1, sl1 => []
  | yl1 :: ysl1, kl1, sl1 => if yl1.2 = true then (((((kl1 : Int) + 1), yl1)) :: (alloc_living_1_l1 ysl1 (kl1 + 1) ())) else (alloc_living_1_l1 ysl1 (kl1 + 1) ())
def alloc_living_1_m (q0 : Int × (List (Int × Bool)) × (List Int)) : List (Int × (Int × Bool)) :=
  (alloc_living_1_l1 q0.2.1 0 ()) ++ []
set_option maxHeartbeats 3200000 in
theorem alloc_living_1_c (H : Heap) (b1000 : Nat) (q0 : Int × (List (Int × Bool)) × (List Int)) (vq0_1 : Value) (hq0_1 : RdS slotE H vq0_1 q0.2.1) (vq0_2 : Value) (hq0_2 : RdS (intE .i64) H vq0_2 q0.2.2) (hb0 : H b1000 = some (.cells #[.int .i64 q0.1, vq0_1, vq0_2] 25)) : Iter Tryd.prog (.func (.func 112) #[] ([.pointer (some ⟨b1000, 0, none⟩)] : List Value).toArray) Y114 H (alloc_living_1_m q0) := by
  intro l J Jx H1 Lc s1 hJ hJx hY h0
  obtain ⟨Aq0_1, cq0_1, rfl, hcq0_1, hdq0_1, hq0_1⟩ := hq0_1.shape
  obtain ⟨Aq0_2, cq0_2, rfl, hcq0_2, hdq0_2, hq0_2⟩ := hq0_2.shape
  refine Fc.of_body (N := 24) Tryd.func112 rfl (by kernel_rfl) rfl rfl ?_
  intro w0
  refine T.seq ?_
  refine T.region ?_
  refine R.fldA Tryd.underlying25 rfl Tryd.sizeOf22 (by decide) rfl rfl ?_
  refine R.ldH Tryd.isAgg22 rfl rfl (s1 _ _ hb0) rfl ?_
  refine R.len Tryd.underlying22 rfl rfl ?_
  refine R.mvE rfl (by conv => lhs; whnf) ?_
  refine TL.nil (Post.thnN ?_)
  refine T.block ?_
  refine T.loop (ι := Nat × (List (Int × (Int × Bool))) × Own) (fun ⟨kl1, accl1, Ml1⟩ H' L' ds' => kl1 ≤ q0.2.1.length ∧ Has L' (Ml1) ∧ J accl1 H' Ml1 ∧ accl1 ++ alloc_living_1_l1 (q0.2.1.drop kl1) kl1 () = alloc_living_1_l1 q0.2.1 0 ()) (fun ⟨kl1, accl1, Ml1⟩ => [(8, .int .i64 (kl1 : Int)), (0, yieldv l), (6, .slice Aq0_1 q0.2.1.length cq0_1), (7, .int .i64 (q0.2.1.length : Int))]) (fun ⟨kl1, accl1, Ml1⟩ => q0.2.1.length - kl1) (0, [], Lc) ?_ ?_ ?_
  · exact ⟨(by omega), (Has.refl _), (by simpa using h0), (by rfl)⟩
  · exact ⟨rfl, rfl, rfl, rfl, trivial⟩
  · intro ⟨kl1, accl1, Ml1⟩ σ_l1 H_l1 L_l1 ds_l1 s_l1 hI_l1
    obtain ⟨hkl1, hI_l1⟩ := hI_l1
    obtain ⟨hLl1, hJl1, hQl1⟩ := hI_l1
    refine T.has hLl1 ?_
    refine T.seq ?_
    refine T.region ?_
    refine R.lss rfl rfl rfl ?_
    refine TL.nil (Post.thnN ?_)
    refine T.seq ?_
    refine T.condD rfl (fun c9 => ?_) (fun c9 => ?_)
    · have hltl1 : kl1 < q0.2.1.length := by omega
      obtain ⟨yl1, hyl1⟩ := getk (xs := q0.2.1) (k := kl1) (by omega)
      refine T.skip (Post.thnN ?_)
      refine T.seq ?_
      refine T.block ?_
      refine T.seq ?_
      refine T.region ?_
      refine R.mvE rfl (by conv => lhs; whnf) ?_
      obtain ⟨b11, o11, i11, k11⟩ := RdS.elem (hq0_1.mono (s1.trans s_l1)) hyl1
      obtain ⟨l11, g11, k11⟩ := k11
      obtain rfl : l11 = [.int .i64 (yl1.1), .bool (yl1.2)] := g11
      refine R.ixp Tryd.underlying22 Tryd.sizeOf101 rfl rfl rfl (by omega) i11 ?_
      refine R.ldK (l := [.int .i64 (yl1.1), .bool (yl1.2)]) Tryd.isAgg101 Tryd.sizeOf101 rfl rfl k11 rfl ?_
      refine R.alloc Tryd.zeroValue101 rfl ?_
      intro b4
      refine R.asE rfl (by conv => lhs; whnf) ?_
      refine R.stX (old := [.int .i64 0, .bool false]) (l := [.int .i64 (yl1.1), .bool (yl1.2)]) (new := [.int .i64 (yl1.1), .bool (yl1.2)]) (et := 101) Tryd.sizeOf101 rfl rfl rfl rfl rfl (by show 0 + 2 ≤ 2; decide) rfl (all_one rfl) .hd ?_
      refine TL.shut .hd ?_
      intro Hb4_1 sb4_1 qb4_1
      have hb4_1 : Hb4_1 b4 = some (.cells #[.int .i64 (yl1.1), .bool (yl1.2)] 101) := shut1 qb4_1
      refine TL.nil (Post.thnN ?_)
      refine T.seq ?_
      refine T.region ?_
      refine R.fldA Tryd.underlying101 rfl Tryd.sizeOf4 (by decide) rfl rfl ?_
      refine R.ldH Tryd.isAgg4 rfl rfl hb4_1 rfl ?_
      refine R.mvE rfl (by conv => lhs; whnf) ?_
      refine TL.gsplit 15 rfl (fun g15 => ?_) (fun g15 => ?_)
      · refine R.mvE rfl (by conv => lhs; whnf) ?_
        refine R.mvE rfl (by conv => lhs; whnf) ?_
        refine R.addI rfl rfl rfl (by omega) ?_
        refine R.ldXH (cs := [.int .i64 (yl1.1), .bool (yl1.2)]) (l := [.int .i64 (yl1.1), .bool (yl1.2)]) Tryd.isAgg101 Tryd.sizeOf101 rfl rfl hb4_1 rfl rfl ?_
        have hP20_l1 : (accl1 ++ [(((kl1 : Int) + 1), yl1)]) <+: alloc_living_1_l1 q0.2.1 0 () := by rw [← hQl1, drop_cons hyl1, alloc_living_1_l1]; rw [if_t g15]; exact (pf_app pf_one)
        have hP20_f : (accl1 ++ [(((kl1 : Int) + 1), yl1)]) <+: alloc_living_1_m q0 := by rw [alloc_living_1_m]; exact (pf_l hP20_l1)
        have hp20 : (accl1 ++ [(((kl1 : Int) + 1), yl1)]) <+: alloc_living_1_m q0 := by simpa [List.append_assoc] using hP20_f
        refine TL.callT 0 rfl rfl rfl (hY accl1 ((((kl1 : Int) + 1), yl1)) _ Hb4_1 Ml1 (s_l1.trans sb4_1) hp20 (hJ _ _ _ _ sb4_1 hJl1) rfl) ?_
        intro v20 H20 L20 s20 q20
        rcases q20 with ⟨rfl, j20⟩ | ⟨rfl, j20⟩
        · refine R.not rfl rfl ?_
          refine R.pkTE rfl rfl (by conv => lhs; whnf) ?_
          refine TL.nil (Post.thnN ?_)
          refine T.condN rfl ?_
          refine T.skip (Post.blkN ?_)
          refine id (Post.thnN ?_)
          refine T.region ?_
          refine R.addI rfl rfl rfl (by omega) ?_
          refine R.mvE rfl (by conv => lhs; whnf) ?_
          refine TL.nil (Post.thnN ?_)
          exact ⟨(kl1 + 1, (accl1 ++ [(((kl1 : Int) + 1), yl1)]), L20), (s_l1.trans (sb4_1.trans s20)), ⟨(by omega), (Has.refl _), (by simpa [List.append_assoc] using j20), (by (rw [← hQl1, drop_cons hyl1, alloc_living_1_l1]; rw [if_t g15]) <;> simp)⟩, by show q0.2.1.length - (kl1 + 1) < q0.2.1.length - kl1; omega, rfl, rfl, rfl, rfl, trivial⟩
        · refine R.not rfl rfl ?_
          refine R.pkTE rfl rfl (by conv => lhs; whnf) ?_
          refine TL.nil (Post.thnN ?_)
          refine T.condY rfl ?_
          refine T.ret (Post.blkR (Post.thnR (Post.thnR (Post.blkR ?_))))
          exact fin0L L20 rfl (List.Sublist.refl _) (.inr ⟨accl1, (((kl1 : Int) + 1), yl1), hp20, j20⟩)
      · refine TL.off rfl rfl rfl ?_
        refine TL.off rfl rfl rfl ?_
        refine TL.off rfl rfl rfl ?_
        refine TL.off rfl rfl rfl ?_
        refine TL.off rfl rfl rfl ?_
        refine TL.off rfl rfl rfl ?_
        refine R.pkFE rfl rfl (by conv => lhs; whnf) ?_
        refine TL.nil (Post.thnN ?_)
        refine T.condN rfl ?_
        refine T.skip (Post.blkN ?_)
        refine id (Post.thnN ?_)
        refine T.region ?_
        refine R.addI rfl rfl rfl (by omega) ?_
        refine R.mvE rfl (by conv => lhs; whnf) ?_
        refine TL.nil (Post.thnN ?_)
        exact ⟨(kl1 + 1, accl1, Ml1), (s_l1.trans sb4_1), ⟨(by omega), (Has.refl _), (by simpa [List.append_assoc] using (hJ _ _ _ _ sb4_1 hJl1)), (by (rw [← hQl1, drop_cons hyl1, alloc_living_1_l1]; rw [if_f g15]) <;> simp)⟩, by show q0.2.1.length - (kl1 + 1) < q0.2.1.length - kl1; omega, rfl, rfl, rfl, rfl, trivial⟩
    · refine T.exit (Post.thnE (Post.thnE (Post.blkX ?_)))
      have hEl1 : alloc_living_1_l1 q0.2.1 0 () = accl1 := (by rw [← hQl1, show kl1 = q0.2.1.length by omega, List.drop_length, alloc_living_1_l1] <;> simp)
      refine id ?_
      have hM : alloc_living_1_m q0 = accl1 := by rw [alloc_living_1_m, hEl1] <;> simp
      exact fin0N Ml1 rfl (List.Sublist.refl _) (.inl (by rw [hM]; exact hJl1))

def alloc_living_m (a0 : Int × (List (Int × Bool)) × (List Int)) : (List (Int × (Int × Bool))) :=
  (alloc_living_1_m a0)
set_option maxHeartbeats 3200000 in
theorem alloc_living_c (H : Heap) (a0 : Int × (List (Int × Bool)) × (List Int)) (va0_1 : Value) (ha0_1 : RdS slotE H va0_1 a0.2.1) (va0_2 : Value) (ha0_2 : RdS (intE .i64) H va0_2 a0.2.2) : Fp Tryd.prog (fnv 77) [.agg #[.int .i64 a0.1, va0_1, va0_2]] H (fun v' H' => ∃ u0_0, v' = .func (.func 112) #[] u0_0 ∧ Iter Tryd.prog (.func (.func 112) #[] u0_0) Y114 H' (alloc_living_m a0)) := by
  refine Fc.of_body (N := 4) Tryd.func77 rfl (by kernel_rfl) rfl rfl ?_
  intro w0
  obtain ⟨Aa0_1, ca0_1, rfl, hca0_1, hda0_1, ha0_1⟩ := ha0_1.shape
  obtain ⟨Aa0_2, ca0_2, rfl, hca0_2, hda0_2, ha0_2⟩ := ha0_2.shape
  refine T.seq ?_
  refine T.region ?_
  refine R.box rfl (by conv => lhs; whnf) ?_
  intro b1
  refine R.asE rfl (by conv => lhs; whnf) ?_
  refine TL.shut .hd ?_
  intro Hb1_1 sb1_1 qb1_1
  have hb1_1 : Hb1_1 b1 = some (.cells #[.int .i64 (a0.1), .slice Aa0_1 a0.2.1.length ca0_1, .slice Aa0_2 a0.2.2.length ca0_2] 25) := shut1 qb1_1
  refine TL.nil (Post.thnN ?_)
  refine T.seq ?_
  refine T.region ?_
  refine R.mkf (cs := [_]) rfl rfl ?_
  refine R.asE rfl (by conv => lhs; whnf) ?_
  refine TL.nil (Post.thnN ?_)
  refine T.has Has.nil ?_
  refine T.ret ?_
  have hM : alloc_living_m a0 = (alloc_living_1_m a0) := by rw [alloc_living_m]
  exact fin1L (v := .func (.func 112) #[] ([.pointer (some ⟨b1, 0, none⟩)] : List Value).toArray) [] rfl rfl (List.Sublist.refl _) ⟨rfl, ([.pointer (some ⟨b1, 0, none⟩)] : List Value).toArray, by first | rw [hM] | rfl, by rw [hM]; exact (alloc_living_1_c _ b1 a0 _ (ha0_1.mono sb1_1) _ (ha0_2.mono sb1_1) hb1_1)⟩

theorem living_len1 : ∀ (l : List (Int × Bool)) (k : Nat), (alloc_living_1_l1 l k ()).length ≤ l.length
  | [], k => by rw [alloc_living_1_l1]; exact Nat.le_refl _
  | y :: ys, k => by
    have := living_len1 ys (k + 1)
    rw [alloc_living_1_l1]
    split
    · simpa using this
    · simp only [List.length_cons]; omega
theorem living_len (a : Int × (List (Int × Bool)) × (List Int)) (r : List (Int × Int × Bool)) (h : r = alloc_living_m a) : r.length ≤ a.2.1.length := by
  subst h
  unfold alloc_living_m alloc_living_1_m
  rw [List.append_nil]; exact living_len1 _ _
def alloc_New_m (a0 : Int) : (Int × (List (Int × Bool)) × (List Int)) × Int :=
  LR.seq (if a0 < 1 then true else ((decide ((1048576 : Int) < a0))) : Bool) (fun sc1 => if sc1 = true then ((((0, [], []) : Int × (List (Int × Bool)) × (List Int)), 2)) else ((((a0, [((0, true) : Int × Bool), ((0, true) : Int × Bool)], []) : Int × (List (Int × Bool)) × (List Int)), 0)))
set_option maxHeartbeats 3200000 in
theorem alloc_New_c (H : Heap) {tG0 : TypeId} (hG0 : H 0 = some (.cells #[.int .i64 0, .bool true] tG0)) (a0 : Int) : Fc Tryd.prog (fnv 25) [.int .i64 a0] H [] (fun v' H' L' => ∃ u0_1 u0_2 c0_1 c0_2, v' = .tuple #[.agg #[.int .i64 (alloc_New_m a0).1.1, u0_1, u0_2], .int .i64 (alloc_New_m a0).2] ∧ L' = [c0_1, c0_2] ∧ OwnS slotE 101 H' u0_1 (alloc_New_m a0).1.2.1 c0_1 ∧ OwnS (intE .i64) 3 H' u0_2 (alloc_New_m a0).1.2.2 c0_2) := by
  refine Fc.of_body (N := 16) Tryd.func25 rfl (by kernel_rfl) rfl rfl ?_
  intro w0
  refine T.seq ?_
  refine T.region ?_
  refine R.alloc Tryd.zeroValue25 rfl ?_
  intro b2
  refine R.asE rfl (by conv => lhs; whnf) ?_
  refine TL.nil (Post.thnN ?_)
  refine T.seq ?_
  refine T.seq ?_
  refine T.cutK (ι := Bool) (fun b9c1 H' L' ds' => Has L' [[(b2, .cells #[.int .i64 0, .slice none 0 0, .slice none 0 0] 25)]] ∧ (if a0 < 1 then true else ((decide ((1048576 : Int) < a0))) : Bool) = b9c1) (fun b9c1 => [(0, .int .i64 a0), (2, .pointer (some ⟨b2, 0, none⟩)), (9, .bool (b9c1))]) ?_ ?_
  · refine T.region ?_
    refine R.mvE rfl (by conv => lhs; whnf) ?_
    refine R.lss rfl rfl rfl ?_
    refine R.mvE rfl (by conv => lhs; whnf) ?_
    refine TL.gsplitD 6 rfl (fun g6 => ?_) (fun g6 => ?_)
    · refine TL.off rfl rfl rfl ?_
      refine TL.off rfl rfl rfl ?_
      refine R.pkTE rfl rfl (by conv => lhs; whnf) ?_
      refine TL.nil (Post.thnN ?_)
      exact ⟨true, HLe.refl _, ⟨(Has.cons .hd Has.nil), (by rw [if_pos g6])⟩, rfl, rfl, rfl, trivial⟩
    · refine R.mvE rfl (by conv => lhs; whnf) ?_
      refine R.gtr rfl rfl rfl ?_
      refine R.pkFE rfl rfl (by conv => lhs; whnf) ?_
      refine TL.nil (Post.thnN ?_)
      exact ⟨(decide ((1048576 : Int) < a0)), HLe.refl _, ⟨(Has.cons .hd Has.nil), (by rw [if_neg g6])⟩, rfl, rfl, rfl, trivial⟩
  · intro b9c1 σ_c1 H_c1 L_c1 ds_c1 s_c1 hI_c1
    obtain ⟨hLc1, hTc1⟩ := hI_c1
    refine T.has hLc1 ?_
    refine T.cond rfl (fun c9 => ?_) (fun c9 => ?_)
    · refine T.set 9 (.bool true) (congrArg Value.bool c9) ?_
      have hZ9 := hTc1.trans c9
      try simp only [or_f, or_t, and_f, and_t, decide_eq_true_eq, decide_eq_false_iff_not, Bool.not_eq_true'] at hZ9
      refine T.seq ?_
      refine T.region ?_
      refine R.bld (cs := [.int .i64 0, .slice none 0 0, .slice none 0 0]) rfl (fun _ => by kernel_rfl) ?_
      refine R.stX (old := [.int .i64 0, .slice none 0 0, .slice none 0 0]) (l := [.int .i64 0, .slice none 0 0, .slice none 0 0]) (new := [.int .i64 0, .slice none 0 0, .slice none 0 0]) (et := 25) Tryd.sizeOf25 rfl rfl rfl rfl rfl (by show 0 + 3 ≤ 3; decide) rfl (all_one rfl) .hd ?_
      refine R.asE rfl (by conv => lhs; whnf) ?_
      refine TL.nil (Post.thnN ?_)
      refine T.has (Has.none (Has.none (Has.cons .hd Has.nil))) ?_
      refine T.ret (Post.thnR ?_)
      have hM : alloc_New_m a0 = (((0, [], []) : Int × (List (Int × Bool)) × (List Int)), 2) := by rw [alloc_New_m, hTc1, LR.seq_go, if_t c9]
      exact finR2 (v := .agg #[.int .i64 0, .slice none 0 0, .slice none 0 0]) (v' := .int .i64 2) [[], []] rfl (.cellA (cs := [.int .i64 0, .slice none 0 0, .slice none 0 0]) (l := [.int .i64 0, .slice none 0 0, .slice none 0 0]) Tryd.isAgg25 Tryd.sizeOf25 rfl (.tl (.tl .hd)) rfl rfl) (.tmp rfl) (List.sublist_append_left ([[], []] : Own) _) ⟨.slice none 0 0, .slice none 0 0, [], [], by first | rw [hM] | rfl, rfl, by rw [hM]; exact OwnS.nil, by rw [hM]; exact OwnS.nil⟩
    · refine T.set 9 (.bool false) (congrArg Value.bool c9) ?_
      have hZ9 := hTc1.trans c9
      try simp only [or_f, or_t, and_f, and_t, decide_eq_true_eq, decide_eq_false_iff_not, Bool.not_eq_true'] at hZ9
      refine T.skip (Post.thnN ?_)
      refine T.seq ?_
      refine T.region ?_
      refine R.mvE rfl (by conv => lhs; whnf) ?_
      refine R.ldXH (cs := [.int .i64 0, .bool true]) (l := [.int .i64 0, .bool true]) Tryd.isAgg101 Tryd.sizeOf101 rfl rfl (s_c1 _ _ hG0) rfl rfl ?_
      refine R.ldXH (cs := [.int .i64 0, .bool true]) (l := [.int .i64 0, .bool true]) Tryd.isAgg101 Tryd.sizeOf101 rfl rfl (s_c1 _ _ hG0) rfl rfl ?_
      refine R.bs (e := 101) (cs := [.int .i64 0, .bool true, .int .i64 0, .bool true]) rfl (fun _ => by kernel_rfl) ?_
      intro b14
      have w14 : OwnS slotE 101 H_c1 (.slice (some ⟨b14, 0, none⟩) 2 2) [((0, true) : Int × Bool), ((0, true) : Int × Bool)] [(b14, .cells #[.int .i64 0, .bool true, .int .i64 0, .bool true] 101)] := OwnS.lit (xs := [((0, true) : Int × Bool), ((0, true) : Int × Bool)]) (cellsOf_cons (a := [.int .i64 0, .bool true]) rfl (cellsOf_cons (a := [.int .i64 0, .bool true]) rfl cellsOf_nil)) (by show 2 ≤ maxLen; decide)
      refine R.bld (cs := [.int .i64 a0, .slice (some ⟨b14, 0, none⟩) 2 2, .slice none 0 0]) rfl (fun _ => by kernel_rfl) ?_
      refine R.stX (old := [.int .i64 0, .slice none 0 0, .slice none 0 0]) (l := [.int .i64 a0, .slice (some ⟨b14, 0, none⟩) 2 2, .slice none 0 0]) (new := [.int .i64 a0, .slice (some ⟨b14, 0, none⟩) 2 2, .slice none 0 0]) (et := 25) Tryd.sizeOf25 rfl rfl rfl rfl rfl (by show 0 + 3 ≤ 3; decide) rfl (all_one rfl) (.tl .hd) ?_
      refine R.asE rfl (by conv => lhs; whnf) ?_
      refine TL.nil (Post.thnN ?_)
      refine T.has (Has.cons .hd (Has.none (Has.cons .hd Has.nil))) ?_
      refine T.ret ?_
      have hM : alloc_New_m a0 = (((a0, [((0, true) : Int × Bool), ((0, true) : Int × Bool)], []) : Int × (List (Int × Bool)) × (List Int)), 0) := by rw [alloc_New_m, hTc1, LR.seq_go, if_f c9]
      exact finR2 (v := .agg #[.int .i64 a0, .slice (some ⟨b14, 0, none⟩) 2 2, .slice none 0 0]) (v' := .int .i64 0) [[(b14, .cells #[.int .i64 0, .bool true, .int .i64 0, .bool true] 101)], []] rfl (.cellA (cs := [.int .i64 a0, .slice (some ⟨b14, 0, none⟩) 2 2, .slice none 0 0]) (l := [.int .i64 a0, .slice (some ⟨b14, 0, none⟩) 2 2, .slice none 0 0]) Tryd.isAgg25 Tryd.sizeOf25 rfl (.tl (.tl .hd)) rfl rfl) (.tmp rfl) (List.sublist_append_left ([[(b14, .cells #[.int .i64 0, .bool true, .int .i64 0, .bool true] 101)], []] : Own) _) ⟨.slice (some ⟨b14, 0, none⟩) 2 2, .slice none 0 0, [(b14, .cells #[.int .i64 0, .bool true, .int .i64 0, .bool true] 101)], [], by first | rw [hM] | rfl, rfl, by rw [hM]; exact w14, by rw [hM]; exact OwnS.nil⟩

def alloc_many_r1  : List (Int × (Int × Bool)) → Int → Int
  | [], sr1 => sr1
  | yr1 :: ysr1, sr1 => alloc_many_r1 ysr1 ((IntKind.i64.wrap (sr1 + 1)))
def alloc_many_m (a0 : Int × (List (Int × Bool)) × (List Int)) : Int :=
  LR.seq (alloc_living_m a0) (fun r5 => LR.seq (alloc_many_r1 r5 (-2)) (fun or1 => or1))
set_option maxHeartbeats 3200000 in
theorem alloc_many_c (H : Heap) (a0 : Int × (List (Int × Bool)) × (List Int)) (va0_1 : Value) (ha0_1 : RdS slotE H va0_1 a0.2.1) (va0_2 : Value) (ha0_2 : RdS (intE .i64) H va0_2 a0.2.2) : Fv Tryd.prog (fnv 60) [.agg #[.int .i64 a0.1, va0_1, va0_2]] H (.int .i64 (alloc_many_m a0)) := by
  refine Fc.of_body (N := 11) Tryd.func60 rfl (by kernel_rfl) rfl rfl ?_
  intro w0
  obtain ⟨Aa0_1, ca0_1, rfl, hca0_1, hda0_1, ha0_1⟩ := ha0_1.shape
  obtain ⟨Aa0_2, ca0_2, rfl, hca0_2, hda0_2, ha0_2⟩ := ha0_2.shape
  refine T.seq ?_
  refine T.region ?_
  refine R.box rfl (by conv => lhs; whnf) ?_
  intro b1
  refine R.asE rfl (by conv => lhs; whnf) ?_
  refine TL.shut .hd ?_
  intro Hb1_1 sb1_1 qb1_1
  have hb1_1 : Hb1_1 b1 = some (.cells #[.int .i64 (a0.1), .slice Aa0_1 a0.2.1.length ca0_1, .slice Aa0_2 a0.2.2.length ca0_2] 25) := shut1 qb1_1
  refine TL.nil (Post.thnN ?_)
  refine T.seq ?_
  refine T.region ?_
  refine R.alloc Tryd.zeroValue3 rfl ?_
  intro b3
  refine R.stX (old := [.int .i64 0]) (l := [.int .i64 (-2)]) (new := [.int .i64 (-2)]) (et := 3) Tryd.sizeOf3 rfl rfl rfl (cells1 rfl) rfl (by show 0 + 1 ≤ 1; decide) rfl (all_one rfl) .hd ?_
  refine TL.nil (Post.thnN ?_)
  refine T.seq ?_
  refine T.seq ?_
  refine T.region ?_
  refine R.ldXH (cs := [.int .i64 (a0.1), .slice Aa0_1 a0.2.1.length ca0_1, .slice Aa0_2 a0.2.2.length ca0_2]) (l := [.int .i64 (a0.1), .slice Aa0_1 a0.2.1.length ca0_1, .slice Aa0_2 a0.2.2.length ca0_2]) Tryd.isAgg25 Tryd.sizeOf25 rfl rfl hb1_1 rfl rfl ?_
  obtain ⟨r5, er5⟩ : ∃ r, r = (alloc_living_m a0) := ⟨_, rfl⟩
  refine R.callp rfl rfl rfl (alloc_living_c _ a0 _ (ha0_1.mono sb1_1) _ (ha0_2.mono sb1_1)) ?_
  intro v5 H5 s5 q5
  rw [← er5] at q5
  obtain ⟨u5_0_0, rfl, w5_0_0⟩ := q5
  have tl5 := living_len _ _ er5
  refine TL.nil (Post.thnN ?_)
  refine T.block ?_
  refine T.rangeFunc (xs := r5) rfl rfl (enters_of Tryd.func112 (by kernel_rfl) rfl) w5_0_0 (fun _ _ _ h => by subst h; rfl) rfl (fun pre H' L' => ∃ (nb3r1_0 : Int), Has L' [[(b3, .cells #[.int .i64 nb3r1_0] 3)]] ∧ alloc_many_r1 (r5.drop pre.length) nb3r1_0 = alloc_many_r1 r5 (-2)) (fun _ _ _ _ => False) (fun pre H H' L hle ⟨nb3r1_0, hL, hQ⟩ => ⟨nb3r1_0, hL, hQ⟩) (fun _ _ _ _ _ _ h => h) ?_ ?_ ?_ ?_
  · exact ⟨(-2), (Has.cons .hd Has.nil), (by rfl)⟩
  · intro lr1 rr1 wr1 prer1 yr1 vsr1 Hr1 Lr1 sr1 hpr1 hIr1 hYr1
    obtain ⟨nb3r1_0, hLr1, hQr1⟩ := hIr1
    obtain rfl := hYr1
    refine T.has hLr1 ?_
    have hlpr1 : prer1.length + 1 ≤ r5.length := by have h0 := hpr1.length_le; simpa using h0
    refine T.skip ?_
    refine onlyN.mk ?_
    refine T.block ?_
    refine T.region ?_
    refine R.ld Tryd.isAgg3 rfl rfl .hd rfl ?_
    refine R.add rfl rfl rfl ?_
    refine R.stX (old := [.int .i64 nb3r1_0]) (l := [.int .i64 (IntKind.i64.wrap (nb3r1_0 + 1))]) (new := [.int .i64 (IntKind.i64.wrap (nb3r1_0 + 1))]) (et := 3) Tryd.sizeOf3 rfl rfl rfl (cells1 rfl) rfl (by show 0 + 1 ≤ 1; decide) rfl (all_one rfl) .hd ?_
    refine TL.nil (Post.blkN ?_)
    refine id ?_
    exact ⟨(IntKind.i64.wrap (nb3r1_0 + 1)), (Has.cons .hd Has.nil), (by rw [← hQr1, drop_pre hpr1, alloc_many_r1])⟩
  · intro Dr1 Hr1 Lr1 sr1 hIr1
    obtain ⟨nb3r1_0, hLr1, hQr1⟩ := hIr1
    have hEr1 : alloc_many_r1 r5 (-2) = nb3r1_0 := by rw [← hQr1, List.drop_length, alloc_many_r1]
    refine id (Post.blkN ?_)
    refine id (Post.thnN ?_)
    refine T.has hLr1 ?_
    refine T.seq ?_
    refine T.region ?_
    refine R.ld Tryd.isAgg3 rfl rfl .hd rfl ?_
    refine R.asE rfl (by conv => lhs; whnf) ?_
    refine TL.nil (Post.thnN ?_)
    refine T.has Has.nil ?_
    refine T.ret ?_
    have hM : alloc_many_m a0 = nb3r1_0 := by subst er5; rw [alloc_many_m, LR.seq_go, hEr1, LR.seq_go]
    exact fin1L (v := .int .i64 nb3r1_0) [] rfl rfl (List.Sublist.refl _) ⟨rfl, by first | rw [hM] | rfl⟩
  · intro Dr1 cr1 prer1 yr1 Hr1 Lr1 sr1 hpr1 hIr1
    exact hIr1.elim

def alloc_all_Slot_l1 (a1 : Int → (Int × Bool) → Bool) : List (Int × Bool) → Nat → Unit → LR (Bool) (Unit)
  | [], kl1, sl1 => .go ()
  | yl1 :: ysl1, kl1, sl1 => if (!(a1 ((kl1 : Int)) yl1)) = true then (.ret false) else (alloc_all_Slot_l1 a1 ysl1 (kl1 + 1) ())
def alloc_all_Slot_m (a0 : List (Int × Bool)) (a1 : Int → (Int × Bool) → Bool) : Bool :=
  LR.on (alloc_all_Slot_l1 a1 a0 0 ()) (fun r => r) (fun ol1 => true)
set_option maxHeartbeats 3200000 in
theorem alloc_all_Slot_c (H : Heap) (va0 : Value) (a0 : List (Int × Bool)) (ha0 : RdS slotE H va0 a0) (fa1 : Value) (a1 : Int → (Int × Bool) → Bool) (ha1 : ∀ H', HLe H H' → ∀ (z0 : Int) (z1 : Int × Bool), Fv Tryd.prog fa1 [.int .i64 z0, .agg #[.int .i64 z1.1, .bool z1.2]] H' (.bool (a1 z0 z1))) : Fv Tryd.prog (fnv 71) [va0, fa1] H (.bool (alloc_all_Slot_m a0 a1)) := by
  refine Fc.of_body (N := 20) Tryd.func71 rfl (by kernel_rfl) rfl rfl ?_
  intro w0
  obtain ⟨Aa0, ca0, rfl, hca0, hda0, ha0⟩ := ha0.shape
  refine T.seq ?_
  refine T.region ?_
  refine R.asE rfl (by conv => lhs; whnf) ?_
  refine TL.nil (Post.thnN ?_)
  refine T.seq ?_
  refine T.seq ?_
  refine T.region ?_
  refine R.mvE rfl (by conv => lhs; whnf) ?_
  refine R.len Tryd.underlying22 rfl rfl ?_
  refine R.mvE rfl (by conv => lhs; whnf) ?_
  refine TL.nil (Post.thnN ?_)
  refine T.block ?_
  refine T.loop (ι := Nat) (fun kl1 H' L' ds' => kl1 ≤ a0.length ∧ Has L' [] ∧ alloc_all_Slot_l1 a1 (a0.drop kl1) kl1 () = alloc_all_Slot_l1 a1 a0 0 ()) (fun kl1 => [(9, .int .i64 (kl1 : Int)), (1, fa1), (7, .slice Aa0 a0.length ca0), (8, .int .i64 (a0.length : Int))]) (fun kl1 => a0.length - kl1) 0 ?_ ?_ ?_
  · exact ⟨(by omega), Has.nil, (by rfl)⟩
  · exact ⟨rfl, rfl, rfl, rfl, trivial⟩
  · intro kl1 σ_l1 H_l1 L_l1 ds_l1 s_l1 hI_l1
    obtain ⟨hkl1, hI_l1⟩ := hI_l1
    obtain ⟨hLl1, hQl1⟩ := hI_l1
    refine T.has hLl1 ?_
    refine T.seq ?_
    refine T.region ?_
    refine R.lss rfl rfl rfl ?_
    refine TL.nil (Post.thnN ?_)
    refine T.seq ?_
    refine T.condD rfl (fun c10 => ?_) (fun c10 => ?_)
    · have hltl1 : kl1 < a0.length := by omega
      obtain ⟨yl1, hyl1⟩ := getk (xs := a0) (k := kl1) (by omega)
      refine T.skip (Post.thnN ?_)
      refine T.seq ?_
      refine T.block ?_
      refine T.seq ?_
      refine T.region ?_
      refine R.mvE rfl (by conv => lhs; whnf) ?_
      obtain ⟨b12, o12, i12, k12⟩ := RdS.elem (ha0.mono s_l1) hyl1
      obtain ⟨l12, g12, k12⟩ := k12
      obtain rfl : l12 = [.int .i64 (yl1.1), .bool (yl1.2)] := g12
      refine R.ixp Tryd.underlying22 Tryd.sizeOf101 rfl rfl rfl (by omega) i12 ?_
      refine R.ldK (l := [.int .i64 (yl1.1), .bool (yl1.2)]) Tryd.isAgg101 Tryd.sizeOf101 rfl rfl k12 rfl ?_
      refine R.alloc Tryd.zeroValue101 rfl ?_
      intro b6
      refine R.asE rfl (by conv => lhs; whnf) ?_
      refine R.stX (old := [.int .i64 0, .bool false]) (l := [.int .i64 (yl1.1), .bool (yl1.2)]) (new := [.int .i64 (yl1.1), .bool (yl1.2)]) (et := 101) Tryd.sizeOf101 rfl rfl rfl rfl rfl (by show 0 + 2 ≤ 2; decide) rfl (all_one rfl) .hd ?_
      refine TL.shut .hd ?_
      intro Hb6_1 sb6_1 qb6_1
      have hb6_1 : Hb6_1 b6 = some (.cells #[.int .i64 (yl1.1), .bool (yl1.2)] 101) := shut1 qb6_1
      refine TL.nil (Post.thnN ?_)
      refine T.seq ?_
      refine T.region ?_
      refine R.mvE rfl (by conv => lhs; whnf) ?_
      refine R.mvE rfl (by conv => lhs; whnf) ?_
      refine R.ldXH (cs := [.int .i64 (yl1.1), .bool (yl1.2)]) (l := [.int .i64 (yl1.1), .bool (yl1.2)]) Tryd.isAgg101 Tryd.sizeOf101 rfl rfl hb6_1 rfl rfl ?_
      refine R.callv rfl rfl rfl (ha1 _ (s_l1.trans sb6_1) ((kl1 : Int)) yl1) ?_
      refine R.not rfl rfl ?_
      refine TL.nil (Post.thnN ?_)
      refine T.cond rfl (fun c18 => ?_) (fun c18 => ?_)
      · refine T.set 18 (.bool true) (congrArg Value.bool c18) ?_
        refine T.seq ?_
        refine T.region ?_
        refine R.asE rfl (by conv => lhs; whnf) ?_
        refine TL.nil (Post.thnN ?_)
        refine T.has Has.nil ?_
        refine T.ret (Post.blkR (Post.thnR (Post.thnR (Post.blkR (Post.thnR ?_)))))
        have hXl1 : alloc_all_Slot_l1 a1 a0 0 () = .ret false := by rw [← hQl1, drop_cons hyl1, alloc_all_Slot_l1]; rw [if_t c18]
        have hM : alloc_all_Slot_m a0 a1 = false := by rw [alloc_all_Slot_m, hXl1, LR.on_ret]
        exact fin1L (v := .bool false) [] rfl rfl (List.Sublist.refl _) ⟨rfl, by first | rw [hM] | rfl⟩
      · refine T.set 18 (.bool false) (congrArg Value.bool c18) ?_
        refine T.skip (Post.blkN ?_)
        refine id (Post.thnN ?_)
        refine T.region ?_
        refine R.addI rfl rfl rfl (by omega) ?_
        refine R.mvE rfl (by conv => lhs; whnf) ?_
        refine TL.nil (Post.thnN ?_)
        exact ⟨kl1 + 1, (s_l1.trans sb6_1), ⟨(by omega), Has.nil, (by rw [← hQl1, drop_cons hyl1, alloc_all_Slot_l1]; rw [if_f c18])⟩, by show a0.length - (kl1 + 1) < a0.length - kl1; omega, rfl, rfl, rfl, rfl, trivial⟩
    · refine T.exit (Post.thnE (Post.thnE (Post.blkX ?_)))
      have hEl1 : alloc_all_Slot_l1 a1 a0 0 () = .go () := (hQl1.symm.trans (by rw [show kl1 = a0.length by omega, List.drop_length, alloc_all_Slot_l1]))
      refine id (Post.thnN ?_)
      refine T.seq ?_
      refine T.region ?_
      refine R.asE rfl (by conv => lhs; whnf) ?_
      refine TL.nil (Post.thnN ?_)
      refine T.has Has.nil ?_
      refine T.ret ?_
      have hM : alloc_all_Slot_m a0 a1 = true := by rw [alloc_all_Slot_m, hEl1, LR.on_go]
      exact fin1L (v := .bool true) [] rfl rfl (List.Sublist.refl _) ⟨rfl, by first | rw [hM] | rfl⟩

def alloc_usable_m (a0 : Int × Bool) : Bool :=
  if (!a0.2) = true then ((decide (a0.1 < 7))) else false
set_option maxHeartbeats 3200000 in
theorem alloc_usable_c (H : Heap) (a0 : Int × Bool) : Fv Tryd.prog (fnv 69) [.agg #[.int .i64 a0.1, .bool a0.2]] H (.bool (alloc_usable_m a0)) := by
  refine Fc.of_body (N := 11) Tryd.func69 rfl (by kernel_rfl) rfl rfl ?_
  intro w0
  refine T.seq ?_
  refine T.region ?_
  refine R.box rfl (by conv => lhs; whnf) ?_
  intro b1
  refine R.asE rfl (by conv => lhs; whnf) ?_
  refine TL.shut .hd ?_
  intro Hb1_1 sb1_1 qb1_1
  have hb1_1 : Hb1_1 b1 = some (.cells #[.int .i64 (a0.1), .bool (a0.2)] 101) := shut1 qb1_1
  refine TL.nil (Post.thnN ?_)
  refine T.seq ?_
  refine T.region ?_
  refine R.fldA Tryd.underlying101 rfl Tryd.sizeOf4 (by decide) rfl rfl ?_
  refine R.ldH Tryd.isAgg4 rfl rfl hb1_1 rfl ?_
  refine R.not rfl rfl ?_
  refine R.mvE rfl (by conv => lhs; whnf) ?_
  refine TL.gsplit 6 rfl (fun g6 => ?_) (fun g6 => ?_)
  · refine R.fldA Tryd.underlying101 rfl Tryd.sizeOf3 (by decide) rfl rfl ?_
    refine R.ldH Tryd.isAgg3 rfl rfl hb1_1 rfl ?_
    refine R.lss rfl rfl rfl ?_
    refine R.pkTE rfl rfl (by conv => lhs; whnf) ?_
    refine R.asE rfl (by conv => lhs; whnf) ?_
    refine TL.nil (Post.thnN ?_)
    refine T.has Has.nil ?_
    refine T.ret ?_
    have hM : alloc_usable_m a0 = (decide (a0.1 < 7)) := by rw [alloc_usable_m, if_t g6]
    exact fin1L (v := .bool (decide (a0.1 < 7))) [] rfl rfl (List.Sublist.refl _) ⟨rfl, by first | rw [hM] | rfl⟩
  · refine TL.off rfl rfl rfl ?_
    refine TL.off rfl rfl rfl ?_
    refine TL.off rfl rfl rfl ?_
    refine R.pkFE rfl rfl (by conv => lhs; whnf) ?_
    refine R.asE rfl (by conv => lhs; whnf) ?_
    refine TL.nil (Post.thnN ?_)
    refine T.has Has.nil ?_
    refine T.ret ?_
    have hM : alloc_usable_m a0 = false := by rw [alloc_usable_m, if_f g6]
    exact fin1L (v := .bool false) [] rfl rfl (List.Sublist.refl _) ⟨rfl, by first | rw [hM] | rfl⟩

def alloc_Check_1_m (a0 : Int) (a1 : Int × Bool) : Bool :=
  if (0 : Int) ≤ a1.1 then (if a1.1 ≤ 7 then (if (2 : Int) ≤ a0 then true else ((decide ((a1 : Int × Bool) = ((0, true) : Int × Bool))))) else false) else false
set_option maxHeartbeats 3200000 in
theorem alloc_Check_1_c (H : Heap) {tG0 : TypeId} (hG0 : H 0 = some (.cells #[.int .i64 0, .bool true] tG0)) (a0 : Int) (a1 : Int × Bool) : Fv Tryd.prog (fnv 72) [.int .i64 a0, .agg #[.int .i64 a1.1, .bool a1.2]] H (.bool (alloc_Check_1_m a0 a1)) := by
  refine Fc.of_body (N := 22) Tryd.func72 rfl (by kernel_rfl) rfl rfl ?_
  intro w0
  refine T.seq ?_
  refine T.region ?_
  refine R.box rfl (by conv => lhs; whnf) ?_
  intro b3
  refine R.asE rfl (by conv => lhs; whnf) ?_
  refine TL.shut .hd ?_
  intro Hb3_1 sb3_1 qb3_1
  have hb3_1 : Hb3_1 b3 = some (.cells #[.int .i64 (a1.1), .bool (a1.2)] 101) := shut1 qb3_1
  refine TL.nil (Post.thnN ?_)
  refine T.seq ?_
  refine T.region ?_
  refine R.fldA Tryd.underlying101 rfl Tryd.sizeOf3 (by decide) rfl rfl ?_
  refine R.ldH Tryd.isAgg3 rfl rfl hb3_1 rfl ?_
  refine R.geq rfl rfl rfl ?_
  refine R.mvE rfl (by conv => lhs; whnf) ?_
  refine TL.gsplitD 8 rfl (fun g8 => ?_) (fun g8 => ?_)
  · refine R.fldA Tryd.underlying101 rfl Tryd.sizeOf3 (by decide) rfl rfl ?_
    refine R.ldH Tryd.isAgg3 rfl rfl hb3_1 rfl ?_
    refine R.leq rfl rfl rfl ?_
    refine R.pkTE rfl rfl (by conv => lhs; whnf) ?_
    refine R.mvE rfl (by conv => lhs; whnf) ?_
    refine TL.gsplitD 13 rfl (fun g13 => ?_) (fun g13 => ?_)
    · refine R.mvE rfl (by conv => lhs; whnf) ?_
      refine R.geq rfl rfl rfl ?_
      refine R.mvE rfl (by conv => lhs; whnf) ?_
      refine TL.gsplitD 16 rfl (fun g16 => ?_) (fun g16 => ?_)
      · refine TL.off rfl rfl rfl ?_
        refine TL.off rfl rfl rfl ?_
        refine TL.off rfl rfl rfl ?_
        refine R.pkTE rfl rfl (by conv => lhs; whnf) ?_
        refine R.pkTE rfl rfl (by conv => lhs; whnf) ?_
        refine R.asE rfl (by conv => lhs; whnf) ?_
        refine TL.nil (Post.thnN ?_)
        refine T.has Has.nil ?_
        refine T.ret ?_
        have hM : alloc_Check_1_m a0 a1 = true := by rw [alloc_Check_1_m, if_pos g8, if_pos g13, if_pos g16]
        exact fin1L (v := .bool true) [] rfl rfl (List.Sublist.refl _) ⟨rfl, by first | rw [hM] | rfl⟩
      · refine R.ldXH (cs := [.int .i64 (a1.1), .bool (a1.2)]) (l := [.int .i64 (a1.1), .bool (a1.2)]) Tryd.isAgg101 Tryd.sizeOf101 rfl rfl hb3_1 rfl rfl ?_
        refine R.ldXH (cs := [.int .i64 0, .bool true]) (l := [.int .i64 0, .bool true]) Tryd.isAgg101 Tryd.sizeOf101 rfl rfl (sb3_1 _ _ hG0) rfl rfl ?_
        refine R.eqG (a := (a1 : Int × Bool)) (b := (((0, true) : Int × Bool) : Int × Bool)) (eqT101 9998 a1 (((0, true) : Int × Bool))) eqG101 rfl rfl rfl ?_
        refine R.pkFE rfl rfl (by conv => lhs; whnf) ?_
        refine R.pkTE rfl rfl (by conv => lhs; whnf) ?_
        refine R.asE rfl (by conv => lhs; whnf) ?_
        refine TL.nil (Post.thnN ?_)
        refine T.has Has.nil ?_
        refine T.ret ?_
        have hM : alloc_Check_1_m a0 a1 = (decide ((a1 : Int × Bool) = ((0, true) : Int × Bool))) := by rw [alloc_Check_1_m, if_pos g8, if_pos g13, if_neg g16]
        exact fin1L (v := .bool (decide ((a1 : Int × Bool) = ((0, true) : Int × Bool)))) [] rfl rfl (List.Sublist.refl _) ⟨rfl, by first | rw [hM] | rfl⟩
    · refine TL.off rfl rfl rfl ?_
      refine TL.off rfl rfl rfl ?_
      refine TL.off rfl rfl rfl ?_
      refine TL.offU rfl rfl ?_
      refine TL.offU rfl rfl ?_
      refine TL.offU rfl rfl ?_
      refine TL.off rfl rfl rfl ?_
      refine R.pkFE rfl rfl (by conv => lhs; whnf) ?_
      refine R.asE rfl (by conv => lhs; whnf) ?_
      refine TL.nil (Post.thnN ?_)
      refine T.has Has.nil ?_
      refine T.ret ?_
      have hM : alloc_Check_1_m a0 a1 = false := by rw [alloc_Check_1_m, if_pos g8, if_neg g13]
      exact fin1L (v := .bool false) [] rfl rfl (List.Sublist.refl _) ⟨rfl, by first | rw [hM] | rfl⟩
  · refine TL.off rfl rfl rfl ?_
    refine TL.off rfl rfl rfl ?_
    refine TL.off rfl rfl rfl ?_
    refine R.pkFE rfl rfl (by conv => lhs; whnf) ?_
    refine R.mvE rfl (by conv => lhs; whnf) ?_
    refine TL.off rfl rfl rfl ?_
    refine TL.off rfl rfl rfl ?_
    refine TL.off rfl rfl rfl ?_
    refine TL.offU rfl rfl ?_
    refine TL.offU rfl rfl ?_
    refine TL.offU rfl rfl ?_
    refine TL.off rfl rfl rfl ?_
    refine R.pkFE rfl rfl (by conv => lhs; whnf) ?_
    refine R.asE rfl (by conv => lhs; whnf) ?_
    refine TL.nil (Post.thnN ?_)
    refine T.has Has.nil ?_
    refine T.ret ?_
    have hM : alloc_Check_1_m a0 a1 = false := by rw [alloc_Check_1_m, if_neg g8]
    exact fin1L (v := .bool false) [] rfl rfl (List.Sublist.refl _) ⟨rfl, by first | rw [hM] | rfl⟩

def alloc_Check_l3  : List (Int × Bool) → Nat → ((List Int)) → (List Int)
  | [], kl3, sl3 => sl3
  | yl3 :: ysl3, kl3, sl3 => if (alloc_usable_m yl3) = true then (alloc_Check_l3 ysl3 (kl3 + 1) ((sl3 ++ [((kl3 : Int) + 1)]))) else (alloc_Check_l3 ysl3 (kl3 + 1) sl3)
def alloc_Check_m (a0 : Int × (List (Int × Bool)) × (List Int)) : Int :=
  LR.seq (if (1 : Int) ≤ a0.1 then (if a0.1 ≤ 1048576 then (if (2 : Int) ≤ (a0.2.1.length : Int) then (if (a0.2.1.length : Int) ≤ (IntKind.i64.wrap (a0.1 + 2)) then ((decide (((alloc_many_m a0) : Int) ≤ a0.1))) else false) else false) else false) else false : Bool) (fun sc1 => LR.seq (if sc1 = true then ((alloc_all_Slot_m a0.2.1 ((fun z0 z1 => alloc_Check_1_m z0 z1)))) else false : Bool) (fun sc2 => if (!sc2) = true then 120 else (LR.seq (alloc_Check_l3 a0.2.1 0 []) (fun ol3 => LR.seq (slices_Values_int_m a0.2.2) (fun r63 => LR.seq (slices_Sorted_int_m r63) (fun r64 => if ¬ (r64 = ol3) then 120 else 0))))))
set_option maxHeartbeats 3200000 in
theorem alloc_Check_c (H : Heap) {tG0 : TypeId} (hG0 : H 0 = some (.cells #[.int .i64 0, .bool true] tG0)) (a0 : Int × (List (Int × Bool)) × (List Int)) (va0_1 : Value) (ha0_1 : RdS slotE H va0_1 a0.2.1) (va0_2 : Value) (ha0_2 : RdS (intE .i64) H va0_2 a0.2.2) (hs : a0.2.1.length ≤ 2000000) (hf : a0.2.2.length ≤ 2000000) : Fv Tryd.prog (fnv 23) [.agg #[.int .i64 a0.1, va0_1, va0_2]] H (.int .i64 (alloc_Check_m a0)) := by
  refine Fc.of_body (N := 68) Tryd.func23 rfl (by kernel_rfl) rfl rfl ?_
  intro w0
  obtain ⟨Aa0_1, ca0_1, rfl, hca0_1, hda0_1, ha0_1⟩ := ha0_1.shape
  obtain ⟨Aa0_2, ca0_2, rfl, hca0_2, hda0_2, ha0_2⟩ := ha0_2.shape
  refine T.seq ?_
  refine T.region ?_
  refine R.box rfl (by conv => lhs; whnf) ?_
  intro b1
  refine R.asE rfl (by conv => lhs; whnf) ?_
  refine TL.shut .hd ?_
  intro Hb1_1 sb1_1 qb1_1
  have hb1_1 : Hb1_1 b1 = some (.cells #[.int .i64 (a0.1), .slice Aa0_1 a0.2.1.length ca0_1, .slice Aa0_2 a0.2.2.length ca0_2] 25) := shut1 qb1_1
  refine TL.nil (Post.thnN ?_)
  refine T.seq ?_
  refine T.region ?_
  refine R.fldA Tryd.underlying25 rfl Tryd.sizeOf22 (by decide) rfl rfl ?_
  refine R.ldH Tryd.isAgg22 rfl rfl hb1_1 rfl ?_
  refine R.len Tryd.underlying22 rfl rfl ?_
  refine R.asE rfl (by conv => lhs; whnf) ?_
  refine TL.nil (Post.thnN ?_)
  refine T.seq ?_
  refine T.cutK (ι := Bool) (fun b4c1 H' L' ds' => Has L' [] ∧ (if (1 : Int) ≤ a0.1 then (if a0.1 ≤ 1048576 then (if (2 : Int) ≤ (a0.2.1.length : Int) then (if (a0.2.1.length : Int) ≤ (IntKind.i64.wrap (a0.1 + 2)) then ((decide (((alloc_many_m a0) : Int) ≤ a0.1))) else false) else false) else false) else false : Bool) = b4c1) (fun b4c1 => [(1, .pointer (some ⟨b1, 0, none⟩)), (4, .bool (b4c1))]) ?_ ?_
  · refine T.draw Tryd_mixed (by kernel_rfl) ?_
    refine Plan.v 0 [1, 2, 3, 4, 5, 6, 7, 8, 9, 10, 11, 12, 13, 14, 15, 16, 17, 18, 19, 20, 21, 22, 23, 24, 25, 26] (by kernel_rfl) (by kernel_rfl) (by kernel_rfl) (by kernel_rfl) rfl (fun _ _ h_ => R.fldA Tryd.underlying25 rfl Tryd.sizeOf3 (by decide) rfl rfl (TL.nil h_)) ?_
    refine Plan.v 1 [2, 3, 4, 5, 6, 7, 8, 9, 10, 11, 12, 13, 14, 15, 16, 17, 18, 19, 20, 21, 22, 23, 24, 25, 26] (by kernel_rfl) (by kernel_rfl) (by kernel_rfl) (by kernel_rfl) rfl (fun _ _ h_ => R.ldH Tryd.isAgg3 rfl rfl hb1_1 rfl (TL.nil h_)) ?_
    refine Plan.v 2 [3, 4, 5, 6, 7, 8, 9, 10, 11, 12, 13, 14, 15, 16, 17, 18, 19, 20, 21, 22, 23, 24, 25, 26] (by kernel_rfl) (by kernel_rfl) (by kernel_rfl) (by kernel_rfl) rfl (fun _ _ h_ => R.geq rfl rfl rfl (TL.nil h_)) ?_
    refine Plan.v 3 [4, 5, 6, 7, 8, 9, 10, 11, 12, 13, 14, 15, 16, 17, 18, 19, 20, 21, 22, 23, 24, 25, 26] (by kernel_rfl) (by kernel_rfl) (by kernel_rfl) (by kernel_rfl) rfl (fun _ _ h_ => R.mvE rfl (by conv => lhs; whnf) (TL.nil h_)) ?_
    refine Plan.gsplitD 14 rfl (fun g14 => ?_) (fun g14 => ?_)
    · refine Plan.v 4 [5, 6, 7, 8, 9, 10, 11, 12, 13, 14, 15, 16, 17, 18, 19, 20, 21, 22, 23, 24, 25, 26] (by kernel_rfl) (by kernel_rfl) (by kernel_rfl) (by kernel_rfl) rfl (fun _ _ h_ => R.fldA Tryd.underlying25 rfl Tryd.sizeOf3 (by decide) rfl rfl (TL.nil h_)) ?_
      refine Plan.v 5 [6, 7, 8, 9, 10, 11, 12, 13, 14, 15, 16, 17, 18, 19, 20, 21, 22, 23, 24, 25, 26] (by kernel_rfl) (by kernel_rfl) (by kernel_rfl) (by kernel_rfl) rfl (fun _ _ h_ => R.ldH Tryd.isAgg3 rfl rfl hb1_1 rfl (TL.nil h_)) ?_
      refine Plan.v 6 [7, 8, 9, 10, 11, 12, 13, 14, 15, 16, 17, 18, 19, 20, 21, 22, 23, 24, 25, 26] (by kernel_rfl) (by kernel_rfl) (by kernel_rfl) (by kernel_rfl) rfl (fun _ _ h_ => R.leq rfl rfl rfl (TL.nil h_)) ?_
      refine Plan.v 7 [8, 9, 10, 11, 12, 13, 14, 15, 16, 17, 18, 19, 20, 21, 22, 23, 24, 25, 26] (by kernel_rfl) (by kernel_rfl) (by kernel_rfl) (by kernel_rfl) rfl (fun _ _ h_ => R.pkTE rfl rfl (by conv => lhs; whnf) (TL.nil h_)) ?_
      refine Plan.v 8 [9, 10, 11, 12, 13, 14, 15, 16, 17, 18, 19, 20, 21, 22, 23, 24, 25, 26] (by kernel_rfl) (by kernel_rfl) (by kernel_rfl) (by kernel_rfl) rfl (fun _ _ h_ => R.mvE rfl (by conv => lhs; whnf) (TL.nil h_)) ?_
      refine Plan.gsplitD 19 rfl (fun g19 => ?_) (fun g19 => ?_)
      · refine Plan.v 9 [10, 11, 12, 13, 14, 15, 16, 17, 18, 19, 20, 21, 22, 23, 24, 25, 26] (by kernel_rfl) (by kernel_rfl) (by kernel_rfl) (by kernel_rfl) rfl (fun _ _ h_ => R.mvE rfl (by conv => lhs; whnf) (TL.nil h_)) ?_
        refine Plan.v 10 [11, 12, 13, 14, 15, 16, 17, 18, 19, 20, 21, 22, 23, 24, 25, 26] (by kernel_rfl) (by kernel_rfl) (by kernel_rfl) (by kernel_rfl) rfl (fun _ _ h_ => R.geq rfl rfl rfl (TL.nil h_)) ?_
        refine Plan.v 11 [12, 13, 14, 15, 16, 17, 18, 19, 20, 21, 22, 23, 24, 25, 26] (by kernel_rfl) (by kernel_rfl) (by kernel_rfl) (by kernel_rfl) rfl (fun _ _ h_ => R.pkTE rfl rfl (by conv => lhs; whnf) (TL.nil h_)) ?_
        refine Plan.v 12 [13, 14, 15, 16, 17, 18, 19, 20, 21, 22, 23, 24, 25, 26] (by kernel_rfl) (by kernel_rfl) (by kernel_rfl) (by kernel_rfl) rfl (fun _ _ h_ => R.mvE rfl (by conv => lhs; whnf) (TL.nil h_)) ?_
        refine Plan.gsplitD 23 rfl (fun g23 => ?_) (fun g23 => ?_)
        · refine Plan.v 13 [14, 15, 16, 17, 18, 19, 20, 21, 22, 23, 24, 25, 26] (by kernel_rfl) (by kernel_rfl) (by kernel_rfl) (by kernel_rfl) rfl (fun _ _ h_ => R.mvE rfl (by conv => lhs; whnf) (TL.nil h_)) ?_
          refine Plan.v 14 [15, 16, 17, 18, 19, 20, 21, 22, 23, 24, 25, 26] (by kernel_rfl) (by kernel_rfl) (by kernel_rfl) (by kernel_rfl) rfl (fun _ _ h_ => R.fldA Tryd.underlying25 rfl Tryd.sizeOf3 (by decide) rfl rfl (TL.nil h_)) ?_
          refine Plan.v 15 [16, 17, 18, 19, 20, 21, 22, 23, 24, 25, 26] (by kernel_rfl) (by kernel_rfl) (by kernel_rfl) (by kernel_rfl) rfl (fun _ _ h_ => R.ldH Tryd.isAgg3 rfl rfl hb1_1 rfl (TL.nil h_)) ?_
          refine Plan.v 16 [17, 18, 19, 20, 21, 22, 23, 24, 25, 26] (by kernel_rfl) (by kernel_rfl) (by kernel_rfl) (by kernel_rfl) rfl (fun _ _ h_ => R.add rfl rfl rfl (TL.nil h_)) ?_
          refine Plan.v 17 [18, 19, 20, 21, 22, 23, 24, 25, 26] (by kernel_rfl) (by kernel_rfl) (by kernel_rfl) (by kernel_rfl) rfl (fun _ _ h_ => R.leq rfl rfl rfl (TL.nil h_)) ?_
          refine Plan.v 18 [19, 20, 21, 22, 23, 24, 25, 26] (by kernel_rfl) (by kernel_rfl) (by kernel_rfl) (by kernel_rfl) rfl (fun _ _ h_ => R.pkTE rfl rfl (by conv => lhs; whnf) (TL.nil h_)) ?_
          refine Plan.v 19 [20, 21, 22, 23, 24, 25, 26] (by kernel_rfl) (by kernel_rfl) (by kernel_rfl) (by kernel_rfl) rfl (fun _ _ h_ => R.mvE rfl (by conv => lhs; whnf) (TL.nil h_)) ?_
          refine Plan.gsplitD 30 rfl (fun g30 => ?_) (fun g30 => ?_)
          · refine Plan.v 20 [21, 22, 23, 24, 25, 26] (by kernel_rfl) (by kernel_rfl) (by kernel_rfl) (by kernel_rfl) rfl (fun _ _ h_ => R.ldXH (cs := [.int .i64 (a0.1), .slice Aa0_1 a0.2.1.length ca0_1, .slice Aa0_2 a0.2.2.length ca0_2]) (l := [.int .i64 (a0.1), .slice Aa0_1 a0.2.1.length ca0_1, .slice Aa0_2 a0.2.2.length ca0_2]) Tryd.isAgg25 Tryd.sizeOf25 rfl rfl hb1_1 rfl rfl (TL.nil h_)) ?_
            refine Plan.v 21 [22, 23, 24, 25, 26] (by kernel_rfl) (by kernel_rfl) (by kernel_rfl) (by kernel_rfl) rfl (fun _ _ h_ => R.callv rfl rfl rfl (alloc_many_c _ a0 _ (ha0_1.mono sb1_1) _ (ha0_2.mono sb1_1)) (TL.nil h_)) ?_
            refine Plan.v 22 [23, 24, 25, 26] (by kernel_rfl) (by kernel_rfl) (by kernel_rfl) (by kernel_rfl) rfl (fun _ _ h_ => R.fldA Tryd.underlying25 rfl Tryd.sizeOf3 (by decide) rfl rfl (TL.nil h_)) ?_
            refine Plan.v 23 [24, 25, 26] (by kernel_rfl) (by kernel_rfl) (by kernel_rfl) (by kernel_rfl) rfl (fun _ _ h_ => R.ldH Tryd.isAgg3 rfl rfl hb1_1 rfl (TL.nil h_)) ?_
            refine Plan.v 24 [25, 26] (by kernel_rfl) (by kernel_rfl) (by kernel_rfl) (by kernel_rfl) rfl (fun _ _ h_ => R.leq rfl rfl rfl (TL.nil h_)) ?_
            refine Plan.v 25 [26] (by kernel_rfl) (by kernel_rfl) (by kernel_rfl) (by kernel_rfl) rfl (fun _ _ h_ => R.pkTE rfl rfl (by conv => lhs; whnf) (TL.nil h_)) ?_
            refine Plan.v 26 [] (by kernel_rfl) (by kernel_rfl) (by kernel_rfl) (by kernel_rfl) rfl (fun _ _ h_ => R.asE rfl (by conv => lhs; whnf) (TL.nil h_)) ?_
            refine Plan.done (Post.thnN ?_)
            exact ⟨(decide (((alloc_many_m a0) : Int) ≤ a0.1)), HLe.refl _, ⟨Has.nil, (by rw [if_pos g14, if_pos g19, if_pos g23, if_pos g30])⟩, rfl, rfl, trivial⟩
          · refine Plan.v 20 [21, 22, 23, 24, 25, 26] (by kernel_rfl) (by kernel_rfl) (by kernel_rfl) (by kernel_rfl) rfl (fun _ _ h_ => TL.off rfl rfl rfl (TL.nil h_)) ?_
            refine Plan.v 21 [22, 23, 24, 25, 26] (by kernel_rfl) (by kernel_rfl) (by kernel_rfl) (by kernel_rfl) rfl (fun _ _ h_ => TL.off rfl rfl rfl (TL.nil h_)) ?_
            refine Plan.v 22 [23, 24, 25, 26] (by kernel_rfl) (by kernel_rfl) (by kernel_rfl) (by kernel_rfl) rfl (fun _ _ h_ => TL.off rfl rfl rfl (TL.nil h_)) ?_
            refine Plan.v 23 [24, 25, 26] (by kernel_rfl) (by kernel_rfl) (by kernel_rfl) (by kernel_rfl) rfl (fun _ _ h_ => TL.off rfl rfl rfl (TL.nil h_)) ?_
            refine Plan.v 24 [25, 26] (by kernel_rfl) (by kernel_rfl) (by kernel_rfl) (by kernel_rfl) rfl (fun _ _ h_ => TL.off rfl rfl rfl (TL.nil h_)) ?_
            refine Plan.v 25 [26] (by kernel_rfl) (by kernel_rfl) (by kernel_rfl) (by kernel_rfl) rfl (fun _ _ h_ => R.pkFE rfl rfl (by conv => lhs; whnf) (TL.nil h_)) ?_
            refine Plan.v 26 [] (by kernel_rfl) (by kernel_rfl) (by kernel_rfl) (by kernel_rfl) rfl (fun _ _ h_ => R.asE rfl (by conv => lhs; whnf) (TL.nil h_)) ?_
            refine Plan.done (Post.thnN ?_)
            exact ⟨false, HLe.refl _, ⟨Has.nil, (by rw [if_pos g14, if_pos g19, if_pos g23, if_neg g30])⟩, rfl, rfl, trivial⟩
        · refine Plan.v 13 [14, 15, 16, 17, 18, 19, 20, 21, 22, 23, 24, 25, 26] (by kernel_rfl) (by kernel_rfl) (by kernel_rfl) (by kernel_rfl) rfl (fun _ _ h_ => TL.off rfl rfl rfl (TL.nil h_)) ?_
          refine Plan.v 14 [15, 16, 17, 18, 19, 20, 21, 22, 23, 24, 25, 26] (by kernel_rfl) (by kernel_rfl) (by kernel_rfl) (by kernel_rfl) rfl (fun _ _ h_ => TL.off rfl rfl rfl (TL.nil h_)) ?_
          refine Plan.v 15 [16, 17, 18, 19, 20, 21, 22, 23, 24, 25, 26] (by kernel_rfl) (by kernel_rfl) (by kernel_rfl) (by kernel_rfl) rfl (fun _ _ h_ => TL.off rfl rfl rfl (TL.nil h_)) ?_
          refine Plan.v 16 [17, 18, 19, 20, 21, 22, 23, 24, 25, 26] (by kernel_rfl) (by kernel_rfl) (by kernel_rfl) (by kernel_rfl) rfl (fun _ _ h_ => TL.off rfl rfl rfl (TL.nil h_)) ?_
          refine Plan.v 17 [18, 19, 20, 21, 22, 23, 24, 25, 26] (by kernel_rfl) (by kernel_rfl) (by kernel_rfl) (by kernel_rfl) rfl (fun _ _ h_ => TL.off rfl rfl rfl (TL.nil h_)) ?_
          refine Plan.v 18 [19, 20, 21, 22, 23, 24, 25, 26] (by kernel_rfl) (by kernel_rfl) (by kernel_rfl) (by kernel_rfl) rfl (fun _ _ h_ => R.pkFE rfl rfl (by conv => lhs; whnf) (TL.nil h_)) ?_
          refine Plan.v 19 [20, 21, 22, 23, 24, 25, 26] (by kernel_rfl) (by kernel_rfl) (by kernel_rfl) (by kernel_rfl) rfl (fun _ _ h_ => R.mvE rfl (by conv => lhs; whnf) (TL.nil h_)) ?_
          refine Plan.v 20 [21, 22, 23, 24, 25, 26] (by kernel_rfl) (by kernel_rfl) (by kernel_rfl) (by kernel_rfl) rfl (fun _ _ h_ => TL.off rfl rfl rfl (TL.nil h_)) ?_
          refine Plan.v 21 [22, 23, 24, 25, 26] (by kernel_rfl) (by kernel_rfl) (by kernel_rfl) (by kernel_rfl) rfl (fun _ _ h_ => TL.off rfl rfl rfl (TL.nil h_)) ?_
          refine Plan.v 22 [23, 24, 25, 26] (by kernel_rfl) (by kernel_rfl) (by kernel_rfl) (by kernel_rfl) rfl (fun _ _ h_ => TL.off rfl rfl rfl (TL.nil h_)) ?_
          refine Plan.v 23 [24, 25, 26] (by kernel_rfl) (by kernel_rfl) (by kernel_rfl) (by kernel_rfl) rfl (fun _ _ h_ => TL.off rfl rfl rfl (TL.nil h_)) ?_
          refine Plan.v 24 [25, 26] (by kernel_rfl) (by kernel_rfl) (by kernel_rfl) (by kernel_rfl) rfl (fun _ _ h_ => TL.off rfl rfl rfl (TL.nil h_)) ?_
          refine Plan.v 25 [26] (by kernel_rfl) (by kernel_rfl) (by kernel_rfl) (by kernel_rfl) rfl (fun _ _ h_ => R.pkFE rfl rfl (by conv => lhs; whnf) (TL.nil h_)) ?_
          refine Plan.v 26 [] (by kernel_rfl) (by kernel_rfl) (by kernel_rfl) (by kernel_rfl) rfl (fun _ _ h_ => R.asE rfl (by conv => lhs; whnf) (TL.nil h_)) ?_
          refine Plan.done (Post.thnN ?_)
          exact ⟨false, HLe.refl _, ⟨Has.nil, (by rw [if_pos g14, if_pos g19, if_neg g23])⟩, rfl, rfl, trivial⟩
      · refine Plan.v 9 [10, 11, 12, 13, 14, 15, 16, 17, 18, 19, 20, 21, 22, 23, 24, 25, 26] (by kernel_rfl) (by kernel_rfl) (by kernel_rfl) (by kernel_rfl) rfl (fun _ _ h_ => TL.off rfl rfl rfl (TL.nil h_)) ?_
        refine Plan.v 10 [11, 12, 13, 14, 15, 16, 17, 18, 19, 20, 21, 22, 23, 24, 25, 26] (by kernel_rfl) (by kernel_rfl) (by kernel_rfl) (by kernel_rfl) rfl (fun _ _ h_ => TL.off rfl rfl rfl (TL.nil h_)) ?_
        refine Plan.v 11 [12, 13, 14, 15, 16, 17, 18, 19, 20, 21, 22, 23, 24, 25, 26] (by kernel_rfl) (by kernel_rfl) (by kernel_rfl) (by kernel_rfl) rfl (fun _ _ h_ => R.pkFE rfl rfl (by conv => lhs; whnf) (TL.nil h_)) ?_
        refine Plan.v 12 [13, 14, 15, 16, 17, 18, 19, 20, 21, 22, 23, 24, 25, 26] (by kernel_rfl) (by kernel_rfl) (by kernel_rfl) (by kernel_rfl) rfl (fun _ _ h_ => R.mvE rfl (by conv => lhs; whnf) (TL.nil h_)) ?_
        refine Plan.v 13 [14, 15, 16, 17, 18, 19, 20, 21, 22, 23, 24, 25, 26] (by kernel_rfl) (by kernel_rfl) (by kernel_rfl) (by kernel_rfl) rfl (fun _ _ h_ => TL.off rfl rfl rfl (TL.nil h_)) ?_
        refine Plan.v 14 [15, 16, 17, 18, 19, 20, 21, 22, 23, 24, 25, 26] (by kernel_rfl) (by kernel_rfl) (by kernel_rfl) (by kernel_rfl) rfl (fun _ _ h_ => TL.off rfl rfl rfl (TL.nil h_)) ?_
        refine Plan.v 15 [16, 17, 18, 19, 20, 21, 22, 23, 24, 25, 26] (by kernel_rfl) (by kernel_rfl) (by kernel_rfl) (by kernel_rfl) rfl (fun _ _ h_ => TL.off rfl rfl rfl (TL.nil h_)) ?_
        refine Plan.v 16 [17, 18, 19, 20, 21, 22, 23, 24, 25, 26] (by kernel_rfl) (by kernel_rfl) (by kernel_rfl) (by kernel_rfl) rfl (fun _ _ h_ => TL.off rfl rfl rfl (TL.nil h_)) ?_
        refine Plan.v 17 [18, 19, 20, 21, 22, 23, 24, 25, 26] (by kernel_rfl) (by kernel_rfl) (by kernel_rfl) (by kernel_rfl) rfl (fun _ _ h_ => TL.off rfl rfl rfl (TL.nil h_)) ?_
        refine Plan.v 18 [19, 20, 21, 22, 23, 24, 25, 26] (by kernel_rfl) (by kernel_rfl) (by kernel_rfl) (by kernel_rfl) rfl (fun _ _ h_ => R.pkFE rfl rfl (by conv => lhs; whnf) (TL.nil h_)) ?_
        refine Plan.v 19 [20, 21, 22, 23, 24, 25, 26] (by kernel_rfl) (by kernel_rfl) (by kernel_rfl) (by kernel_rfl) rfl (fun _ _ h_ => R.mvE rfl (by conv => lhs; whnf) (TL.nil h_)) ?_
        refine Plan.v 20 [21, 22, 23, 24, 25, 26] (by kernel_rfl) (by kernel_rfl) (by kernel_rfl) (by kernel_rfl) rfl (fun _ _ h_ => TL.off rfl rfl rfl (TL.nil h_)) ?_
        refine Plan.v 21 [22, 23, 24, 25, 26] (by kernel_rfl) (by kernel_rfl) (by kernel_rfl) (by kernel_rfl) rfl (fun _ _ h_ => TL.off rfl rfl rfl (TL.nil h_)) ?_
        refine Plan.v 22 [23, 24, 25, 26] (by kernel_rfl) (by kernel_rfl) (by kernel_rfl) (by kernel_rfl) rfl (fun _ _ h_ => TL.off rfl rfl rfl (TL.nil h_)) ?_
        refine Plan.v 23 [24, 25, 26] (by kernel_rfl) (by kernel_rfl) (by kernel_rfl) (by kernel_rfl) rfl (fun _ _ h_ => TL.off rfl rfl rfl (TL.nil h_)) ?_
        refine Plan.v 24 [25, 26] (by kernel_rfl) (by kernel_rfl) (by kernel_rfl) (by kernel_rfl) rfl (fun _ _ h_ => TL.off rfl rfl rfl (TL.nil h_)) ?_
        refine Plan.v 25 [26] (by kernel_rfl) (by kernel_rfl) (by kernel_rfl) (by kernel_rfl) rfl (fun _ _ h_ => R.pkFE rfl rfl (by conv => lhs; whnf) (TL.nil h_)) ?_
        refine Plan.v 26 [] (by kernel_rfl) (by kernel_rfl) (by kernel_rfl) (by kernel_rfl) rfl (fun _ _ h_ => R.asE rfl (by conv => lhs; whnf) (TL.nil h_)) ?_
        refine Plan.done (Post.thnN ?_)
        exact ⟨false, HLe.refl _, ⟨Has.nil, (by rw [if_pos g14, if_neg g19])⟩, rfl, rfl, trivial⟩
    · refine Plan.v 4 [5, 6, 7, 8, 9, 10, 11, 12, 13, 14, 15, 16, 17, 18, 19, 20, 21, 22, 23, 24, 25, 26] (by kernel_rfl) (by kernel_rfl) (by kernel_rfl) (by kernel_rfl) rfl (fun _ _ h_ => TL.off rfl rfl rfl (TL.nil h_)) ?_
      refine Plan.v 5 [6, 7, 8, 9, 10, 11, 12, 13, 14, 15, 16, 17, 18, 19, 20, 21, 22, 23, 24, 25, 26] (by kernel_rfl) (by kernel_rfl) (by kernel_rfl) (by kernel_rfl) rfl (fun _ _ h_ => TL.off rfl rfl rfl (TL.nil h_)) ?_
      refine Plan.v 6 [7, 8, 9, 10, 11, 12, 13, 14, 15, 16, 17, 18, 19, 20, 21, 22, 23, 24, 25, 26] (by kernel_rfl) (by kernel_rfl) (by kernel_rfl) (by kernel_rfl) rfl (fun _ _ h_ => TL.off rfl rfl rfl (TL.nil h_)) ?_
      refine Plan.v 7 [8, 9, 10, 11, 12, 13, 14, 15, 16, 17, 18, 19, 20, 21, 22, 23, 24, 25, 26] (by kernel_rfl) (by kernel_rfl) (by kernel_rfl) (by kernel_rfl) rfl (fun _ _ h_ => R.pkFE rfl rfl (by conv => lhs; whnf) (TL.nil h_)) ?_
      refine Plan.v 8 [9, 10, 11, 12, 13, 14, 15, 16, 17, 18, 19, 20, 21, 22, 23, 24, 25, 26] (by kernel_rfl) (by kernel_rfl) (by kernel_rfl) (by kernel_rfl) rfl (fun _ _ h_ => R.mvE rfl (by conv => lhs; whnf) (TL.nil h_)) ?_
      refine Plan.v 9 [10, 11, 12, 13, 14, 15, 16, 17, 18, 19, 20, 21, 22, 23, 24, 25, 26] (by kernel_rfl) (by kernel_rfl) (by kernel_rfl) (by kernel_rfl) rfl (fun _ _ h_ => TL.off rfl rfl rfl (TL.nil h_)) ?_
      refine Plan.v 10 [11, 12, 13, 14, 15, 16, 17, 18, 19, 20, 21, 22, 23, 24, 25, 26] (by kernel_rfl) (by kernel_rfl) (by kernel_rfl) (by kernel_rfl) rfl (fun _ _ h_ => TL.off rfl rfl rfl (TL.nil h_)) ?_
      refine Plan.v 11 [12, 13, 14, 15, 16, 17, 18, 19, 20, 21, 22, 23, 24, 25, 26] (by kernel_rfl) (by kernel_rfl) (by kernel_rfl) (by kernel_rfl) rfl (fun _ _ h_ => R.pkFE rfl rfl (by conv => lhs; whnf) (TL.nil h_)) ?_
      refine Plan.v 12 [13, 14, 15, 16, 17, 18, 19, 20, 21, 22, 23, 24, 25, 26] (by kernel_rfl) (by kernel_rfl) (by kernel_rfl) (by kernel_rfl) rfl (fun _ _ h_ => R.mvE rfl (by conv => lhs; whnf) (TL.nil h_)) ?_
      refine Plan.v 13 [14, 15, 16, 17, 18, 19, 20, 21, 22, 23, 24, 25, 26] (by kernel_rfl) (by kernel_rfl) (by kernel_rfl) (by kernel_rfl) rfl (fun _ _ h_ => TL.off rfl rfl rfl (TL.nil h_)) ?_
      refine Plan.v 14 [15, 16, 17, 18, 19, 20, 21, 22, 23, 24, 25, 26] (by kernel_rfl) (by kernel_rfl) (by kernel_rfl) (by kernel_rfl) rfl (fun _ _ h_ => TL.off rfl rfl rfl (TL.nil h_)) ?_
      refine Plan.v 15 [16, 17, 18, 19, 20, 21, 22, 23, 24, 25, 26] (by kernel_rfl) (by kernel_rfl) (by kernel_rfl) (by kernel_rfl) rfl (fun _ _ h_ => TL.off rfl rfl rfl (TL.nil h_)) ?_
      refine Plan.v 16 [17, 18, 19, 20, 21, 22, 23, 24, 25, 26] (by kernel_rfl) (by kernel_rfl) (by kernel_rfl) (by kernel_rfl) rfl (fun _ _ h_ => TL.off rfl rfl rfl (TL.nil h_)) ?_
      refine Plan.v 17 [18, 19, 20, 21, 22, 23, 24, 25, 26] (by kernel_rfl) (by kernel_rfl) (by kernel_rfl) (by kernel_rfl) rfl (fun _ _ h_ => TL.off rfl rfl rfl (TL.nil h_)) ?_
      refine Plan.v 18 [19, 20, 21, 22, 23, 24, 25, 26] (by kernel_rfl) (by kernel_rfl) (by kernel_rfl) (by kernel_rfl) rfl (fun _ _ h_ => R.pkFE rfl rfl (by conv => lhs; whnf) (TL.nil h_)) ?_
      refine Plan.v 19 [20, 21, 22, 23, 24, 25, 26] (by kernel_rfl) (by kernel_rfl) (by kernel_rfl) (by kernel_rfl) rfl (fun _ _ h_ => R.mvE rfl (by conv => lhs; whnf) (TL.nil h_)) ?_
      refine Plan.v 20 [21, 22, 23, 24, 25, 26] (by kernel_rfl) (by kernel_rfl) (by kernel_rfl) (by kernel_rfl) rfl (fun _ _ h_ => TL.off rfl rfl rfl (TL.nil h_)) ?_
      refine Plan.v 21 [22, 23, 24, 25, 26] (by kernel_rfl) (by kernel_rfl) (by kernel_rfl) (by kernel_rfl) rfl (fun _ _ h_ => TL.off rfl rfl rfl (TL.nil h_)) ?_
      refine Plan.v 22 [23, 24, 25, 26] (by kernel_rfl) (by kernel_rfl) (by kernel_rfl) (by kernel_rfl) rfl (fun _ _ h_ => TL.off rfl rfl rfl (TL.nil h_)) ?_
      refine Plan.v 23 [24, 25, 26] (by kernel_rfl) (by kernel_rfl) (by kernel_rfl) (by kernel_rfl) rfl (fun _ _ h_ => TL.off rfl rfl rfl (TL.nil h_)) ?_
      refine Plan.v 24 [25, 26] (by kernel_rfl) (by kernel_rfl) (by kernel_rfl) (by kernel_rfl) rfl (fun _ _ h_ => TL.off rfl rfl rfl (TL.nil h_)) ?_
      refine Plan.v 25 [26] (by kernel_rfl) (by kernel_rfl) (by kernel_rfl) (by kernel_rfl) rfl (fun _ _ h_ => R.pkFE rfl rfl (by conv => lhs; whnf) (TL.nil h_)) ?_
      refine Plan.v 26 [] (by kernel_rfl) (by kernel_rfl) (by kernel_rfl) (by kernel_rfl) rfl (fun _ _ h_ => R.asE rfl (by conv => lhs; whnf) (TL.nil h_)) ?_
      refine Plan.done (Post.thnN ?_)
      exact ⟨false, HLe.refl _, ⟨Has.nil, (by rw [if_neg g14])⟩, rfl, rfl, trivial⟩
  · intro b4c1 σ_c1 H_c1 L_c1 ds_c1 s_c1 hI_c1
    obtain ⟨hLc1, hTc1⟩ := hI_c1
    refine T.has hLc1 ?_
    refine T.seq ?_
    refine T.cutK (ι := Bool) (fun b4c2 H' L' ds' => Has L' [] ∧ (if b4c1 = true then ((alloc_all_Slot_m a0.2.1 ((fun z0 z1 => alloc_Check_1_m z0 z1)))) else false : Bool) = b4c2) (fun b4c2 => [(1, .pointer (some ⟨b1, 0, none⟩)), (4, .bool (b4c2))]) ?_ ?_
    · refine T.region ?_
      refine R.mvE rfl (by conv => lhs; whnf) ?_
      refine R.mvE rfl (by conv => lhs; whnf) ?_
      refine TL.gsplit 38 rfl (fun g38 => ?_) (fun g38 => ?_)
      · refine R.fldA Tryd.underlying25 rfl Tryd.sizeOf22 (by decide) rfl rfl ?_
        refine R.ldH Tryd.isAgg22 rfl rfl (s_c1 _ _ hb1_1) rfl ?_
        refine R.callv rfl rfl rfl (alloc_all_Slot_c _ _ a0.2.1 (ha0_1.mono (sb1_1.trans s_c1)) _ (fun z0 z1 => alloc_Check_1_m z0 z1) (fun H2 h2 z0 z1 => alloc_Check_1_c H2 (h2 _ _ ((sb1_1.trans s_c1) _ _ hG0)) z0 z1)) ?_
        refine R.pkTE rfl rfl (by conv => lhs; whnf) ?_
        refine R.asE rfl (by conv => lhs; whnf) ?_
        refine TL.nil (Post.thnN ?_)
        exact ⟨(alloc_all_Slot_m a0.2.1 ((fun z0 z1 => alloc_Check_1_m z0 z1))), HLe.refl _, ⟨Has.nil, (by rw [if_t g38])⟩, rfl, rfl, trivial⟩
      · refine TL.off rfl rfl rfl ?_
        refine TL.off rfl rfl rfl ?_
        refine TL.off rfl rfl rfl ?_
        refine R.pkFE rfl rfl (by conv => lhs; whnf) ?_
        refine R.asE rfl (by conv => lhs; whnf) ?_
        refine TL.nil (Post.thnN ?_)
        exact ⟨false, HLe.refl _, ⟨Has.nil, (by rw [if_f g38])⟩, rfl, rfl, trivial⟩
    · intro b4c2 σ_c2 H_c2 L_c2 ds_c2 s_c2 hI_c2
      obtain ⟨hLc2, hTc2⟩ := hI_c2
      refine T.has hLc2 ?_
      refine T.seq ?_
      refine T.seq ?_
      refine T.region ?_
      refine R.mvE rfl (by conv => lhs; whnf) ?_
      refine R.not rfl rfl ?_
      refine TL.nil (Post.thnN ?_)
      refine T.cond rfl (fun c44 => ?_) (fun c44 => ?_)
      · refine T.set 44 (.bool true) (congrArg Value.bool c44) ?_
        refine T.seq ?_
        refine T.region ?_
        refine R.asE rfl (by conv => lhs; whnf) ?_
        refine TL.nil (Post.thnN ?_)
        refine T.has Has.nil ?_
        refine T.ret (Post.thnR ?_)
        have hM : alloc_Check_m a0 = 120 := by rw [alloc_Check_m, hTc1, LR.seq_go, hTc2, LR.seq_go, if_t c44]
        exact fin1L (v := .int .i64 120) [] rfl rfl (List.Sublist.refl _) ⟨rfl, by first | rw [hM] | rfl⟩
      · refine T.set 44 (.bool false) (congrArg Value.bool c44) ?_
        refine T.skip (Post.thnN ?_)
        refine T.seq ?_
        refine T.region ?_
        refine R.asE rfl (by conv => lhs; whnf) ?_
        refine TL.nil (Post.thnN ?_)
        refine T.seq ?_
        refine T.seq ?_
        refine T.region ?_
        refine R.fldA Tryd.underlying25 rfl Tryd.sizeOf22 (by decide) rfl rfl ?_
        refine R.ldH Tryd.isAgg22 rfl rfl ((s_c1.trans s_c2) _ _ hb1_1) rfl ?_
        refine R.len Tryd.underlying22 rfl rfl ?_
        refine R.mvE rfl (by conv => lhs; whnf) ?_
        refine TL.nil (Post.thnN ?_)
        refine T.block ?_
        refine T.loop (ι := Nat × Value × (List Int) × Chunk) (fun ⟨kl3, v5l3, x5l3, c5l3⟩ H' L' ds' => kl3 ≤ a0.2.1.length ∧ Has L' [c5l3] ∧ OwnS (intE .i64) 3 H' v5l3 x5l3 c5l3 ∧ x5l3.length ≤ kl3 ∧ alloc_Check_l3 (a0.2.1.drop kl3) kl3 x5l3 = alloc_Check_l3 a0.2.1 0 []) (fun ⟨kl3, v5l3, x5l3, c5l3⟩ => [(48, .int .i64 (kl3 : Int)), (1, .pointer (some ⟨b1, 0, none⟩)), (5, v5l3), (46, .slice Aa0_1 a0.2.1.length ca0_1), (47, .int .i64 (a0.2.1.length : Int))]) (fun ⟨kl3, v5l3, x5l3, c5l3⟩ => a0.2.1.length - kl3) (0, .slice none 0 0, [], []) ?_ ?_ ?_
        · exact ⟨(by omega), (Has.none Has.nil), OwnS.nil, (by first | omega | (simp; done) | (simp; omega) | (simp at *; omega)), (by rfl)⟩
        · exact ⟨rfl, rfl, rfl, rfl, rfl, trivial⟩
        · intro ⟨kl3, v5l3, x5l3, c5l3⟩ σ_l3 H_l3 L_l3 ds_l3 s_l3 hI_l3
          obtain ⟨hkl3, hI_l3⟩ := hI_l3
          obtain ⟨hLl3, w5l3, hBl3_0, hQl3⟩ := hI_l3
          obtain ⟨A5l3, p5l3, rfl, m5l3, n5l3_⟩ := OwnS.shape w5l3
          refine T.has hLl3 ?_
          refine T.seq ?_
          refine T.region ?_
          refine R.lss rfl rfl rfl ?_
          refine TL.nil (Post.thnN ?_)
          refine T.seq ?_
          refine T.condD rfl (fun c49 => ?_) (fun c49 => ?_)
          · have hltl3 : kl3 < a0.2.1.length := by omega
            obtain ⟨yl3, hyl3⟩ := getk (xs := a0.2.1) (k := kl3) (by omega)
            refine T.skip (Post.thnN ?_)
            refine T.seq ?_
            refine T.block ?_
            refine T.seq ?_
            refine T.region ?_
            refine R.mvE rfl (by conv => lhs; whnf) ?_
            obtain ⟨b51, o51, i51, k51⟩ := RdS.elem (ha0_1.mono (sb1_1.trans (s_c1.trans (s_c2.trans s_l3)))) hyl3
            obtain ⟨l51, g51, k51⟩ := k51
            obtain rfl : l51 = [.int .i64 (yl3.1), .bool (yl3.2)] := g51
            refine R.ixp Tryd.underlying22 Tryd.sizeOf101 rfl rfl rfl (by omega) i51 ?_
            refine R.ldK (l := [.int .i64 (yl3.1), .bool (yl3.2)]) Tryd.isAgg101 Tryd.sizeOf101 rfl rfl k51 rfl ?_
            refine R.alloc Tryd.zeroValue101 rfl ?_
            intro b7
            refine R.asE rfl (by conv => lhs; whnf) ?_
            refine R.stX (old := [.int .i64 0, .bool false]) (l := [.int .i64 (yl3.1), .bool (yl3.2)]) (new := [.int .i64 (yl3.1), .bool (yl3.2)]) (et := 101) Tryd.sizeOf101 rfl rfl rfl rfl rfl (by show 0 + 2 ≤ 2; decide) rfl (all_one rfl) .hd ?_
            refine TL.shut .hd ?_
            intro Hb7_2 sb7_2 qb7_2
            have hb7_2 : Hb7_2 b7 = some (.cells #[.int .i64 (yl3.1), .bool (yl3.2)] 101) := shut1 qb7_2
            refine TL.nil (Post.thnN ?_)
            refine T.seq ?_
            refine T.region ?_
            refine R.ldXH (cs := [.int .i64 (yl3.1), .bool (yl3.2)]) (l := [.int .i64 (yl3.1), .bool (yl3.2)]) Tryd.isAgg101 Tryd.sizeOf101 rfl rfl hb7_2 rfl rfl ?_
            refine R.callv rfl rfl rfl (alloc_usable_c _ yl3) ?_
            refine TL.nil (Post.thnN ?_)
            refine T.cond rfl (fun c54 => ?_) (fun c54 => ?_)
            · refine T.set 54 (.bool true) (congrArg Value.bool c54) ?_
              refine T.region ?_
              refine R.mvE rfl (by conv => lhs; whnf) ?_
              refine R.mvE rfl (by conv => lhs; whnf) ?_
              refine R.addI rfl rfl rfl (by omega) ?_
              refine R.bs rfl (run_buildSlice1 Tryd.underlying23 Tryd.sizeOf3 Tryd.zeroValue3 rfl rfl) ?_
              intro b58
              have w58 : OwnS (intE .i64) 3 Hb7_2 (.slice (some ⟨b58, 0, none⟩) 1 1) [((kl3 : Int) + 1)] [(b58, .cells #[.int .i64 ((kl3 : Int) + 1)] 3)] := OwnS.lit (xs := [((kl3 : Int) + 1)]) (cellsOf_cons (a := [.int .i64 ((kl3 : Int) + 1)]) rfl cellsOf_nil) (by show 1 ≤ maxLen; decide)
              obtain ⟨k59, y59, r59⟩ := Src.ownA w58
              refine R.app (E := (intE .i64)) (e := 3) (xs := x5l3) (ys := [((kl3 : Int) + 1)]) Tryd_ty23 rfl rfl rfl (OwnS.mono w5l3 sb7_2) (.tl .hd) (r59 _ .hd) y59 (by (try simp only [List.length_append, List.length_cons, List.length_nil, List.length_replicate, List.length_take, List.length_drop]); omega) (by (try simp only [List.length_append, List.length_cons, List.length_nil, List.length_replicate, List.length_take, List.length_drop]); omega) ?_
              intro v59 c59 w59
              obtain ⟨A59, p59, rfl, m59, n59⟩ := OwnS.shape w59
              refine TL.del (.tl .hd) ?_
              refine R.asE rfl (by conv => lhs; whnf) ?_
              refine TL.nil (Post.blkN ?_)
              refine id (Post.thnN ?_)
              refine T.region ?_
              refine R.addI rfl rfl rfl (by omega) ?_
              refine R.mvE rfl (by conv => lhs; whnf) ?_
              refine TL.nil (Post.thnN ?_)
              exact ⟨(kl3 + 1, .slice A59 (x5l3 ++ [((kl3 : Int) + 1)]).length p59, (x5l3 ++ [((kl3 : Int) + 1)]), c59), (s_l3.trans sb7_2), ⟨(by omega), (Has.cons .hd Has.nil), w59, (by first | omega | (simp; done) | (simp; omega) | (simp at *; omega)), (by rw [← hQl3, drop_cons hyl3, alloc_Check_l3]; rw [if_t c54])⟩, by show a0.2.1.length - (kl3 + 1) < a0.2.1.length - kl3; omega, rfl, rfl, rfl, rfl, rfl, trivial⟩
            · refine T.set 54 (.bool false) (congrArg Value.bool c54) ?_
              refine T.skip (Post.blkN ?_)
              refine id (Post.thnN ?_)
              refine T.region ?_
              refine R.addI rfl rfl rfl (by omega) ?_
              refine R.mvE rfl (by conv => lhs; whnf) ?_
              refine TL.nil (Post.thnN ?_)
              exact ⟨(kl3 + 1, .slice A5l3 x5l3.length p5l3, x5l3, c5l3), (s_l3.trans sb7_2), ⟨(by omega), (Has.cons .hd Has.nil), (OwnS.mono w5l3 sb7_2), (by first | omega | (simp; done) | (simp; omega) | (simp at *; omega)), (by rw [← hQl3, drop_cons hyl3, alloc_Check_l3]; rw [if_f c54])⟩, by show a0.2.1.length - (kl3 + 1) < a0.2.1.length - kl3; omega, rfl, rfl, rfl, rfl, rfl, trivial⟩
          · refine T.exit (Post.thnE (Post.thnE (Post.blkX ?_)))
            have hEl3 : alloc_Check_l3 a0.2.1 0 [] = x5l3 := (hQl3.symm.trans (by rw [show kl3 = a0.2.1.length by omega, List.drop_length, alloc_Check_l3]))
            refine id (Post.thnN ?_)
            refine T.seq ?_
            refine T.seq ?_
            refine T.region ?_
            refine R.fldA Tryd.underlying25 rfl Tryd.sizeOf23 (by decide) rfl rfl ?_
            refine R.ldH Tryd.isAgg23 rfl rfl ((s_c1.trans (s_c2.trans s_l3)) _ _ hb1_1) rfl ?_
            obtain ⟨r63, er63⟩ : ∃ r, r = (slices_Values_int_m a0.2.2) := ⟨_, rfl⟩
            refine R.callp rfl rfl rfl (slices_Values_int_c _ _ a0.2.2 (ha0_2.mono (sb1_1.trans (s_c1.trans (s_c2.trans s_l3))))) ?_
            intro v63 H63 s63 q63
            rw [← er63] at q63
            obtain ⟨u63_0_0, rfl, w63_0_0⟩ := q63
            have t63 := congrArg List.length (er63.trans (slices_Values_int_eq _))
            obtain ⟨r64, er64⟩ : ∃ r, r = (slices_Sorted_int_m r63) := ⟨_, rfl⟩
            refine TL.call [] rfl rfl rfl (slices_Sorted_int_c _ _ _ r63 (enters_of Tryd.func111 (by kernel_rfl) rfl) w63_0_0 (by first | omega | (simp; done) | (simp; omega) | (simp at *; omega))) ?_
            intro v64 H64 L64 s64 q64
            rw [← er64] at q64
            obtain ⟨u64_0_0, c64_0_0, rfl, rfl, w64_0_0⟩ := q64
            obtain ⟨A64_0_0, p64_0_0, rfl, m64_0_0, n64_0_0⟩ := OwnS.shape w64_0_0
            have t64 : r64.length ≤ 4000000 := by rw [er64, slices_Sorted_int_eq, (sortI_perm _).length_eq]; omega
            refine R.mvE rfl (by conv => lhs; whnf) ?_
            refine TL.shut .hd ?_
            intro HF64_0_0_3 sF64_0_0_3 qF64_0_0_3
            have fF64_0_0_3 := OwnS.read w64_0_0 sF64_0_0_3 qF64_0_0_3
            refine TL.shut .hd ?_
            intro HF5l3_4 sF5l3_4 qF5l3_4
            have fF5l3_4 := OwnS.read (OwnS.mono w5l3 (s63.trans (s64.trans sF64_0_0_3))) sF5l3_4 qF5l3_4
            refine R.callv rfl rfl rfl (slices_Equal_int_d _ _ r64 (fF64_0_0_3.mono sF5l3_4) _ x5l3 fF5l3_4) ?_
            refine R.notD rfl rfl ?_
            refine TL.nil (Post.thnN ?_)
            refine T.condD rfl (fun c67 => ?_) (fun c67 => ?_)
            · refine T.set 67 (.bool true) (congrArg Value.bool (decide_eq_true c67)) ?_
              refine T.seq ?_
              refine T.region ?_
              refine R.asE rfl (by conv => lhs; whnf) ?_
              refine TL.nil (Post.thnN ?_)
              refine T.has Has.nil ?_
              refine T.ret (Post.thnR ?_)
              have hM : alloc_Check_m a0 = 120 := by subst er64; subst er63; rw [alloc_Check_m, hTc1, LR.seq_go, hTc2, LR.seq_go, if_f c44, hEl3, LR.seq_go, LR.seq_go, LR.seq_go, if_pos c67]
              exact fin1L (v := .int .i64 120) [] rfl rfl (List.Sublist.refl _) ⟨rfl, by first | rw [hM] | rfl⟩
            · refine T.set 67 (.bool false) (congrArg Value.bool (decide_eq_false c67)) ?_
              refine T.skip (Post.thnN ?_)
              refine T.seq ?_
              refine T.region ?_
              refine R.asE rfl (by conv => lhs; whnf) ?_
              refine TL.nil (Post.thnN ?_)
              refine T.has Has.nil ?_
              refine T.ret ?_
              have hM : alloc_Check_m a0 = 0 := by subst er64; subst er63; rw [alloc_Check_m, hTc1, LR.seq_go, hTc2, LR.seq_go, if_f c44, hEl3, LR.seq_go, LR.seq_go, LR.seq_go, if_neg c67]
              exact fin1L (v := .int .i64 0) [] rfl rfl (List.Sublist.refl _) ⟨rfl, by first | rw [hM] | rfl⟩

def alloc_Same_m (a0 : Int × (List (Int × Bool)) × (List Int)) (a1 : Int × (List (Int × Bool)) × (List Int)) : Bool :=
  if a0.1 = a1.1 then (if a0.2.1 = a1.2.1 then ((decide (a0.2.2 = a1.2.2))) else false) else false
def alloc_alive_m (a0 : Int × (List (Int × Bool)) × (List Int)) (a1 : Int) : Bool :=
  if ((kindG a1) : Int) ≠ 1 then false else (LR.seq (ident_Parts_m a1) (fun r12 => if r12.1 ≤ (a0.2.1.length : Int) then ((decide (((a0.2.1.getD (((r12.1 - 1)).toNat) (((0, false) : Int × Bool) : Int × Bool)) : Int × Bool) = (r12.2, true)))) else false))
set_option maxHeartbeats 3200000 in
theorem alloc_alive_c (H : Heap) (a0 : Int × (List (Int × Bool)) × (List Int)) (va0_1 : Value) (ha0_1 : RdS slotE H va0_1 a0.2.1) (va0_2 : Value) (ha0_2 : RdS (intE .i64) H va0_2 a0.2.2) (a1 : Int) (hs : a0.2.1.length ≤ 2000000) (hf : a0.2.2.length ≤ 2000000) : Fv Tryd.prog (fnv 66) [.agg #[.int .i64 a0.1, va0_1, va0_2], .int .u64 a1] H (.bool (alloc_alive_m a0 a1)) := by
  refine Fc.of_body (N := 31) Tryd.func66 rfl (by kernel_rfl) rfl rfl ?_
  intro w0
  obtain ⟨Aa0_1, ca0_1, rfl, hca0_1, hda0_1, ha0_1⟩ := ha0_1.shape
  obtain ⟨Aa0_2, ca0_2, rfl, hca0_2, hda0_2, ha0_2⟩ := ha0_2.shape
  refine T.seq ?_
  refine T.region ?_
  refine R.box rfl (by conv => lhs; whnf) ?_
  intro b2
  refine R.asE rfl (by conv => lhs; whnf) ?_
  refine TL.shut .hd ?_
  intro Hb2_1 sb2_1 qb2_1
  have hb2_1 : Hb2_1 b2 = some (.cells #[.int .i64 (a0.1), .slice Aa0_1 a0.2.1.length ca0_1, .slice Aa0_2 a0.2.2.length ca0_2] 25) := shut1 qb2_1
  refine TL.nil (Post.thnN ?_)
  refine T.seq ?_
  refine T.seq ?_
  refine T.region ?_
  refine R.mvE rfl (by conv => lhs; whnf) ?_
  refine R.callv rfl rfl rfl (kindG_c _ a1) ?_
  refine R.neq rfl rfl rfl ?_
  refine TL.nil (Post.thnN ?_)
  refine T.condD rfl (fun c9 => ?_) (fun c9 => ?_)
  · refine T.set 9 (.bool true) (congrArg Value.bool (decide_eq_true c9)) ?_
    refine T.seq ?_
    refine T.region ?_
    refine R.asE rfl (by conv => lhs; whnf) ?_
    refine TL.nil (Post.thnN ?_)
    refine T.has Has.nil ?_
    refine T.ret (Post.thnR ?_)
    have hM : alloc_alive_m a0 a1 = false := by rw [alloc_alive_m, if_pos c9]
    exact fin1L (v := .bool false) [] rfl rfl (List.Sublist.refl _) ⟨rfl, by first | rw [hM] | rfl⟩
  · refine T.set 9 (.bool false) (congrArg Value.bool (decide_eq_false c9)) ?_
    have hki := kind1_idx (by omega : kindG a1 = 1)
    refine T.skip (Post.thnN ?_)
    refine T.seq ?_
    refine T.region ?_
    refine R.mvE rfl (by conv => lhs; whnf) ?_
    obtain ⟨r12, er12⟩ : ∃ r, r = (ident_Parts_m a1) := ⟨_, rfl⟩
    refine R.callv (v := .tuple #[.int .i64 r12.1, .int .i64 r12.2]) rfl rfl rfl (by rw [er12]; exact ident_Parts_c _ (a1)) ?_
    rw [← er12] at hki
    refine R.mvE rfl (by conv => lhs; whnf) ?_
    refine R.ext rfl rfl rfl ?_
    refine R.ext rfl rfl rfl ?_
    refine R.asE rfl (by conv => lhs; whnf) ?_
    refine R.asE rfl (by conv => lhs; whnf) ?_
    refine TL.nil (Post.thnN ?_)
    refine T.seq ?_
    refine T.region ?_
    refine R.mvE rfl (by conv => lhs; whnf) ?_
    refine R.fldA Tryd.underlying25 rfl Tryd.sizeOf22 (by decide) rfl rfl ?_
    refine R.ldH Tryd.isAgg22 rfl rfl hb2_1 rfl ?_
    refine R.len Tryd.underlying22 rfl rfl ?_
    refine R.leq rfl rfl rfl ?_
    refine R.mvE rfl (by conv => lhs; whnf) ?_
    refine TL.gsplitD 20 rfl (fun g20 => ?_) (fun g20 => ?_)
    · refine R.fldA Tryd.underlying25 rfl Tryd.sizeOf22 (by decide) rfl rfl ?_
      refine R.ldH Tryd.isAgg22 rfl rfl hb2_1 rfl ?_
      refine R.mvE rfl (by conv => lhs; whnf) ?_
      refine R.subI rfl rfl rfl (by omega) ?_
      have hl25 : ((r12.1 - 1)).toNat < a0.2.1.length := by first | omega | (simp; done) | (simp; omega) | (simp at *; omega)
      obtain ⟨y25, e25, h25⟩ : ∃ y, y = (a0.2.1.getD (((r12.1 - 1)).toNat) (((0, false) : Int × Bool) : Int × Bool)) ∧ a0.2.1[((r12.1 - 1)).toNat]? = some y := ⟨_, rfl, getD_get (by first | exact hl25 | simpa using hl25 | (rw [(sortI_perm _).length_eq]; exact hl25))⟩
      obtain ⟨b25, o25, i25, k25⟩ := RdS.elem (ha0_1.mono sb2_1) h25
      obtain ⟨l25, g25, k25⟩ := k25
      obtain rfl : l25 = [.int .i64 (y25.1), .bool (y25.2)] := g25
      refine R.ixp Tryd.underlying22 Tryd.sizeOf101 rfl rfl rfl (by first | omega | (simp; done) | (simp; omega) | (simp at *; omega)) i25 ?_
      refine R.ldK (l := [.int .i64 (y25.1), .bool (y25.2)]) Tryd.isAgg101 Tryd.sizeOf101 rfl rfl k25 rfl ?_
      refine R.mvE rfl (by conv => lhs; whnf) ?_
      refine R.bld (cs := [.int .i64 (r12.2), .bool true]) rfl (fun _ => by kernel_rfl) ?_
      refine R.eqG (a := (y25 : Int × Bool)) (b := ((r12.2, true) : Int × Bool)) (eqT101 9998 y25 ((r12.2, true))) eqG101 rfl rfl rfl ?_
      refine R.pkTE rfl rfl (by conv => lhs; whnf) ?_
      refine R.asE rfl (by conv => lhs; whnf) ?_
      refine TL.nil (Post.thnN ?_)
      refine T.has Has.nil ?_
      refine T.ret ?_
      have hM : alloc_alive_m a0 a1 = (decide ((y25 : Int × Bool) = (r12.2, true))) := by subst e25; subst er12; rw [alloc_alive_m, if_neg c9, LR.seq_go, if_pos g20]
      exact fin1L (v := .bool (decide ((y25 : Int × Bool) = (r12.2, true)))) [] rfl rfl (List.Sublist.refl _) ⟨rfl, by first | rw [hM] | rfl⟩
    · refine TL.off rfl rfl rfl ?_
      refine TL.off rfl rfl rfl ?_
      refine TL.off rfl rfl rfl ?_
      refine TL.off rfl rfl rfl ?_
      refine TL.off rfl rfl rfl ?_
      refine TL.off rfl rfl rfl ?_
      refine TL.off rfl rfl rfl ?_
      refine TL.off rfl rfl rfl ?_
      refine TL.off rfl rfl rfl ?_
      refine R.pkFE rfl rfl (by conv => lhs; whnf) ?_
      refine R.asE rfl (by conv => lhs; whnf) ?_
      refine TL.nil (Post.thnN ?_)
      refine T.has Has.nil ?_
      refine T.ret ?_
      have hM : alloc_alive_m a0 a1 = false := by subst er12; rw [alloc_alive_m, if_neg c9, LR.seq_go, if_neg g20]
      exact fin1L (v := .bool false) [] rfl rfl (List.Sublist.refl _) ⟨rfl, by first | rw [hM] | rfl⟩

def alloc_own_m (a0 : Int × (List (Int × Bool)) × (List Int)) : (Int × (List (Int × Bool)) × (List Int)) :=
  (a0.1, a0.2.1, a0.2.2)
set_option maxHeartbeats 3200000 in
theorem alloc_own_c (H : Heap) (a0 : Int × (List (Int × Bool)) × (List Int)) (va0_1 : Value) (ha0_1 : RdS slotE H va0_1 a0.2.1) (va0_2 : Value) (ha0_2 : RdS (intE .i64) H va0_2 a0.2.2) (hs : a0.2.1.length ≤ 2000000) (hf : a0.2.2.length ≤ 2000000) : Fc Tryd.prog (fnv 61) [.agg #[.int .i64 a0.1, va0_1, va0_2]] H [] (fun v' H' L' => ∃ u0_1 u0_2 c0_1 c0_2, v' = .agg #[.int .i64 (alloc_own_m a0).1, u0_1, u0_2] ∧ L' = [c0_1, c0_2] ∧ OwnS slotE 101 H' u0_1 (alloc_own_m a0).2.1 c0_1 ∧ OwnS (intE .i64) 3 H' u0_2 (alloc_own_m a0).2.2 c0_2) := by
  refine Fc.of_body (N := 19) Tryd.func61 rfl (by kernel_rfl) rfl rfl ?_
  intro w0
  obtain ⟨Aa0_1, ca0_1, rfl, hca0_1, hda0_1, ha0_1⟩ := ha0_1.shape
  obtain ⟨Aa0_2, ca0_2, rfl, hca0_2, hda0_2, ha0_2⟩ := ha0_2.shape
  refine T.seq ?_
  refine T.region ?_
  refine R.box rfl (by conv => lhs; whnf) ?_
  intro b1
  refine R.alloc Tryd.zeroValue25 rfl ?_
  intro b2
  refine TL.shut (.tl .hd) ?_
  intro Hb1_1 sb1_1 qb1_1
  have hb1_1 : Hb1_1 b1 = some (.cells #[.int .i64 (a0.1), .slice Aa0_1 a0.2.1.length ca0_1, .slice Aa0_2 a0.2.2.length ca0_2] 25) := shut1 qb1_1
  refine TL.nil (Post.thnN ?_)
  refine T.seq ?_
  refine T.region ?_
  refine R.fldA Tryd.underlying25 rfl Tryd.sizeOf22 (by decide) rfl rfl ?_
  refine R.ldH Tryd.isAgg22 rfl rfl hb1_1 rfl ?_
  refine R.len Tryd.underlying22 rfl rfl ?_
  refine R.mks (E := slotE) (q := a0.2.1.length) (z0 := ((((0, false) : Int × Bool) : Int × Bool))) (zc := [.int .i64 0, .bool false]) Tryd_ty22 (zcells_of (z := .agg #[.int .i64 0, .bool false]) (by kernel_rfl)) (fun _ => rfl) rfl rfl rfl (by omega) (by omega) ?_
  intro v7 c7 w7
  obtain ⟨A7, p7, rfl, m7, n7⟩ := w7.shape
  refine R.asE rfl (by conv => lhs; whnf) ?_
  refine TL.nil (Post.thnN ?_)
  refine T.seq ?_
  refine T.region ?_
  refine R.mvE rfl (by conv => lhs; whnf) ?_
  refine R.fldA Tryd.underlying25 rfl Tryd.sizeOf22 (by decide) rfl rfl ?_
  refine R.ldH Tryd.isAgg22 rfl rfl hb1_1 rfl ?_
  obtain ⟨k11, y11, r11⟩ := Src.rdA (ha0_1.mono sb1_1)
  refine R.copyD (v := (.slice A7 (List.replicate a0.2.1.length ((((0, false) : Int × Bool) : Int × Bool))).length p7)) Tryd_ty22 rfl rfl rfl w7 .hd (r11 _) y11 (by simp) ?_
  intro cm71 wm71
  refine TL.nil (Post.thnN ?_)
  refine T.seq ?_
  refine T.draw Tryd_mixed (by kernel_rfl) ?_
  refine Plan.v 0 [1, 2, 3, 4, 5, 6, 7] (by kernel_rfl) (by kernel_rfl) (by kernel_rfl) (by kernel_rfl) rfl (fun _ _ h_ => R.fldA Tryd.underlying25 rfl Tryd.sizeOf3 (by decide) rfl rfl (TL.nil h_)) ?_
  refine Plan.v 1 [2, 3, 4, 5, 6, 7] (by kernel_rfl) (by kernel_rfl) (by kernel_rfl) (by kernel_rfl) rfl (fun _ _ h_ => R.ldH Tryd.isAgg3 rfl rfl hb1_1 rfl (TL.nil h_)) ?_
  refine Plan.v 2 [3, 4, 5, 6, 7] (by kernel_rfl) (by kernel_rfl) (by kernel_rfl) (by kernel_rfl) rfl (fun _ _ h_ => R.mvE rfl (by conv => lhs; whnf) (TL.nil h_)) ?_
  refine Plan.v 3 [4, 5, 6, 7] (by kernel_rfl) (by kernel_rfl) (by kernel_rfl) (by kernel_rfl) rfl (fun _ _ h_ => R.fldA Tryd.underlying25 rfl Tryd.sizeOf23 (by decide) rfl rfl (TL.nil h_)) ?_
  refine Plan.v 4 [5, 6, 7] (by kernel_rfl) (by kernel_rfl) (by kernel_rfl) (by kernel_rfl) rfl (fun _ _ h_ => R.ldH Tryd.isAgg23 rfl rfl hb1_1 rfl (TL.nil h_)) ?_
  refine Plan.s1 5 [6, 7] (by kernel_rfl) (by kernel_rfl) rfl ?_
  refine TL.call [] rfl rfl rfl (clone23_c _ _ a0.2.2 (ha0_2.mono sb1_1) (by first | omega | (simp; done) | (simp; omega) | (simp at *; omega))) ?_
  intro v17 H17 L17 s17 q17
  obtain ⟨c17, rfl, w17⟩ := q17
  obtain ⟨x17, e17⟩ : ∃ x, x = a0.2.2 := ⟨_, rfl⟩
  rw [← e17] at w17
  obtain ⟨A17, p17, rfl, m17, n17⟩ := OwnS.shape w17
  have t17 : x17.length = a0.2.2.length := by rw [e17]
  refine TL.nil (Plan.e1 (s17) ?_)
  refine Plan.v 6 [7] (by kernel_rfl) (by kernel_rfl) (by kernel_rfl) (by kernel_rfl) rfl (fun _ _ h_ => R.bld (cs := [.int .i64 (a0.1), .slice A7 (List.replicate a0.2.1.length ((((0, false) : Int × Bool) : Int × Bool))).length p7, .slice A17 x17.length p17]) rfl (fun _ => by kernel_rfl) (TL.nil h_)) ?_
  refine Plan.s1 7 [] (by kernel_rfl) (by kernel_rfl) rfl ?_
  refine R.stX (old := [.int .i64 0, .slice none 0 0, .slice none 0 0]) (l := [.int .i64 (a0.1), .slice A7 (List.replicate a0.2.1.length ((((0, false) : Int × Bool) : Int × Bool))).length p7, .slice A17 x17.length p17]) (new := [.int .i64 (a0.1), .slice A7 (List.replicate a0.2.1.length ((((0, false) : Int × Bool) : Int × Bool))).length p7, .slice A17 x17.length p17]) (et := 25) Tryd.sizeOf25 rfl rfl rfl rfl rfl (by show 0 + 3 ≤ 3; decide) rfl (all_one rfl) (.tl (.tl .hd)) ?_
  refine TL.nil (Plan.e0 (HLe.refl _) ?_)
  refine Plan.done (Post.thnN ?_)
  refine T.has (Has.cons (.tl .hd) (Has.cons .hd (Has.cons .hd Has.nil))) ?_
  refine T.ret ?_
  have hM : alloc_own_m a0 = (a0.1, a0.2.1, x17) := by subst e17; rw [alloc_own_m]
  exact finR1 (v := .agg #[.int .i64 (a0.1), .slice A7 (List.replicate a0.2.1.length ((((0, false) : Int × Bool) : Int × Bool))).length p7, .slice A17 x17.length p17]) [cm71, c17] rfl (.cellA (cs := [.int .i64 (a0.1), .slice A7 (List.replicate a0.2.1.length ((((0, false) : Int × Bool) : Int × Bool))).length p7, .slice A17 x17.length p17]) (l := [.int .i64 (a0.1), .slice A7 (List.replicate a0.2.1.length ((((0, false) : Int × Bool) : Int × Bool))).length p7, .slice A17 x17.length p17]) Tryd.isAgg25 Tryd.sizeOf25 rfl (.tl (.tl .hd)) rfl rfl) (List.sublist_append_left ([cm71, c17] : Own) _) ⟨.slice A7 (List.replicate a0.2.1.length ((((0, false) : Int × Bool) : Int × Bool))).length p7, .slice A17 x17.length p17, cm71, c17, by first | rw [hM] | rfl, rfl, by rw [hM]; exact (OwnS.mono wm71 s17), by rw [hM]; exact w17⟩

theorem alloc_own_eq (a : Int × (List (Int × Bool)) × (List Int)) : alloc_own_m a = a := rfl
def windroselaw02_own_m (a0 : Int × (List (Int × Bool)) × (List Int)) : (Int × (List (Int × Bool)) × (List Int)) :=
  (a0.1, (a0.2.1.take ((min a0.2.1.length 40))), (a0.2.2.take ((min a0.2.2.length 40))))
def windroselaw02_spoil_l2  : Nat → Nat → (Int × (List (Int × Bool)) × (List Int)) → Int × (List (Int × Bool)) × (List Int)
  | 0, kl2, sl2 => (sl2.1, sl2.2.1, sl2.2.2)
  | ml2 + 1, kl2, sl2 => windroselaw02_spoil_l2 ml2 (kl2 + 1) ((sl2.1, sl2.2.1, (sl2.2.2.set kl2 ((IntKind.i64.wrap ((sl2.2.2.getD kl2 (0 : Int)) + 1))))))
def windroselaw02_spoil_l1  : Nat → Nat → (Int × (List (Int × Bool)) × (List Int)) → Int × (List (Int × Bool)) × (List Int)
  | 0, kl1, sl1 => (sl1.1, sl1.2.1, sl1.2.2)
  | ml1 + 1, kl1, sl1 => windroselaw02_spoil_l1 ml1 (kl1 + 1) ((sl1.1, (sl1.2.1.set kl1 (((IntKind.i64.wrap ((sl1.2.1.getD kl1 (((0, false) : Int × Bool) : Int × Bool)).1 + 1)), (sl1.2.1.getD kl1 (((0, false) : Int × Bool) : Int × Bool)).2))), sl1.2.2))
def windroselaw02_spoil_m (a0 : Int × (List (Int × Bool)) × (List Int)) : Unit :=
  LR.seq (windroselaw02_spoil_l1 (a0.2.1.length - 0) 0 ((a0.1, a0.2.1, a0.2.2))) (fun ol1 => LR.seq (windroselaw02_spoil_l2 (ol1.2.2.length - 0) 0 ((ol1.1, ol1.2.1, ol1.2.2))) (fun ol2 => ()))
def windroseref02_alive_l1  : List (Int × Bool) → Int → Int
  | [], sl1 => sl1
  | yl1 :: ysl1, sl1 => if yl1.2 = true then (windroseref02_alive_l1 ysl1 ((IntKind.i64.wrap (sl1 + 1)))) else (windroseref02_alive_l1 ysl1 sl1)
def windroseref02_alive_m (a0 : Int × (List (Int × Bool)) × (List Int)) : Int :=
  LR.seq (windroseref02_alive_l1 a0.2.1 (-2)) (fun ol1 => ol1)
def windroseref02_times_l1 (a1 : Int) : List Int → Int → Int
  | [], sl1 => sl1
  | yl1 :: ysl1, sl1 => if yl1 = a1 then (windroseref02_times_l1 a1 ysl1 ((IntKind.i64.wrap (sl1 + 1)))) else (windroseref02_times_l1 a1 ysl1 sl1)
def windroseref02_times_m (a0 : List Int) (a1 : Int) : Int :=
  LR.seq (windroseref02_times_l1 a1 a0 0) (fun ol1 => ol1)
def windroseref02_Right_l2 (a0 : Int × (List (Int × Bool)) × (List Int)) : List (Int × Bool) → Nat → Int → LR (Bool) (Int)
  | [], kl2, sl2 => .go sl2
  | yl2 :: ysl2, kl2, sl2 => LR.seq (if yl2.1 < 0 then true else (if (7 : Int) < yl2.1 then true else (if (kl2 : Int) < 2 then ((decide ((yl2 : Int × Bool) ≠ ((0, true) : Int × Bool)))) else false)) : Bool) (fun sc3 => if sc3 = true then (.ret false) else (LR.seq (if (!yl2.2) = true then ((decide (yl2.1 < 7))) else false : Bool) (fun sc4 => LR.seq (if sc4 = true then (((IntKind.i64.wrap (sl2 + 1)), 1)) else ((sl2, 0)) : Int × Int) (fun sc5 => if ((windroseref02_times_m a0.2.2 (((kl2 : Int) + 1))) : Int) ≠ sc5.2 then (.ret false) else (windroseref02_Right_l2 a0 ysl2 (kl2 + 1) sc5.1)))))
def windroseref02_Right_m (a0 : Int × (List (Int × Bool)) × (List Int)) : Bool :=
  LR.seq (if a0.1 < 1 then true else (if (1048576 : Int) < a0.1 then true else (if (a0.2.1.length : Int) < 2 then true else (if ((IntKind.i64.wrap (a0.1 + 2)) : Int) < (a0.2.1.length : Int) then true else ((decide (a0.1 < (windroseref02_alive_m a0))))))) : Bool) (fun sc1 => if sc1 = true then false else (LR.on (windroseref02_Right_l2 a0 a0.2.1 0 0) (fun r => r) (fun ol2 => (decide ((a0.2.2.length : Int) = ol2)))))
def windroseref02_Same_l3 (a1 : Int × (List (Int × Bool)) × (List Int)) : List Int → Nat → Unit → LR (Bool) (Unit)
  | [], kl3, sl3 => .go ()
  | yl3 :: ysl3, kl3, sl3 => if yl3 ≠ (a1.2.2.getD kl3 (0 : Int)) then (.ret false) else (windroseref02_Same_l3 a1 ysl3 (kl3 + 1) ())
def windroseref02_Same_l2 (a1 : Int × (List (Int × Bool)) × (List Int)) : List (Int × Bool) → Nat → Unit → LR (Bool) (Unit)
  | [], kl2, sl2 => .go ()
  | yl2 :: ysl2, kl2, sl2 => if (yl2 : Int × Bool) ≠ (a1.2.1.getD kl2 (((0, false) : Int × Bool) : Int × Bool)) then (.ret false) else (windroseref02_Same_l2 a1 ysl2 (kl2 + 1) ())
def windroseref02_Same_m (a0 : Int × (List (Int × Bool)) × (List Int)) (a1 : Int × (List (Int × Bool)) × (List Int)) : Bool :=
  LR.seq (if a0.1 ≠ a1.1 then true else (if (a0.2.1.length : Int) ≠ (a1.2.1.length : Int) then true else ((decide ((a0.2.2.length : Int) ≠ (a1.2.2.length : Int))))) : Bool) (fun sc1 => if sc1 = true then false else (LR.on (windroseref02_Same_l2 a1 a0.2.1 0 ()) (fun r => r) (fun ol2 => LR.on (windroseref02_Same_l3 a1 a0.2.2 0 ()) (fun r => r) (fun ol3 => true))))
def windroseref02_New_m (a0 : Int) : (Int × (List (Int × Bool)) × (List Int)) :=
  ((a0, [((0, true) : Int × Bool), ((0, true) : Int × Bool)], []) : Int × (List (Int × Bool)) × (List Int))
def windroseref02_Entity_m (a0 : Int) (a1 : Int) : Int :=
  (IntKind.u64.wrap ((IntKind.u64.wrap a0) + (bshl .u64 (IntKind.u64.wrap a1) 32)))
def windroseref02_Is_l1 (a1 : Int) : List (Int × Bool) → Nat → Unit → LR (Bool) (Unit)
  | [], kl1, sl1 => .go ()
  | yl1 :: ysl1, kl1, sl1 => LR.seq (if yl1.2 = true then ((decide (((windroseref02_Entity_m (((kl1 : Int) + 1)) yl1.1) : Int) = a1))) else false : Bool) (fun sc2 => if sc2 = true then (.ret true) else (windroseref02_Is_l1 a1 ysl1 (kl1 + 1) ()))
def windroseref02_Is_m (a0 : Int × (List (Int × Bool)) × (List Int)) (a1 : Int) : Bool :=
  LR.on (windroseref02_Is_l1 a1 a0.2.1 0 ()) (fun r => r) (fun ol1 => false)
def windroseref02_Room_m (a0 : Int × (List (Int × Bool)) × (List Int)) : Int :=
  if ((IntKind.i64.wrap ((IntKind.i64.wrap ((IntKind.i64.wrap ((a0.2.2.length : Int) + a0.1)) + 2)) - (a0.2.1.length : Int))) : Int) < (IntKind.i64.wrap (a0.1 - (windroseref02_alive_m a0))) then ((IntKind.i64.wrap ((IntKind.i64.wrap ((IntKind.i64.wrap ((a0.2.2.length : Int) + a0.1)) + 2)) - (a0.2.1.length : Int)))) else ((IntKind.i64.wrap (a0.1 - (windroseref02_alive_m a0))))
def windroseref02_All_l1  : List (Int × Bool) → Nat → ((List Int)) → (List Int)
  | [], kl1, sl1 => sl1
  | yl1 :: ysl1, kl1, sl1 => if yl1.2 = true then (windroseref02_All_l1 ysl1 (kl1 + 1) ((sl1 ++ [(windroseref02_Entity_m (((kl1 : Int) + 1)) yl1.1)]))) else (windroseref02_All_l1 ysl1 (kl1 + 1) sl1)
def windroseref02_All_m (a0 : Int × (List (Int × Bool)) × (List Int)) : (List Int) :=
  LR.seq (windroseref02_All_l1 a0.2.1 0 []) (fun ol1 => ol1)
end Go.SX

set_option linter.unusedVariables false
set_option linter.unusedSimpArgs false
namespace Go.SX
open Go
abbrev Sl2 := Int × Bool
abbrev Al := Int × List Sl2 × List Int
def useB (s : Sl2) : Bool := !s.2 && decide (s.1 < 7)
/-- the indexes that may be used again -/
def useL : List Sl2 → Nat → List Int
  | [], _ => []
  | y :: ys, k => if useB y then ((k : Int) + 1) :: useL ys (k + 1) else useL ys (k + 1)
def aliveN (l : List Sl2) : Nat := l.countP (fun s => s.2)
theorem aliveN_le (l : List Sl2) : aliveN l ≤ l.length := List.countP_le_length
theorem usable_eq (s : Sl2) : alloc_usable_m s = useB s := by
  unfold alloc_usable_m useB
  cases s.2 <;> simp
theorem check_l3 : ∀ (l : List Sl2) (k : Nat) (acc : List Int), alloc_Check_l3 l k acc = acc ++ useL l k
  | [], k, acc => by simp [alloc_Check_l3, useL]
  | y :: ys, k, acc => by
    rw [alloc_Check_l3, usable_eq, useL]
    cases h : useB y with
    | true => rw [if_pos rfl, if_pos rfl, check_l3 ys]; simp
    | false => rw [if_neg (by decide), if_neg (by decide), check_l3 ys]
theorem living_l1 : ∀ (l : List Sl2) (k : Nat), (alloc_living_1_l1 l k ()).length = aliveN l
  | [], k => rfl
  | y :: ys, k => by
    rw [alloc_living_1_l1]
    cases h : y.2 with
    | true => rw [if_pos rfl, List.length_cons, living_l1 ys]; simp [aliveN, h]
    | false => rw [if_neg (by decide), living_l1 ys]; simp [aliveN, h]
theorem many_r1 : ∀ (l : List (Int × Sl2)) (n : Int), -2 ≤ n → n + l.length ≤ 4000000 → alloc_many_r1 l n = n + l.length
  | [], n, _, _ => by simp [alloc_many_r1]
  | y :: ys, n, h1, h2 => by
    simp only [List.length_cons] at h2
    rw [alloc_many_r1, wrap_i64 (by omega) (by omega), many_r1 ys _ (by omega) (by omega)]
    simp only [List.length_cons]; omega
theorem many_eq {a : Al} (h : a.2.1.length ≤ 2000000) : alloc_many_m a = (aliveN a.2.1 : Int) - 2 := by
  have h0 := aliveN_le a.2.1
  unfold alloc_many_m alloc_living_m alloc_living_1_m
  simp only [LR.seq, List.append_nil]
  have hl := living_l1 a.2.1 0
  rw [many_r1 _ _ (by omega) (by rw [hl]; omega), hl]
  omega
theorem all_slot (f : Int → Sl2 → Bool) : ∀ (l : List Sl2) (k : Nat), (alloc_all_Slot_l1 f l k () = .go () ∧ ∀ i s, l[i]? = some s → f ((k + i : Nat) : Int) s = true) ∨ (alloc_all_Slot_l1 f l k () = .ret false ∧ ∃ i s, l[i]? = some s ∧ f ((k + i : Nat) : Int) s = false)
  | [], k => .inl ⟨rfl, fun i s h => by simp at h⟩
  | y :: ys, k => by
    rw [alloc_all_Slot_l1]
    cases h : f (k : Int) y with
    | false => exact .inr ⟨by rw [Bool.not_false, if_pos rfl], 0, y, rfl, by simpa using h⟩
    | true =>
      rw [Bool.not_true, if_neg (by decide)]
      rcases all_slot f ys (k + 1) with ⟨h1, h2⟩ | ⟨h1, i, s, h2, h3⟩
      · refine .inl ⟨h1, fun i s hs => ?_⟩
        cases i with
        | zero => simp at hs; subst hs; simpa using h
        | succ i => rw [show k + (i + 1) = k + 1 + i by omega]; exact h2 i s (by simpa using hs)
      · exact .inr ⟨h1, i + 1, s, by simpa using h2, by rw [show k + (i + 1) = k + 1 + i by omega]; exact h3⟩
theorem all_slot_m (f : Int → Sl2 → Bool) (l : List Sl2) : alloc_all_Slot_m l f = true ↔ ∀ i s, l[i]? = some s → f ((i : Nat) : Int) s = true := by
  unfold alloc_all_Slot_m
  rcases all_slot f l 0 with ⟨h1, h2⟩ | ⟨h1, i, s, h2, h3⟩
  · rw [h1, LR.on_go]; exact ⟨fun _ i s hs => by simpa using h2 i s hs, fun _ => rfl⟩
  · rw [h1, LR.on_ret]
    exact ⟨fun h => (by cases h), fun h => (by have := h i s h2; rw [Nat.zero_add] at h3; rw [h3] at this; cases this)⟩
/-- An allocator that may be. -/
structure Rt (a : Al) : Prop where
  m1 : 1 ≤ a.1
  m2 : a.1 ≤ 1048576
  n1 : 2 ≤ a.2.1.length
  n2 : (a.2.1.length : Int) ≤ a.1 + 2
  al : (aliveN a.2.1 : Int) - 2 ≤ a.1
  g : ∀ (i : Nat) (s : Sl2), a.2.1[i]? = some s → 0 ≤ s.1 ∧ s.1 ≤ 7 ∧ (i < 2 → s = (0, true))
  f : sortI a.2.2 = useL a.2.1 0
theorem check1_eq (i : Nat) (s : Sl2) : alloc_Check_1_m (i : Int) s = true ↔ 0 ≤ s.1 ∧ s.1 ≤ 7 ∧ (i < 2 → s = (0, true)) := by
  unfold alloc_Check_1_m
  by_cases h1 : 0 ≤ s.1
  · by_cases h2 : s.1 ≤ 7
    · by_cases h3 : (2 : Int) ≤ (i : Int)
      · simp only [h1, h2, h3, if_true]; simp; omega
      · simp only [h1, h2, h3, if_true, if_false, decide_eq_true_eq]; simp; omega
    · simp only [h1, h2, if_true, if_false]; simp
  · simp only [h1, if_false]; simp
theorem check_iff {a : Al} (hs : a.2.1.length ≤ 2000000) : (alloc_Check_m a = 0 ↔ Rt a) ∧ (alloc_Check_m a = 0 ∨ alloc_Check_m a = 120) := by
  unfold alloc_Check_m
  simp only [LR.seq]
  rw [many_eq hs]
  by_cases h1 : 1 ≤ a.1
  rotate_left
  · rw [if_neg h1]; simp only [Bool.false_eq_true, if_false, Bool.not_false, if_true]; exact ⟨⟨fun h => by omega, fun h => absurd h.m1 h1⟩, .inr (by first | trivial | rfl)⟩
  by_cases h2 : a.1 ≤ 1048576
  rotate_left
  · rw [if_pos h1, if_neg h2]; simp only [Bool.false_eq_true, if_false, Bool.not_false, if_true]; exact ⟨⟨fun h => by omega, fun h => absurd h.m2 h2⟩, .inr (by first | trivial | rfl)⟩
  by_cases h3 : (2 : Int) ≤ (a.2.1.length : Int)
  rotate_left
  · rw [if_pos h1, if_pos h2, if_neg h3]; simp only [Bool.false_eq_true, if_false, Bool.not_false, if_true]; exact ⟨⟨fun h => by omega, fun h => absurd h.n1 (by omega)⟩, .inr (by first | trivial | rfl)⟩
  rw [wrap_i64 (x := a.1 + 2) (by omega) (by omega)]
  by_cases h4 : (a.2.1.length : Int) ≤ a.1 + 2
  rotate_left
  · rw [if_pos h1, if_pos h2, if_pos h3, if_neg h4]; simp only [Bool.false_eq_true, if_false, Bool.not_false, if_true]; exact ⟨⟨fun h => by omega, fun h => absurd h.n2 h4⟩, .inr (by first | trivial | rfl)⟩
  by_cases h5 : (aliveN a.2.1 : Int) - 2 ≤ a.1
  rotate_left
  · rw [if_pos h1, if_pos h2, if_pos h3, if_pos h4]; simp only [h5, decide_false, Bool.false_eq_true, if_false, Bool.not_false, if_true]; exact ⟨⟨fun h => by omega, fun h => absurd h.al h5⟩, .inr (by first | trivial | rfl)⟩
  rw [if_pos h1, if_pos h2, if_pos h3, if_pos h4]
  simp only [h5, decide_true, if_true]
  cases h6 : alloc_all_Slot_m a.2.1 (fun z0 z1 => alloc_Check_1_m z0 z1) with
  | false =>
    rw [Bool.not_false, if_pos rfl]
    exact ⟨⟨fun h => by omega, fun h => by
      have := (all_slot_m (fun z0 z1 => alloc_Check_1_m z0 z1) a.2.1).2 (fun i s hi => (check1_eq i s).2 (h.g i s hi))
      rw [this] at h6; cases h6⟩, .inr (by first | trivial | rfl)⟩
  | true =>
    rw [Bool.not_true, if_neg (by decide), slices_Values_int_eq, slices_Sorted_int_eq, check_l3, List.nil_append]
    have hg : ∀ (i : Nat) (s : Sl2), a.2.1[i]? = some s → 0 ≤ s.1 ∧ s.1 ≤ 7 ∧ (i < 2 → s = (0, true)) := fun i s hi => (check1_eq i s).1 ((all_slot_m _ _).1 h6 i s hi)
    by_cases h7 : sortI a.2.2 = useL a.2.1 0
    · rw [if_neg (fun h => h h7)]; exact ⟨⟨fun _ => ⟨h1, h2, by omega, h4, h5, hg, h7⟩, fun _ => (by first | trivial | rfl)⟩, .inl (by first | trivial | rfl)⟩
    · rw [if_pos h7]; exact ⟨⟨fun h => by omega, fun h => absurd h.f h7⟩, .inr (by first | trivial | rfl)⟩
theorem useL_mem : ∀ (l : List Sl2) (k : Nat) (x : Int), x ∈ useL l k ↔ ∃ (i : Nat) (s : Sl2), l[i]? = some s ∧ useB s = true ∧ x = ((k + i : Nat) : Int) + 1
  | [], k, x => by simp [useL]
  | y :: ys, k, x => by
    have ih := useL_mem ys (k + 1) x
    have e : x ∈ useL (y :: ys) k ↔ (useB y = true ∧ x = (k : Int) + 1) ∨ x ∈ useL ys (k + 1) := by
      rw [useL]
      cases h : useB y <;> simp
    rw [e, ih]
    constructor
    · rintro (⟨h1, h2⟩ | ⟨i, s, h1, h2, h3⟩)
      · exact ⟨0, y, rfl, h1, by simpa using h2⟩
      · exact ⟨i + 1, s, by simpa using h1, h2, by rw [h3]; congr 2; omega⟩
    · rintro ⟨i, s, h1, h2, h3⟩
      cases i with
      | zero => simp at h1; subst h1; exact .inl ⟨h2, by simpa using h3⟩
      | succ i => exact .inr ⟨i, s, by simpa using h1, h2, by rw [h3]; congr 2; omega⟩
theorem useL_len : ∀ (l : List Sl2) (k : Nat), (useL l k).length ≤ l.length
  | [], k => by simp [useL]
  | y :: ys, k => by
    have := useL_len ys (k + 1)
    rw [useL]; split <;> simp <;> omega
theorem Rt.free {a : Al} (h : Rt a) {x : Int} : x ∈ a.2.2 ↔ ∃ (i : Nat) (s : Sl2), a.2.1[i]? = some s ∧ useB s = true ∧ x = (i : Int) + 1 := by
  rw [← (sortI_perm a.2.2).mem_iff, h.f, useL_mem]; simp only [Nat.zero_add]
theorem Rt.free_rng {a : Al} (h : Rt a) {x : Int} (hx : x ∈ a.2.2) : 1 ≤ x ∧ x ≤ a.2.1.length := by
  obtain ⟨i, s, h1, _, h2⟩ := h.free.1 hx
  have := (List.getElem?_eq_some_iff.1 h1).1
  omega
theorem Rt.flen {a : Al} (h : Rt a) : a.2.2.length ≤ a.2.1.length := by
  have h1 := (sortI_perm a.2.2).length_eq
  rw [h.f] at h1
  have := useL_len a.2.1 0
  omega
theorem alive_rng {a : Al} {x : Int} (h : alloc_alive_m a x = true) : 1 ≤ (ident_Parts_m x).1 ∧ (ident_Parts_m x).1 ≤ (a.2.1.length : Int) := by
  unfold alloc_alive_m at h
  split at h
  · cases h
  · rename_i h1
    have hk : kindG x = 1 := by omega
    simp only [LR.seq] at h
    split at h
    · rename_i h2; exact ⟨(kind1_idx hk).1, h2⟩
    · cases h
end Go.SX

set_option linter.unusedVariables false
set_option linter.unusedSimpArgs false
namespace Go.SX
open Go Go.Proofs

def alloc_all_Id_l1 (a1 : Int → Int → Bool) : List Int → Nat → Unit → LR (Bool) (Unit)
  | [], kl1, sl1 => .go ()
  | yl1 :: ysl1, kl1, sl1 => if (!(a1 ((kl1 : Int)) yl1)) = true then (.ret false) else (alloc_all_Id_l1 a1 ysl1 (kl1 + 1) ())
def alloc_all_Id_m (a0 : List Int) (a1 : Int → Int → Bool) : Bool :=
  LR.on (alloc_all_Id_l1 a1 a0 0 ()) (fun r => r) (fun ol1 => true)
set_option maxHeartbeats 3200000 in
theorem alloc_all_Id_c (H : Heap) (va0 : Value) (a0 : List Int) (ha0 : RdS (intE .u64) H va0 a0) (fa1 : Value) (a1 : Int → Int → Bool) (ha1 : ∀ H', HLe H H' → ∀ (z0 : Int) (z1 : Int), Fv Tryd.prog fa1 [.int .i64 z0, .int .u64 z1] H' (.bool (a1 z0 z1))) : Fv Tryd.prog (fnv 64) [va0, fa1] H (.bool (alloc_all_Id_m a0 a1)) := by
  refine Fc.of_body (N := 20) Tryd.func64 rfl (by kernel_rfl) rfl rfl ?_
  intro w0
  obtain ⟨Aa0, ca0, rfl, hca0, hda0, ha0⟩ := ha0.shape
  refine T.seq ?_
  refine T.region ?_
  refine R.asE rfl (by conv => lhs; whnf) ?_
  refine TL.nil (Post.thnN ?_)
  refine T.seq ?_
  refine T.seq ?_
  refine T.region ?_
  refine R.mvE rfl (by conv => lhs; whnf) ?_
  refine R.len Tryd.underlying29 rfl rfl ?_
  refine R.mvE rfl (by conv => lhs; whnf) ?_
  refine TL.nil (Post.thnN ?_)
  refine T.block ?_
  refine T.loop (ι := Nat) (fun kl1 H' L' ds' => kl1 ≤ a0.length ∧ Has L' [] ∧ alloc_all_Id_l1 a1 (a0.drop kl1) kl1 () = alloc_all_Id_l1 a1 a0 0 ()) (fun kl1 => [(9, .int .i64 (kl1 : Int)), (1, fa1), (7, .slice Aa0 a0.length ca0), (8, .int .i64 (a0.length : Int))]) (fun kl1 => a0.length - kl1) 0 ?_ ?_ ?_
  · exact ⟨(by omega), Has.nil, (by rfl)⟩
  · exact ⟨rfl, rfl, rfl, rfl, trivial⟩
  · intro kl1 σ_l1 H_l1 L_l1 ds_l1 s_l1 hI_l1
    obtain ⟨hkl1, hI_l1⟩ := hI_l1
    obtain ⟨hLl1, hQl1⟩ := hI_l1
    refine T.has hLl1 ?_
    refine T.seq ?_
    refine T.region ?_
    refine R.lss rfl rfl rfl ?_
    refine TL.nil (Post.thnN ?_)
    refine T.seq ?_
    refine T.condD rfl (fun c10 => ?_) (fun c10 => ?_)
    · have hltl1 : kl1 < a0.length := by omega
      obtain ⟨yl1, hyl1⟩ := getk (xs := a0) (k := kl1) (by omega)
      refine T.skip (Post.thnN ?_)
      refine T.seq ?_
      refine T.block ?_
      refine T.seq ?_
      refine T.region ?_
      refine R.mvE rfl (by conv => lhs; whnf) ?_
      obtain ⟨b12, o12, i12, k12⟩ := RdS.elem (ha0.mono s_l1) hyl1
      obtain ⟨l12, g12, k12⟩ := k12
      obtain rfl : l12 = [.int .u64 yl1] := g12
      refine R.ixp Tryd.underlying29 Tryd.sizeOf32 rfl rfl rfl (by omega) i12 ?_
      refine R.ldC Tryd.isAgg32 rfl rfl (k12 0 _ rfl) ?_
      refine R.asE rfl (by conv => lhs; whnf) ?_
      refine R.asE rfl (by conv => lhs; whnf) ?_
      refine TL.nil (Post.thnN ?_)
      refine T.seq ?_
      refine T.region ?_
      refine R.mvE rfl (by conv => lhs; whnf) ?_
      refine R.mvE rfl (by conv => lhs; whnf) ?_
      refine R.mvE rfl (by conv => lhs; whnf) ?_
      refine R.callv rfl rfl rfl (ha1 _ s_l1 ((kl1 : Int)) (yl1)) ?_
      refine R.not rfl rfl ?_
      refine TL.nil (Post.thnN ?_)
      refine T.cond rfl (fun c18 => ?_) (fun c18 => ?_)
      · refine T.set 18 (.bool true) (congrArg Value.bool c18) ?_
        refine T.seq ?_
        refine T.region ?_
        refine R.asE rfl (by conv => lhs; whnf) ?_
        refine TL.nil (Post.thnN ?_)
        refine T.has Has.nil ?_
        refine T.ret (Post.blkR (Post.thnR (Post.thnR (Post.blkR (Post.thnR ?_)))))
        have hXl1 : alloc_all_Id_l1 a1 a0 0 () = .ret false := by rw [← hQl1, drop_cons hyl1, alloc_all_Id_l1]; rw [if_t c18]
        have hM : alloc_all_Id_m a0 a1 = false := by rw [alloc_all_Id_m, hXl1, LR.on_ret]
        exact fin1L (v := .bool false) [] rfl rfl (List.Sublist.refl _) ⟨rfl, by first | rw [hM] | rfl⟩
      · refine T.set 18 (.bool false) (congrArg Value.bool c18) ?_
        refine T.skip (Post.blkN ?_)
        refine id (Post.thnN ?_)
        refine T.region ?_
        refine R.addI rfl rfl rfl (by omega) ?_
        refine R.mvE rfl (by conv => lhs; whnf) ?_
        refine TL.nil (Post.thnN ?_)
        exact ⟨kl1 + 1, s_l1, ⟨(by omega), Has.nil, (by rw [← hQl1, drop_cons hyl1, alloc_all_Id_l1]; rw [if_f c18])⟩, by show a0.length - (kl1 + 1) < a0.length - kl1; omega, rfl, rfl, rfl, rfl, trivial⟩
    · refine T.exit (Post.thnE (Post.thnE (Post.blkX ?_)))
      have hEl1 : alloc_all_Id_l1 a1 a0 0 () = .go () := (hQl1.symm.trans (by rw [show kl1 = a0.length by omega, List.drop_length, alloc_all_Id_l1]))
      refine id (Post.thnN ?_)
      refine T.seq ?_
      refine T.region ?_
      refine R.asE rfl (by conv => lhs; whnf) ?_
      refine TL.nil (Post.thnN ?_)
      refine T.has Has.nil ?_
      refine T.ret ?_
      have hM : alloc_all_Id_m a0 a1 = true := by rw [alloc_all_Id_m, hEl1, LR.on_go]
      exact fin1L (v := .bool true) [] rfl rfl (List.Sublist.refl _) ⟨rfl, by first | rw [hM] | rfl⟩

theorem all_id_l1 (f : Int → Int → Bool) : ∀ (l : List Int) (k : Nat), alloc_all_Id_l1 f l k () = .go () → ∀ (i : Nat) (x : Int), l[i]? = some x → f ((k + i : Nat) : Int) x = true
  | [], k, _, i, x, h => by simp at h
  | y :: ys, k, hg, i, x, h => by
    rw [alloc_all_Id_l1] at hg
    cases hf : f (k : Int) y with
    | false => rw [hf, Bool.not_false, if_pos rfl] at hg; cases hg
    | true =>
      rw [hf, Bool.not_true, if_neg (by decide)] at hg
      cases i with
      | zero => simp at h; subst h; simpa using hf
      | succ i => rw [show k + (i + 1) = k + 1 + i by omega]; exact all_id_l1 f ys (k + 1) hg i x (by simpa using h)
theorem all_id_ret (f : Int → Int → Bool) : ∀ (l : List Int) (k : Nat), alloc_all_Id_l1 f l k () = .go () ∨ alloc_all_Id_l1 f l k () = .ret false
  | [], k => .inl rfl
  | y :: ys, k => by
    rw [alloc_all_Id_l1]
    split
    · exact .inr rfl
    · exact all_id_ret f ys (k + 1)
theorem all_id {f : Int → Bool} {l : List Int} (h : alloc_all_Id_m l (fun _ z => f z) = true) : ∀ x ∈ l, f x = true := by
  intro x hx
  obtain ⟨i, hi⟩ := List.mem_iff_getElem?.1 hx
  unfold alloc_all_Id_m at h
  rcases all_id_ret (fun _ z => f z) l 0 with h1 | h1
  · exact all_id_l1 (fun _ z => f z) l 0 h1 i x hi
  · rw [h1] at h; cases h
def alloc_Give_1_m (q0 : Int × (List (Int × Bool)) × (List Int)) (a0 : Int) (a1 : Int) : Bool :=
  (alloc_alive_m q0 a1)
set_option maxHeartbeats 3200000 in
theorem alloc_Give_1_c (H : Heap) (b1000 : Nat) (q0 : Int × (List (Int × Bool)) × (List Int)) (vq0_1 : Value) (hq0_1 : RdS slotE H vq0_1 q0.2.1) (vq0_2 : Value) (hq0_2 : RdS (intE .i64) H vq0_2 q0.2.2) (hb0 : H b1000 = some (.cells #[.int .i64 q0.1, vq0_1, vq0_2] 25)) (a0 : Int) (a1 : Int) (hs : q0.2.1.length ≤ 2000000) (hf : q0.2.2.length ≤ 2000000) : Fv Tryd.prog (.func (.func 65) #[] ([.pointer (some ⟨b1000, 0, none⟩)] : List Value).toArray) [.int .i64 a0, .int .u64 a1] H (.bool (alloc_Give_1_m q0 a0 a1)) := by
  refine Fc.of_body (N := 9) Tryd.func65 rfl (by kernel_rfl) rfl rfl ?_
  intro w0
  obtain ⟨Aq0_1, cq0_1, rfl, hcq0_1, hdq0_1, hq0_1⟩ := hq0_1.shape
  obtain ⟨Aq0_2, cq0_2, rfl, hcq0_2, hdq0_2, hq0_2⟩ := hq0_2.shape
  refine T.seq ?_
  refine T.region ?_
  refine R.asE rfl (by conv => lhs; whnf) ?_
  refine TL.nil (Post.thnN ?_)
  refine T.seq ?_
  refine T.region ?_
  refine R.ldXH (cs := [.int .i64 (q0.1), .slice Aq0_1 q0.2.1.length cq0_1, .slice Aq0_2 q0.2.2.length cq0_2]) (l := [.int .i64 (q0.1), .slice Aq0_1 q0.2.1.length cq0_1, .slice Aq0_2 q0.2.2.length cq0_2]) Tryd.isAgg25 Tryd.sizeOf25 rfl rfl hb0 rfl rfl ?_
  refine R.mvE rfl (by conv => lhs; whnf) ?_
  refine R.callv rfl rfl rfl (alloc_alive_c _ q0 _ hq0_1 _ hq0_2 (a1) (by first | omega | (simp; done) | (simp; omega) | (simp at *; omega)) (by first | omega | (simp; done) | (simp; omega) | (simp at *; omega))) ?_
  refine R.asE rfl (by conv => lhs; whnf) ?_
  refine TL.nil (Post.thnN ?_)
  refine T.has Has.nil ?_
  refine T.ret ?_
  have hM : alloc_Give_1_m q0 a0 a1 = (alloc_alive_m q0 a1) := by rw [alloc_Give_1_m]
  exact fin1L (v := .bool ((alloc_alive_m q0 a1))) [] rfl rfl (List.Sublist.refl _) ⟨rfl, by first | rw [hM] | rfl⟩

def alloc_Give_l2 (x7l1 : List Int) : Nat → Nat → ((List (Int × Bool)) × Int × (List (Int × Bool)) × (List Int)) → LR ((Int × (List (Int × Bool)) × (List Int)) × Int) ((List (Int × Bool)) × Int × (List (Int × Bool)) × (List Int))
  | 0, kl2, sl2 => .go ((sl2.1, sl2.2.1, sl2.2.2.1, sl2.2.2.2))
  | ml2 + 1, kl2, sl2 => LR.seq (if (((sortI x7l1)).getD kl2 (0 : Int)) ≤ 2 then true else (if (0 : Int) < (kl2 : Int) then ((decide ((((sortI x7l1)).getD ((((kl2 : Int) - 1)).toNat) (0 : Int)) = (((sortI x7l1)).getD kl2 (0 : Int))))) else false) : Bool) (fun sc3 => if sc3 = true then (.ret ((((0, [], []) : Int × (List (Int × Bool)) × (List Int)), 2))) else (if (alloc_usable_m (((sl2.2.2.1.getD ((((((sortI x7l1)).getD kl2 (0 : Int)) - 1)).toNat) (((0, false) : Int × Bool) : Int × Bool)).1, false))) = true then (alloc_Give_l2 x7l1 ml2 (kl2 + 1) ((sl2.1, sl2.2.1, (sl2.2.2.1.set ((((((sortI x7l1)).getD kl2 (0 : Int)) - 1)).toNat) (((sl2.2.2.1.getD ((((((sortI x7l1)).getD kl2 (0 : Int)) - 1)).toNat) (((0, false) : Int × Bool) : Int × Bool)).1, false))), (sl2.2.2.2 ++ [(((sortI x7l1)).getD kl2 (0 : Int))])))) else (alloc_Give_l2 x7l1 ml2 (kl2 + 1) ((sl2.1, sl2.2.1, (sl2.2.2.1.set ((((((sortI x7l1)).getD kl2 (0 : Int)) - 1)).toNat) (((sl2.2.2.1.getD ((((((sortI x7l1)).getD kl2 (0 : Int)) - 1)).toNat) (((0, false) : Int × Bool) : Int × Bool)).1, false))), sl2.2.2.2)))))
def alloc_Give_l1  : List Int → ((List Int)) → (List Int)
  | [], sl1 => sl1
  | yl1 :: ysl1, sl1 => LR.seq (ident_Parts_m yl1) (fun r34 => alloc_Give_l1 ysl1 ((sl1 ++ [r34.1])))
def alloc_Give_m (a0 : Int × (List (Int × Bool)) × (List Int)) (a1 : List Int) : (Int × (List (Int × Bool)) × (List Int)) × Int :=
  if ((alloc_Check_m a0) : Int) ≠ 0 then ((((0, [], []) : Int × (List (Int × Bool)) × (List Int)), (alloc_Check_m a0))) else (if (!(alloc_all_Id_m a1 ((fun z0 z1 => alloc_Give_1_m a0 z0 z1)))) = true then ((((0, [], []) : Int × (List (Int × Bool)) × (List Int)), 122)) else (LR.seq (alloc_Give_l1 a1 []) (fun ol1 => LR.seq (alloc_own_m a0) (fun r45 => LR.on (alloc_Give_l2 ol1 (ol1.length - 0) 0 ((r45.2.1, r45.1, r45.2.1, r45.2.2))) (fun r => r) (fun ol2 => ((ol2.2.1, ol2.2.2.1, ol2.2.2.2), 0))))))
set_option maxHeartbeats 3200000 in
theorem alloc_Give_c (H : Heap) {tG0 : TypeId} (hG0 : H 0 = some (.cells #[.int .i64 0, .bool true] tG0)) (a0 : Int × (List (Int × Bool)) × (List Int)) (va0_1 : Value) (ha0_1 : RdS slotE H va0_1 a0.2.1) (va0_2 : Value) (ha0_2 : RdS (intE .i64) H va0_2 a0.2.2) (va1 : Value) (a1 : List Int) (ha1 : RdS (intE .u64) H va1 a1) (hs : a0.2.1.length ≤ 2000000) (hf : a0.2.2.length ≤ 2000000) (hl : a1.length ≤ 2000000) : Fc Tryd.prog (fnv 21) [.agg #[.int .i64 a0.1, va0_1, va0_2], va1] H [] (fun v' H' L' => ∃ u0_1 u0_2 c0_1 c0_2, v' = .tuple #[.agg #[.int .i64 (alloc_Give_m a0 a1).1.1, u0_1, u0_2], .int .i64 (alloc_Give_m a0 a1).2] ∧ L' = [c0_1, c0_2] ∧ OwnS slotE 101 H' u0_1 (alloc_Give_m a0 a1).1.2.1 c0_1 ∧ OwnS (intE .i64) 3 H' u0_2 (alloc_Give_m a0 a1).1.2.2 c0_2) := by
  refine Fc.of_body (N := 89) Tryd.func21 rfl (by kernel_rfl) rfl rfl ?_
  intro w0
  obtain ⟨Aa0_1, ca0_1, rfl, hca0_1, hda0_1, ha0_1⟩ := ha0_1.shape
  obtain ⟨Aa0_2, ca0_2, rfl, hca0_2, hda0_2, ha0_2⟩ := ha0_2.shape
  obtain ⟨Aa1, ca1, rfl, hca1, hda1, ha1⟩ := ha1.shape
  refine T.seq ?_
  refine T.region ?_
  refine R.box rfl (by conv => lhs; whnf) ?_
  intro b2
  refine R.alloc Tryd.zeroValue25 rfl ?_
  intro b4
  refine R.asE rfl (by conv => lhs; whnf) ?_
  refine TL.nil (Post.thnN ?_)
  refine T.seq ?_
  refine T.seq ?_
  refine T.region ?_
  refine R.ldX (cs := [.int .i64 (a0.1), .slice Aa0_1 a0.2.1.length ca0_1, .slice Aa0_2 a0.2.2.length ca0_2]) (l := [.int .i64 (a0.1), .slice Aa0_1 a0.2.1.length ca0_1, .slice Aa0_2 a0.2.2.length ca0_2]) Tryd.isAgg25 Tryd.sizeOf25 rfl rfl (.tl .hd) rfl rfl ?_
  refine R.callv rfl rfl rfl (alloc_Check_c _ hG0 a0 _ ha0_1 _ ha0_2 (by first | omega | (simp; done) | (simp; omega) | (simp at *; omega)) (by first | omega | (simp; done) | (simp; omega) | (simp at *; omega))) ?_
  refine R.asE rfl (by conv => lhs; whnf) ?_
  refine TL.nil (Post.thnN ?_)
  refine T.seq ?_
  refine T.region ?_
  refine R.mvE rfl (by conv => lhs; whnf) ?_
  refine R.neq rfl rfl rfl ?_
  refine TL.nil (Post.thnN ?_)
  refine T.condD rfl (fun c18 => ?_) (fun c18 => ?_)
  · refine T.set 18 (.bool true) (congrArg Value.bool (decide_eq_true c18)) ?_
    refine T.seq ?_
    refine T.region ?_
    refine R.bld (cs := [.int .i64 0, .slice none 0 0, .slice none 0 0]) rfl (fun _ => by kernel_rfl) ?_
    refine R.mvE rfl (by conv => lhs; whnf) ?_
    refine R.stX (old := [.int .i64 0, .slice none 0 0, .slice none 0 0]) (l := [.int .i64 0, .slice none 0 0, .slice none 0 0]) (new := [.int .i64 0, .slice none 0 0, .slice none 0 0]) (et := 25) Tryd.sizeOf25 rfl rfl rfl rfl rfl (by show 0 + 3 ≤ 3; decide) rfl (all_one rfl) .hd ?_
    refine R.asE rfl (by conv => lhs; whnf) ?_
    refine TL.nil (Post.thnN ?_)
    refine T.has (Has.none (Has.none (Has.cons .hd Has.nil))) ?_
    refine T.ret (Post.thnR ?_)
    have hM : alloc_Give_m a0 a1 = (((0, [], []) : Int × (List (Int × Bool)) × (List Int)), (alloc_Check_m a0)) := by rw [alloc_Give_m, if_pos c18]
    exact finR2 (v := .agg #[.int .i64 0, .slice none 0 0, .slice none 0 0]) (v' := .int .i64 (alloc_Check_m a0)) [[], []] rfl (.cellA (cs := [.int .i64 0, .slice none 0 0, .slice none 0 0]) (l := [.int .i64 0, .slice none 0 0, .slice none 0 0]) Tryd.isAgg25 Tryd.sizeOf25 rfl (.tl (.tl .hd)) rfl rfl) (.tmp rfl) (List.sublist_append_left ([[], []] : Own) _) ⟨.slice none 0 0, .slice none 0 0, [], [], by first | rw [hM] | rfl, rfl, by rw [hM]; exact OwnS.nil, by rw [hM]; exact OwnS.nil⟩
  · refine T.set 18 (.bool false) (congrArg Value.bool (decide_eq_false c18)) ?_
    refine T.skip (Post.thnN ?_)
    refine T.seq ?_
    refine T.seq ?_
    refine T.region ?_
    refine R.mvE rfl (by conv => lhs; whnf) ?_
    refine R.mkf (cs := [_]) rfl rfl ?_
    refine R.callvB rfl rfl rfl (fun HB23 sB23 qB23 => by have fB23_b2 := shut1 (In.all (.tl .hd) qB23); exact (alloc_all_Id_c _ _ a1 (ha1.mono sB23) _ (fun z0 z1 => alloc_Give_1_m a0 z0 z1) (fun H2 h2 z0 z1 => alloc_Give_1_c H2 b2 a0 _ ((ha0_1.mono sB23).mono h2) _ ((ha0_2.mono sB23).mono h2) (h2 _ _ fB23_b2) z0 z1 (by first | omega | (simp; done) | (simp; omega) | (simp at *; omega)) (by first | omega | (simp; done) | (simp; omega) | (simp at *; omega))))) ?_
    refine R.not rfl rfl ?_
    refine TL.nil (Post.thnN ?_)
    refine T.cond rfl (fun c24 => ?_) (fun c24 => ?_)
    · refine T.set 24 (.bool true) (congrArg Value.bool c24) ?_
      refine T.seq ?_
      refine T.region ?_
      refine R.bld (cs := [.int .i64 0, .slice none 0 0, .slice none 0 0]) rfl (fun _ => by kernel_rfl) ?_
      refine R.stX (old := [.int .i64 0, .slice none 0 0, .slice none 0 0]) (l := [.int .i64 0, .slice none 0 0, .slice none 0 0]) (new := [.int .i64 0, .slice none 0 0, .slice none 0 0]) (et := 25) Tryd.sizeOf25 rfl rfl rfl rfl rfl (by show 0 + 3 ≤ 3; decide) rfl (all_one rfl) .hd ?_
      refine R.asE rfl (by conv => lhs; whnf) ?_
      refine TL.nil (Post.thnN ?_)
      refine T.has (Has.none (Has.none (Has.cons .hd Has.nil))) ?_
      refine T.ret (Post.thnR ?_)
      have hM : alloc_Give_m a0 a1 = (((0, [], []) : Int × (List (Int × Bool)) × (List Int)), 122) := by rw [alloc_Give_m, if_neg c18, if_t c24]
      exact finR2 (v := .agg #[.int .i64 0, .slice none 0 0, .slice none 0 0]) (v' := .int .i64 122) [[], []] rfl (.cellA (cs := [.int .i64 0, .slice none 0 0, .slice none 0 0]) (l := [.int .i64 0, .slice none 0 0, .slice none 0 0]) Tryd.isAgg25 Tryd.sizeOf25 rfl (.tl (.tl .hd)) rfl rfl) (.tmp rfl) (List.sublist_append_left ([[], []] : Own) _) ⟨.slice none 0 0, .slice none 0 0, [], [], by first | rw [hM] | rfl, rfl, by rw [hM]; exact OwnS.nil, by rw [hM]; exact OwnS.nil⟩
    · refine T.set 24 (.bool false) (congrArg Value.bool c24) ?_
      have hall : alloc_all_Id_m a1 (fun z0 z1 => alloc_Give_1_m a0 z0 z1) = true := by simpa using c24
      refine T.skip (Post.thnN ?_)
      refine T.seq ?_
      refine T.region ?_
      refine R.asE rfl (by conv => lhs; whnf) ?_
      refine TL.nil (Post.thnN ?_)
      refine T.seq ?_
      refine T.seq ?_
      refine T.region ?_
      refine R.mvE rfl (by conv => lhs; whnf) ?_
      refine R.len Tryd.underlying29 rfl rfl ?_
      refine R.mvE rfl (by conv => lhs; whnf) ?_
      refine TL.nil (Post.thnN ?_)
      refine T.block ?_
      refine T.loop (ι := Nat × Value × (List Int) × Chunk) (fun ⟨kl1, v7l1, x7l1, c7l1⟩ H' L' ds' => kl1 ≤ a1.length ∧ Has L' [[(b4, .cells #[.int .i64 0, .slice none 0 0, .slice none 0 0] 25)], [(b2, .cells #[.int .i64 (a0.1), .slice Aa0_1 a0.2.1.length ca0_1, .slice Aa0_2 a0.2.2.length ca0_2] 25)], c7l1] ∧ OwnS (intE .i64) 3 H' v7l1 x7l1 c7l1 ∧ x7l1.length ≤ kl1 ∧ (∀ x ∈ x7l1, 1 ≤ x ∧ x ≤ (a0.2.1.length : Int)) ∧ alloc_Give_l1 (a1.drop kl1) x7l1 = alloc_Give_l1 a1 []) (fun ⟨kl1, v7l1, x7l1, c7l1⟩ => [(28, .int .i64 (kl1 : Int)), (2, .pointer (some ⟨b2, 0, none⟩)), (4, .pointer (some ⟨b4, 0, none⟩)), (7, v7l1), (26, .slice Aa1 a1.length ca1), (27, .int .i64 (a1.length : Int))]) (fun ⟨kl1, v7l1, x7l1, c7l1⟩ => a1.length - kl1) (0, .slice none 0 0, [], []) ?_ ?_ ?_
      · exact ⟨(by omega), (Has.cons .hd (Has.cons .hd (Has.none Has.nil))), OwnS.nil, (by first | omega | simp | (intro x hx; cases hx)), (by first | omega | simp | (intro x hx; cases hx)), (by rfl)⟩
      · exact ⟨rfl, rfl, rfl, rfl, rfl, rfl, trivial⟩
      · intro ⟨kl1, v7l1, x7l1, c7l1⟩ σ_l1 H_l1 L_l1 ds_l1 s_l1 hI_l1
        obtain ⟨hkl1, hI_l1⟩ := hI_l1
        obtain ⟨hLl1, w7l1, hBl1_0, hBl1_1, hQl1⟩ := hI_l1
        obtain ⟨A7l1, p7l1, rfl, m7l1, n7l1_⟩ := OwnS.shape w7l1
        refine T.has hLl1 ?_
        refine T.seq ?_
        refine T.region ?_
        refine R.lss rfl rfl rfl ?_
        refine TL.nil (Post.thnN ?_)
        refine T.seq ?_
        refine T.condD rfl (fun c29 => ?_) (fun c29 => ?_)
        · have hltl1 : kl1 < a1.length := by omega
          obtain ⟨yl1, hyl1⟩ := getk (xs := a1) (k := kl1) (by omega)
          refine T.skip (Post.thnN ?_)
          refine T.seq ?_
          refine T.block ?_
          refine T.seq ?_
          refine T.region ?_
          obtain ⟨b30, o30, i30, k30⟩ := RdS.elem (ha1.mono s_l1) hyl1
          obtain ⟨l30, g30, k30⟩ := k30
          obtain rfl : l30 = [.int .u64 yl1] := g30
          refine R.ixp Tryd.underlying29 Tryd.sizeOf32 rfl rfl rfl (by omega) i30 ?_
          refine R.ldC Tryd.isAgg32 rfl rfl (k30 0 _ rfl) ?_
          refine R.asE rfl (by conv => lhs; whnf) ?_
          refine TL.nil (Post.thnN ?_)
          refine T.seq ?_
          refine T.region ?_
          refine R.mvE rfl (by conv => lhs; whnf) ?_
          obtain ⟨r34, er34⟩ : ∃ r, r = (ident_Parts_m yl1) := ⟨_, rfl⟩
          refine R.callv (v := .tuple #[.int .i64 r34.1, .int .i64 r34.2]) rfl rfl rfl (by rw [er34]; exact ident_Parts_c _ (yl1)) ?_
          refine R.mvE rfl (by conv => lhs; whnf) ?_
          refine R.ext rfl rfl rfl ?_
          refine R.ext rfl rfl rfl ?_
          refine R.asE rfl (by conv => lhs; whnf) ?_
          refine R.asE rfl (by conv => lhs; whnf) ?_
          refine TL.nil (Post.thnN ?_)
          refine T.region ?_
          refine R.mvE rfl (by conv => lhs; whnf) ?_
          refine R.mvE rfl (by conv => lhs; whnf) ?_
          refine R.bs rfl (run_buildSlice1 Tryd.underlying23 Tryd.sizeOf3 Tryd.zeroValue3 rfl rfl) ?_
          intro b39
          have w39 : OwnS (intE .i64) 3 H_l1 (.slice (some ⟨b39, 0, none⟩) 1 1) [r34.1] [(b39, .cells #[.int .i64 (r34.1)] 3)] := OwnS.lit (xs := [r34.1]) (cellsOf_cons (a := [.int .i64 (r34.1)]) rfl cellsOf_nil) (by show 1 ≤ maxLen; decide)
          obtain ⟨k40, y40, r40⟩ := Src.ownA w39
          refine R.app (E := (intE .i64)) (e := 3) (xs := x7l1) (ys := [r34.1]) Tryd_ty23 rfl rfl rfl w7l1 (.tl (.tl (.tl .hd))) (r40 _ .hd) y40 (by (try simp only [List.length_append, List.length_cons, List.length_nil, List.length_replicate, List.length_take, List.length_drop]); omega) (by (try simp only [List.length_append, List.length_cons, List.length_nil, List.length_replicate, List.length_take, List.length_drop]); omega) ?_
          intro v40 c40 w40
          obtain ⟨A40, p40, rfl, m40, n40⟩ := OwnS.shape w40
          refine TL.del (.tl .hd) ?_
          refine R.asE rfl (by conv => lhs; whnf) ?_
          refine TL.nil (Post.blkN ?_)
          refine id (Post.thnN ?_)
          refine T.region ?_
          refine R.addI rfl rfl rfl (by omega) ?_
          refine R.mvE rfl (by conv => lhs; whnf) ?_
          refine TL.nil (Post.thnN ?_)
          exact ⟨(kl1 + 1, .slice A40 (x7l1 ++ [r34.1]).length p40, (x7l1 ++ [r34.1]), c40), s_l1, ⟨(by omega), (Has.cons (.tl .hd) (Has.cons (.tl .hd) (Has.cons .hd Has.nil))), w40, (by first | omega | (simp only [List.length_append, List.length_cons, List.length_nil]; omega) | (intro x hx; rcases List.mem_append.1 hx with h | h; exact hBl1_1 x h; obtain rfl := List.mem_singleton.1 h; rw [er34]; exact alive_rng (all_id hall yl1 (List.mem_of_getElem? hyl1)))), (by first | omega | (simp only [List.length_append, List.length_cons, List.length_nil]; omega) | (intro x hx; rcases List.mem_append.1 hx with h | h; exact hBl1_1 x h; obtain rfl := List.mem_singleton.1 h; rw [er34]; exact alive_rng (all_id hall yl1 (List.mem_of_getElem? hyl1)))), (by subst er34; rw [← hQl1, drop_cons hyl1, alloc_Give_l1]; rw [LR.seq_go])⟩, by show a1.length - (kl1 + 1) < a1.length - kl1; omega, rfl, rfl, rfl, rfl, rfl, rfl, trivial⟩
        · refine T.exit (Post.thnE (Post.thnE (Post.blkX ?_)))
          have hEl1 : alloc_Give_l1 a1 [] = x7l1 := (hQl1.symm.trans (by rw [show kl1 = a1.length by omega, List.drop_length, alloc_Give_l1]))
          have hsx : ∀ x ∈ sortI x7l1, 1 ≤ x ∧ x ≤ (a0.2.1.length : Int) := fun x hx => hBl1_1 x ((sortI_perm _).mem_iff.1 hx)
          refine id (Post.thnN ?_)
          refine T.seq ?_
          refine T.region ?_
          refine R.mvE rfl (by conv => lhs; whnf) ?_
          refine TL.call [false, false, true] rfl rfl rfl (sortA_c _ _ _ _ w7l1 (by first | omega | (simp; done) | (simp; omega) | (simp at *; omega))) ?_
          intro v43 H43 L43 s43 q43
          obtain ⟨rfl, c43, rfl, w43⟩ := q43
          refine TL.nil (Post.thnN ?_)
          refine T.seq ?_
          refine T.region ?_
          refine R.ldX (cs := [.int .i64 (a0.1), .slice Aa0_1 a0.2.1.length ca0_1, .slice Aa0_2 a0.2.2.length ca0_2]) (l := [.int .i64 (a0.1), .slice Aa0_1 a0.2.1.length ca0_1, .slice Aa0_2 a0.2.2.length ca0_2]) Tryd.isAgg25 Tryd.sizeOf25 rfl rfl (.tl (.tl .hd)) rfl rfl ?_
          obtain ⟨r45, er45⟩ : ∃ r, r = (alloc_own_m a0) := ⟨_, rfl⟩
          refine TL.call [] rfl rfl rfl (alloc_own_c _ a0 _ (ha0_1.mono s_l1) _ (ha0_2.mono s_l1) (by first | omega | (simp; done) | (simp; omega) | (simp at *; omega)) (by first | omega | (simp; done) | (simp; omega) | (simp at *; omega))) ?_
          intro v45 H45 L45 s45 q45
          rw [← er45] at q45
          obtain ⟨u45_0_1, u45_0_2, c45_0_1, c45_0_2, rfl, rfl, w45_0_1, w45_0_2⟩ := q45
          obtain ⟨A45_0_1, p45_0_1, rfl, m45_0_1, n45_0_1⟩ := OwnS.shape w45_0_1
          obtain ⟨A45_0_2, p45_0_2, rfl, m45_0_2, n45_0_2⟩ := OwnS.shape w45_0_2
          have q45 := er45.trans (alloc_own_eq _)
          have ta45 := congrArg (fun q => q.2.1.length) q45
          have tb45 := congrArg (fun q => q.2.2.length) q45
          try dsimp only at ta45 tb45
          refine R.stX (old := [.int .i64 (a0.1), .slice Aa0_1 a0.2.1.length ca0_1, .slice Aa0_2 a0.2.2.length ca0_2]) (l := [.int .i64 (r45.1), .slice A45_0_1 r45.2.1.length p45_0_1, .slice A45_0_2 r45.2.2.length p45_0_2]) (new := [.int .i64 (r45.1), .slice A45_0_1 r45.2.1.length p45_0_1, .slice A45_0_2 r45.2.2.length p45_0_2]) (et := 25) Tryd.sizeOf25 rfl rfl rfl rfl rfl (by show 0 + 3 ≤ 3; decide) rfl (all_one rfl) (.tl (.tl (.tl (.tl .hd)))) ?_
          refine TL.nil (Post.thnN ?_)
          refine T.seq ?_
          refine T.seq ?_
          refine T.region ?_
          refine R.mvE rfl (by conv => lhs; whnf) ?_
          refine R.len Tryd.underlying23 rfl rfl ?_
          refine R.mvE rfl (by conv => lhs; whnf) ?_
          refine TL.nil (Post.thnN ?_)
          refine T.block ?_
          refine T.loop (ι := Nat × (List (Int × Bool)) × Chunk × Int × Value × (List (Int × Bool)) × Chunk × Value × (List Int) × Chunk) (fun ⟨kl2, xr45_0_1l2, cr45_0_1l2, nb2l2_0, vb2l2_1, xb2l2_1, cb2l2_1, vb2l2_2, xb2l2_2, cb2l2_2⟩ H' L' ds' => kl2 ≤ x7l1.length ∧ Has L' [c43, [(b4, .cells #[.int .i64 0, .slice none 0 0, .slice none 0 0] 25)], [(b2, .cells #[.int .i64 nb2l2_0, vb2l2_1, vb2l2_2] 25)], cb2l2_1, cb2l2_2] ∧ OwnS slotE 101 H' (.slice A45_0_1 r45.2.1.length p45_0_1) xr45_0_1l2 cr45_0_1l2 ∧ OwnS slotE 101 H' vb2l2_1 xb2l2_1 cb2l2_1 ∧ OwnS (intE .i64) 3 H' vb2l2_2 xb2l2_2 cb2l2_2 ∧ xb2l2_1.length = a0.2.1.length ∧ xb2l2_2.length ≤ a0.2.2.length + kl2 ∧ alloc_Give_l2 x7l1 (x7l1.length - kl2) kl2 ((xr45_0_1l2, nb2l2_0, xb2l2_1, xb2l2_2)) = alloc_Give_l2 x7l1 (x7l1.length - 0) 0 ((r45.2.1, r45.1, r45.2.1, r45.2.2))) (fun ⟨kl2, xr45_0_1l2, cr45_0_1l2, nb2l2_0, vb2l2_1, xb2l2_1, cb2l2_1, vb2l2_2, xb2l2_2, cb2l2_2⟩ => [(48, .int .i64 (kl2 : Int)), (2, .pointer (some ⟨b2, 0, none⟩)), (4, .pointer (some ⟨b4, 0, none⟩)), (7, .slice A7l1 x7l1.length p7l1), (46, .slice A7l1 x7l1.length p7l1), (47, .int .i64 (x7l1.length : Int))]) (fun ⟨kl2, xr45_0_1l2, cr45_0_1l2, nb2l2_0, vb2l2_1, xb2l2_1, cb2l2_1, vb2l2_2, xb2l2_2, cb2l2_2⟩ => x7l1.length - kl2) (0, r45.2.1, c45_0_1, r45.1, .slice A45_0_1 r45.2.1.length p45_0_1, r45.2.1, c45_0_1, .slice A45_0_2 r45.2.2.length p45_0_2, r45.2.2, c45_0_2) ?_ ?_ ?_
          · exact ⟨(by omega), (Has.cons (.tl (.tl .hd)) (Has.cons (.tl (.tl .hd)) (Has.cons (.tl (.tl .hd)) (Has.cons .hd (Has.cons .hd Has.nil))))), w45_0_1, w45_0_1, w45_0_2, (by first | omega | (simp; done) | (simp; omega) | (simp at *; omega)), (by first | omega | (simp; done) | (simp; omega) | (simp at *; omega)), (by rfl)⟩
          · exact ⟨rfl, rfl, rfl, rfl, rfl, rfl, trivial⟩
          · intro ⟨kl2, xr45_0_1l2, cr45_0_1l2, nb2l2_0, vb2l2_1, xb2l2_1, cb2l2_1, vb2l2_2, xb2l2_2, cb2l2_2⟩ σ_l2 H_l2 L_l2 ds_l2 s_l2 hI_l2
            obtain ⟨hkl2, hI_l2⟩ := hI_l2
            obtain ⟨hLl2, wr45_0_1l2, wb2l2_1, wb2l2_2, hBl2_0, hBl2_1, hQl2⟩ := hI_l2
            obtain ⟨Ab2l2_1, pb2l2_1, rfl, mb2l2_1, nb2l2_1_⟩ := OwnS.shape wb2l2_1
            obtain ⟨Ab2l2_2, pb2l2_2, rfl, mb2l2_2, nb2l2_2_⟩ := OwnS.shape wb2l2_2
            refine T.has hLl2 ?_
            refine T.seq ?_
            refine T.region ?_
            refine R.lss rfl rfl rfl ?_
            refine TL.nil (Post.thnN ?_)
            refine T.seq ?_
            refine T.condD rfl (fun c49 => ?_) (fun c49 => ?_)
            · have hltl2 : kl2 < x7l1.length := by omega
              refine T.skip (Post.thnN ?_)
              refine T.seq ?_
              refine T.block ?_
              refine T.seq ?_
              refine T.region ?_
              refine R.mvE rfl (by conv => lhs; whnf) ?_
              have hl51 : kl2 < x7l1.length := by first | omega | (simp; done) | (simp; omega) | (simp at *; omega)
              obtain ⟨y51, e51, h51⟩ : ∃ y, y = (((sortI x7l1)).getD kl2 (0 : Int)) ∧ ((sortI x7l1))[kl2]? = some y := ⟨_, rfl, getD_get (by first | exact hl51 | simpa using hl51 | (rw [(sortI_perm _).length_eq]; exact hl51))⟩
              obtain ⟨b51, u51, cs51, l51, f51, j51, i51, g51, k51⟩ := OwnS.elem (OwnS.mono w43 (s45.trans s_l2)) h51
              obtain rfl : l51 = [.int .i64 y51] := g51
              refine R.ixp (sz := ((intE .i64)).size) Tryd.underlying23 Tryd.sizeOf3 rfl rfl rfl (by first | omega | (simp; done) | (simp; omega) | (simp at *; omega)) i51 ?_
              refine R.ld Tryd.isAgg3 rfl rfl (by rw [← f51]; exact .hd) (k51 0 _ rfl) ?_
              refine R.asE rfl (by conv => lhs; whnf) ?_
              refine R.asE rfl (by conv => lhs; whnf) ?_
              refine TL.nil (Post.thnN ?_)
              refine T.seq ?_
              refine T.seq ?_
              refine T.cutK (ι := Bool) (fun b67c3 H' L' ds' => Has L' [c43, [(b4, .cells #[.int .i64 0, .slice none 0 0, .slice none 0 0] 25)], [(b2, .cells #[.int .i64 nb2l2_0, .slice Ab2l2_1 xb2l2_1.length pb2l2_1, .slice Ab2l2_2 xb2l2_2.length pb2l2_2] 25)], cb2l2_1, cb2l2_2] ∧ (if y51 ≤ 2 then true else (if (0 : Int) < (kl2 : Int) then ((decide ((((sortI x7l1)).getD ((((kl2 : Int) - 1)).toNat) (0 : Int)) = y51))) else false) : Bool) = b67c3) (fun b67c3 => [(2, .pointer (some ⟨b2, 0, none⟩)), (4, .pointer (some ⟨b4, 0, none⟩)), (7, .slice A7l1 x7l1.length p7l1), (13, .int .i64 y51), (46, .slice A7l1 x7l1.length p7l1), (47, .int .i64 (x7l1.length : Int)), (48, .int .i64 (kl2 : Int)), (67, .bool (b67c3))]) ?_ ?_
              · refine T.region ?_
                refine R.mvE rfl (by conv => lhs; whnf) ?_
                refine R.leq rfl rfl rfl ?_
                refine R.mvE rfl (by conv => lhs; whnf) ?_
                refine TL.gsplitD 55 rfl (fun g55 => ?_) (fun g55 => ?_)
                · refine TL.off rfl rfl rfl ?_
                  refine TL.off rfl rfl rfl ?_
                  refine TL.off rfl rfl rfl ?_
                  refine TL.offU rfl rfl ?_
                  refine TL.offU rfl rfl ?_
                  refine TL.offU rfl rfl ?_
                  refine TL.offU rfl rfl ?_
                  refine TL.offU rfl rfl ?_
                  refine TL.offU rfl rfl ?_
                  refine TL.offU rfl rfl ?_
                  refine TL.off rfl rfl rfl ?_
                  refine R.pkTE rfl rfl (by conv => lhs; whnf) ?_
                  refine TL.nil (Post.thnN ?_)
                  exact ⟨true, HLe.refl _, ⟨(Has.cons .hd (Has.cons .hd (Has.cons .hd (Has.cons .hd (Has.cons .hd Has.nil))))), (by rw [if_pos g55])⟩, rfl, rfl, rfl, rfl, rfl, rfl, rfl, rfl, trivial⟩
                · refine R.mvE rfl (by conv => lhs; whnf) ?_
                  refine R.gtr rfl rfl rfl ?_
                  refine R.mvE rfl (by conv => lhs; whnf) ?_
                  refine TL.gsplitD 58 rfl (fun g58 => ?_) (fun g58 => ?_)
                  · refine R.mvE rfl (by conv => lhs; whnf) ?_
                    refine R.mvE rfl (by conv => lhs; whnf) ?_
                    refine R.subI rfl rfl rfl (by omega) ?_
                    have hl62 : (((kl2 : Int) - 1)).toNat < x7l1.length := by first | omega | (simp; done) | (simp; omega) | (simp at *; omega)
                    obtain ⟨y62, e62, h62⟩ : ∃ y, y = (((sortI x7l1)).getD ((((kl2 : Int) - 1)).toNat) (0 : Int)) ∧ ((sortI x7l1))[(((kl2 : Int) - 1)).toNat]? = some y := ⟨_, rfl, getD_get (by first | exact hl62 | simpa using hl62 | (rw [(sortI_perm _).length_eq]; exact hl62))⟩
                    obtain ⟨b62, u62, cs62, l62, f62, j62, i62, g62, k62⟩ := OwnS.elem (OwnS.mono w43 (s45.trans s_l2)) h62
                    obtain rfl : l62 = [.int .i64 y62] := g62
                    refine R.ixp (sz := ((intE .i64)).size) Tryd.underlying23 Tryd.sizeOf3 rfl rfl rfl (by first | omega | (simp; done) | (simp; omega) | (simp at *; omega)) i62 ?_
                    refine R.ld Tryd.isAgg3 rfl rfl (by rw [← f62]; exact .hd) (k62 0 _ rfl) ?_
                    refine R.mvE rfl (by conv => lhs; whnf) ?_
                    refine R.eql rfl rfl rfl ?_
                    refine R.pkTE rfl rfl (by conv => lhs; whnf) ?_
                    refine R.pkFE rfl rfl (by conv => lhs; whnf) ?_
                    refine TL.nil (Post.thnN ?_)
                    exact ⟨(decide (y62 = y51)), HLe.refl _, ⟨(Has.cons .hd (Has.cons .hd (Has.cons .hd (Has.cons .hd (Has.cons .hd Has.nil))))), (by subst e62; rw [if_neg g55, if_pos g58])⟩, rfl, rfl, rfl, rfl, rfl, rfl, rfl, rfl, trivial⟩
                  · refine TL.off rfl rfl rfl ?_
                    refine TL.off rfl rfl rfl ?_
                    refine TL.off rfl rfl rfl ?_
                    refine TL.off rfl rfl rfl ?_
                    refine TL.off rfl rfl rfl ?_
                    refine TL.off rfl rfl rfl ?_
                    refine TL.off rfl rfl rfl ?_
                    refine R.pkFE rfl rfl (by conv => lhs; whnf) ?_
                    refine R.pkFE rfl rfl (by conv => lhs; whnf) ?_
                    refine TL.nil (Post.thnN ?_)
                    exact ⟨false, HLe.refl _, ⟨(Has.cons .hd (Has.cons .hd (Has.cons .hd (Has.cons .hd (Has.cons .hd Has.nil))))), (by rw [if_neg g55, if_neg g58])⟩, rfl, rfl, rfl, rfl, rfl, rfl, rfl, rfl, trivial⟩
              · intro b67c3 σ_c3 H_c3 L_c3 ds_c3 s_c3 hI_c3
                obtain ⟨hLc3, hTc3⟩ := hI_c3
                refine T.has hLc3 ?_
                refine T.cond rfl (fun c67 => ?_) (fun c67 => ?_)
                · refine T.set 67 (.bool true) (congrArg Value.bool c67) ?_
                  have hZ67 := hTc3.trans c67
                  try simp only [or_f, or_t, and_f, and_t, decide_eq_true_eq, decide_eq_false_iff_not, Bool.not_eq_true'] at hZ67
                  refine T.seq ?_
                  refine T.region ?_
                  refine R.bld (cs := [.int .i64 0, .slice none 0 0, .slice none 0 0]) rfl (fun _ => by kernel_rfl) ?_
                  refine R.stX (old := [.int .i64 0, .slice none 0 0, .slice none 0 0]) (l := [.int .i64 0, .slice none 0 0, .slice none 0 0]) (new := [.int .i64 0, .slice none 0 0, .slice none 0 0]) (et := 25) Tryd.sizeOf25 rfl rfl rfl rfl rfl (by show 0 + 3 ≤ 3; decide) rfl (all_one rfl) (.tl .hd) ?_
                  refine R.asE rfl (by conv => lhs; whnf) ?_
                  refine TL.nil (Post.thnN ?_)
                  refine T.has (Has.none (Has.none (Has.cons (.tl .hd) Has.nil))) ?_
                  refine T.ret (Post.thnR (Post.blkR (Post.thnR (Post.thnR (Post.blkR (Post.thnR ?_))))))
                  have hXl2 : alloc_Give_l2 x7l1 (x7l1.length - 0) 0 ((r45.2.1, r45.1, r45.2.1, r45.2.2)) = .ret ((((0, [], []) : Int × (List (Int × Bool)) × (List Int)), 2)) := by subst e51; rw [← hQl2, show x7l1.length - kl2 = (x7l1.length - (kl2 + 1)) + 1 by omega, alloc_Give_l2]; rw [hTc3, LR.seq_go, if_t c67]
                  have hM : alloc_Give_m a0 a1 = (((0, [], []) : Int × (List (Int × Bool)) × (List Int)), 2) := by subst er45; rw [alloc_Give_m, if_neg c18, if_f c24, hEl1, LR.seq_go, LR.seq_go, hXl2, LR.on_ret]
                  exact finR2 (v := .agg #[.int .i64 0, .slice none 0 0, .slice none 0 0]) (v' := .int .i64 2) [[], []] rfl (.cellA (cs := [.int .i64 0, .slice none 0 0, .slice none 0 0]) (l := [.int .i64 0, .slice none 0 0, .slice none 0 0]) Tryd.isAgg25 Tryd.sizeOf25 rfl (.tl (.tl .hd)) rfl rfl) (.tmp rfl) (List.sublist_append_left ([[], []] : Own) _) ⟨.slice none 0 0, .slice none 0 0, [], [], by first | rw [hM] | rfl, rfl, by rw [hM]; exact OwnS.nil, by rw [hM]; exact OwnS.nil⟩
                · refine T.set 67 (.bool false) (congrArg Value.bool c67) ?_
                  have hZ67 := hTc3.trans c67
                  try simp only [or_f, or_t, and_f, and_t, decide_eq_true_eq, decide_eq_false_iff_not, Bool.not_eq_true'] at hZ67
                  refine T.skip (Post.thnN ?_)
                  refine T.seq ?_
                  have hidx := hsx y51 (List.mem_of_getElem? h51)
                  refine T.region ?_
                  refine R.fldA Tryd.underlying25 rfl Tryd.sizeOf22 (by decide) rfl rfl ?_
                  refine R.ld Tryd.isAgg22 rfl rfl (.tl (.tl .hd)) rfl ?_
                  refine R.mvE rfl (by conv => lhs; whnf) ?_
                  refine R.subI rfl rfl rfl (by omega) ?_
                  have hl73 : ((y51 - 1)).toNat < xb2l2_1.length := by first | omega | (simp; done) | (simp; omega) | (simp at *; omega)
                  obtain ⟨y73, e73, h73⟩ : ∃ y, y = (xb2l2_1.getD (((y51 - 1)).toNat) (((0, false) : Int × Bool) : Int × Bool)) ∧ xb2l2_1[((y51 - 1)).toNat]? = some y := ⟨_, rfl, getD_get (by first | exact hl73 | simpa using hl73 | (rw [(sortI_perm _).length_eq]; exact hl73))⟩
                  obtain ⟨b73, u73, cs73, l73, f73, j73, i73, g73, k73⟩ := OwnS.elem (OwnS.mono wb2l2_1 s_c3) h73
                  obtain rfl : l73 = [.int .i64 (y73.1), .bool (y73.2)] := g73
                  refine R.ixp (sz := (slotE).size) Tryd.underlying22 Tryd.sizeOf101 rfl rfl rfl (by first | omega | (simp; done) | (simp; omega) | (simp at *; omega)) i73 ?_
                  refine R.asE rfl (by conv => lhs; whnf) ?_
                  refine TL.nil (Post.thnN ?_)
                  refine T.seq ?_
                  refine T.region ?_
                  refine R.mvE rfl (by conv => lhs; whnf) ?_
                  refine R.nilck rfl rfl ?_
                  refine R.fldA Tryd.underlying101 rfl Tryd.sizeOf4 (by decide) rfl rfl ?_
                  refine R.stEF (E := slotE) (e := 101) (v := (.slice Ab2l2_1 xb2l2_1.length pb2l2_1)) (m := [.bool false]) (o := 1) (y := y73) (y' := (y73.1, false)) (j := ((y51 - 1)).toNat) Tryd.sizeOf4 rfl (OwnS.mono wb2l2_1 s_c3) (.tl (.tl (.tl .hd))) i73 rfl rfl (cells1 rfl) (all_one rfl) h73 (by show 1 + 1 ≤ 2; decide) (fun l hl => by have e0 : l = [.int .i64 (y73.1), .bool (y73.2)] := hl; subst e0; exact rfl) ?_
                  intro cst11 wst11
                  refine TL.nil (Post.thnN ?_)
                  refine T.seq ?_
                  refine T.region ?_
                  refine R.mvE rfl (by conv => lhs; whnf) ?_
                  refine R.nilck rfl rfl ?_
                  obtain ⟨b79_12, u79_12, cs79_12, l79_12, f79_12, j79_12, i79_12, g79_12, k79_12⟩ := OwnS.elem wst11 (by rw [List.getElem?_set_self (by first | exact hl73 | simpa using hl73)])
                  obtain rfl : l79_12 = [.int .i64 (y73.1), .bool false] := g79_12
                  obtain rfl : b79_12 = b73 := by have h := j79_12.symm.trans j73; injection h with h1; injection h1 with h2; injection h2
                  refine R.ldAt (l := [.int .i64 (y73.1), .bool false]) Tryd.isAgg101 Tryd.sizeOf101 rfl rfl (by rw [← f79_12]; exact .hd) rfl (fun j u h => k79_12 j u h) ?_
                  refine R.callv rfl rfl rfl (alloc_usable_c _ ((y73.1, false))) ?_
                  refine TL.nil (Post.thnN ?_)
                  refine T.cond rfl (fun c80 => ?_) (fun c80 => ?_)
                  · refine T.set 80 (.bool true) (congrArg Value.bool c80) ?_
                    refine T.region ?_
                    refine R.fldA Tryd.underlying25 rfl Tryd.sizeOf23 (by decide) rfl rfl ?_
                    refine R.ld Tryd.isAgg23 rfl rfl (.tl (.tl (.tl .hd))) rfl ?_
                    refine R.mvE rfl (by conv => lhs; whnf) ?_
                    refine R.bs rfl (run_buildSlice1 Tryd.underlying23 Tryd.sizeOf3 Tryd.zeroValue3 rfl rfl) ?_
                    intro b84
                    have w84 : OwnS (intE .i64) 3 H_c3 (.slice (some ⟨b84, 0, none⟩) 1 1) [y51] [(b84, .cells #[.int .i64 y51] 3)] := OwnS.lit (xs := [y51]) (cellsOf_cons (a := [.int .i64 y51]) rfl cellsOf_nil) (by show 1 ≤ maxLen; decide)
                    obtain ⟨k85, y85, r85⟩ := Src.ownA w84
                    refine R.app (E := (intE .i64)) (e := 3) (xs := xb2l2_2) (ys := [y51]) Tryd_ty23 rfl rfl rfl (OwnS.mono wb2l2_2 s_c3) (.tl (.tl (.tl (.tl (.tl .hd))))) (r85 _ .hd) y85 (by (try simp only [List.length_append, List.length_cons, List.length_nil, List.length_replicate, List.length_take, List.length_drop]); omega) (by (try simp only [List.length_append, List.length_cons, List.length_nil, List.length_replicate, List.length_take, List.length_drop]); omega) ?_
                    intro v85 c85 w85
                    obtain ⟨A85, p85, rfl, m85, n85⟩ := OwnS.shape w85
                    refine TL.del (.tl .hd) ?_
                    refine R.fldA Tryd.underlying25 rfl Tryd.sizeOf23 (by decide) rfl rfl ?_
                    refine R.stX (old := [.int .i64 nb2l2_0, .slice Ab2l2_1 xb2l2_1.length pb2l2_1, .slice Ab2l2_2 xb2l2_2.length pb2l2_2]) (l := [.slice A85 (xb2l2_2 ++ [y51]).length p85]) (new := [.int .i64 nb2l2_0, .slice Ab2l2_1 xb2l2_1.length pb2l2_1, .slice A85 (xb2l2_2 ++ [y51]).length p85]) (et := 25) Tryd.sizeOf23 rfl rfl rfl (cells1 rfl) rfl (by show 2 + 1 ≤ 3; decide) rfl (all_one rfl) (.tl (.tl (.tl (.tl .hd)))) ?_
                    refine TL.nil (Post.blkN ?_)
                    refine id (Post.thnN ?_)
                    refine T.region ?_
                    refine R.addI rfl rfl rfl (by omega) ?_
                    refine R.mvE rfl (by conv => lhs; whnf) ?_
                    refine TL.nil (Post.thnN ?_)
                    exact ⟨(kl2 + 1, xr45_0_1l2, cr45_0_1l2, nb2l2_0, .slice Ab2l2_1 xb2l2_1.length pb2l2_1, (xb2l2_1.set (((y51 - 1)).toNat) ((y73.1, false))), cst11, .slice A85 (xb2l2_2 ++ [y51]).length p85, (xb2l2_2 ++ [y51]), c85), (s_l2.trans s_c3), ⟨(by omega), (Has.cons (.tl (.tl .hd)) (Has.cons (.tl (.tl .hd)) (Has.cons (.tl (.tl .hd)) (Has.cons (.tl .hd) (Has.cons .hd Has.nil))))), (OwnS.mono wr45_0_1l2 s_c3), wst11, w85, (by first | omega | (simp; done) | (simp; omega) | (simp at *; omega)), (by first | omega | (simp; done) | (simp; omega) | (simp at *; omega)), (by subst e73; subst e51; rw [← hQl2, show x7l1.length - kl2 = (x7l1.length - (kl2 + 1)) + 1 by omega, alloc_Give_l2]; rw [hTc3, LR.seq_go, if_f c67, if_t c80])⟩, by show x7l1.length - (kl2 + 1) < x7l1.length - kl2; omega, rfl, rfl, rfl, rfl, rfl, rfl, trivial⟩
                  · refine T.set 80 (.bool false) (congrArg Value.bool c80) ?_
                    refine T.skip (Post.blkN ?_)
                    refine id (Post.thnN ?_)
                    refine T.region ?_
                    refine R.addI rfl rfl rfl (by omega) ?_
                    refine R.mvE rfl (by conv => lhs; whnf) ?_
                    refine TL.nil (Post.thnN ?_)
                    exact ⟨(kl2 + 1, xr45_0_1l2, cr45_0_1l2, nb2l2_0, .slice Ab2l2_1 xb2l2_1.length pb2l2_1, (xb2l2_1.set (((y51 - 1)).toNat) ((y73.1, false))), cst11, .slice Ab2l2_2 xb2l2_2.length pb2l2_2, xb2l2_2, cb2l2_2), (s_l2.trans s_c3), ⟨(by omega), (Has.cons (.tl .hd) (Has.cons (.tl .hd) (Has.cons (.tl .hd) (Has.cons .hd (Has.cons .hd Has.nil))))), (OwnS.mono wr45_0_1l2 s_c3), wst11, (OwnS.mono wb2l2_2 s_c3), (by first | omega | (simp; done) | (simp; omega) | (simp at *; omega)), (by first | omega | (simp; done) | (simp; omega) | (simp at *; omega)), (by subst e73; subst e51; rw [← hQl2, show x7l1.length - kl2 = (x7l1.length - (kl2 + 1)) + 1 by omega, alloc_Give_l2]; rw [hTc3, LR.seq_go, if_f c67, if_f c80])⟩, by show x7l1.length - (kl2 + 1) < x7l1.length - kl2; omega, rfl, rfl, rfl, rfl, rfl, rfl, trivial⟩
            · refine T.exit (Post.thnE (Post.thnE (Post.blkX ?_)))
              have hEl2 : alloc_Give_l2 x7l1 (x7l1.length - 0) 0 ((r45.2.1, r45.1, r45.2.1, r45.2.2)) = .go ((xr45_0_1l2, nb2l2_0, xb2l2_1, xb2l2_2)) := (hQl2.symm.trans (by rw [show kl2 = x7l1.length by omega, Nat.sub_self, alloc_Give_l2]))
              refine id (Post.thnN ?_)
              refine T.seq ?_
              refine T.region ?_
              refine R.ldX (cs := [.int .i64 nb2l2_0, .slice Ab2l2_1 xb2l2_1.length pb2l2_1, .slice Ab2l2_2 xb2l2_2.length pb2l2_2]) (l := [.int .i64 nb2l2_0, .slice Ab2l2_1 xb2l2_1.length pb2l2_1, .slice Ab2l2_2 xb2l2_2.length pb2l2_2]) Tryd.isAgg25 Tryd.sizeOf25 rfl rfl (.tl (.tl .hd)) rfl rfl ?_
              refine R.stX (old := [.int .i64 0, .slice none 0 0, .slice none 0 0]) (l := [.int .i64 nb2l2_0, .slice Ab2l2_1 xb2l2_1.length pb2l2_1, .slice Ab2l2_2 xb2l2_2.length pb2l2_2]) (new := [.int .i64 nb2l2_0, .slice Ab2l2_1 xb2l2_1.length pb2l2_1, .slice Ab2l2_2 xb2l2_2.length pb2l2_2]) (et := 25) Tryd.sizeOf25 rfl rfl rfl rfl rfl (by show 0 + 3 ≤ 3; decide) rfl (all_one rfl) (.tl .hd) ?_
              refine R.asE rfl (by conv => lhs; whnf) ?_
              refine TL.nil (Post.thnN ?_)
              refine T.has (Has.cons (.tl (.tl (.tl .hd))) (Has.cons (.tl (.tl (.tl .hd))) (Has.cons (.tl .hd) Has.nil))) ?_
              refine T.ret ?_
              have hM : alloc_Give_m a0 a1 = ((nb2l2_0, xb2l2_1, xb2l2_2), 0) := by subst er45; rw [alloc_Give_m, if_neg c18, if_f c24, hEl1, LR.seq_go, LR.seq_go, hEl2, LR.on_go]
              exact finR2 (v := .agg #[.int .i64 nb2l2_0, .slice Ab2l2_1 xb2l2_1.length pb2l2_1, .slice Ab2l2_2 xb2l2_2.length pb2l2_2]) (v' := .int .i64 0) [cb2l2_1, cb2l2_2] rfl (.cellA (cs := [.int .i64 nb2l2_0, .slice Ab2l2_1 xb2l2_1.length pb2l2_1, .slice Ab2l2_2 xb2l2_2.length pb2l2_2]) (l := [.int .i64 nb2l2_0, .slice Ab2l2_1 xb2l2_1.length pb2l2_1, .slice Ab2l2_2 xb2l2_2.length pb2l2_2]) Tryd.isAgg25 Tryd.sizeOf25 rfl (.tl (.tl .hd)) rfl rfl) (.tmp rfl) (List.sublist_append_left ([cb2l2_1, cb2l2_2] : Own) _) ⟨.slice Ab2l2_1 xb2l2_1.length pb2l2_1, .slice Ab2l2_2 xb2l2_2.length pb2l2_2, cb2l2_1, cb2l2_2, by first | rw [hM] | rfl, rfl, by rw [hM]; exact wb2l2_1, by rw [hM]; exact wb2l2_2⟩

end Go.SX
