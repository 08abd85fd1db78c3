/- Lemmas. -/
import Derived.Test.YtflpmgehkoachaaGreatDoorKV1
set_option maxHeartbeats 3200000
set_option linter.unusedVariables false
set_option linter.unusedSimpArgs false
namespace Go.SX
open Go Go.Proofs Go.Proofs.Tryz
def kbG (x : Int) : Nat → Bool
  | 1 => k_99 x (k_e x).1 (k_e x).2
  | 2 => k_a5 x (k_e x).2
  | 3 => k_a4 x (k_e x).1 (k_e x).2
  | 4 => identKind4_m x (k_e x).1 (k_e x).2
  | _ => false
def kindG (x : Int) : Int := if kbG x 1 then 1 else if kbG x 2 then 2 else if kbG x 3 then 3 else if kbG x 4 then 4 else 0
theorem kindG_at {x : Int} {k : Nat} (h1 : 1 ≤ k) (h4 : k ≤ 4) (hk : kbG x k = true) (hlt : ∀ j, 1 ≤ j → j < k → kbG x j = false) : kindG x = k := by
  unfold kindG
  have h : k = 1 ∨ k = 2 ∨ k = 3 ∨ k = 4 := by omega
  rcases h with rfl | rfl | rfl | rfl
  · simp [hk]
  · simp [hk, hlt 1 (by omega) (by omega)]
  · simp [hk, hlt 1 (by omega) (by omega), hlt 2 (by omega) (by omega)]
  · simp [hk, hlt 1 (by omega) (by omega), hlt 2 (by omega) (by omega), hlt 3 (by omega) (by omega)]
theorem kindG_none {x : Int} (hlt : ∀ j, 1 ≤ j → j < 5 → kbG x j = false) : kindG x = 0 := by
  unfold kindG
  simp [hlt 1 (by omega) (by omega), hlt 2 (by omega) (by omega), hlt 3 (by omega) (by omega), hlt 4 (by omega) (by omega)]
theorem kindG_c (H : Heap) (x : Int) : Fv Tryz.prog (fnv 41) [.int .u64 x] H (.int .i64 (kindG x)) := by
 refine Fc.of_body (N := 26) func41 rfl kA rfl rfl ?_
 intro w0
 refine sR (R.box rfl cA ?_)
 intro b1
 refine aA ?_
 refine nN (sR (R.ld isAgg39 rfl rfl (by repeat (first | exact .hd | refine .tl ?_)) rfl ?_))
 refine R.callv rfl rfl rfl (ident_halves_c _ x) ?_
 refine mA ?_
 refine R.ext rfl rfl rfl ?_
 refine R.ext rfl rfl rfl ?_
 refine R.alloc zeroValue3 rfl ?_
 intro b3
 refine R.alloc zeroValue3 rfl ?_
 intro b4
 refine R.st sizeOf3 rfl rfl cA rfl (by first | exact .hd | exact .tl .hd | exact .tl (.tl .hd) | exact .tl (.tl (.tl .hd)) | exact .tl (.tl (.tl (.tl .hd))) | exact .tl (.tl (.tl (.tl (.tl .hd)))) | exact .tl (.tl (.tl (.tl (.tl (.tl .hd))))) | exact .tl (.tl (.tl (.tl (.tl (.tl (.tl .hd)))))) | exact .tl (.tl (.tl (.tl (.tl (.tl (.tl (.tl .hd))))))) | exact .tl (.tl (.tl (.tl (.tl (.tl (.tl (.tl (.tl .hd))))))))) ?_
 refine R.st sizeOf3 rfl rfl cA rfl (by first | exact .hd | exact .tl .hd | exact .tl (.tl .hd) | exact .tl (.tl (.tl .hd)) | exact .tl (.tl (.tl (.tl .hd))) | exact .tl (.tl (.tl (.tl (.tl .hd)))) | exact .tl (.tl (.tl (.tl (.tl (.tl .hd))))) | exact .tl (.tl (.tl (.tl (.tl (.tl (.tl .hd)))))) | exact .tl (.tl (.tl (.tl (.tl (.tl (.tl (.tl .hd))))))) | exact .tl (.tl (.tl (.tl (.tl (.tl (.tl (.tl (.tl .hd))))))))) ?_
 refine nN (T.seq (T.shut .hd ?_))
 intro H4 s4 q4
 refine T.shut .hd ?_
 intro H3 s3 q3
 refine T.shut .hd ?_
 intro H1 s1 q1
 have h4 : H1 b4 = some (.cells #[.int .i64 (k_e x).2] 3) := s1 _ _ (s3 _ _ (shut1 q4))
 have h3 : H1 b3 = some (.cells #[.int .i64 (k_e x).1] 3) := s1 _ _ (shut1 q3)
 have h1 : H1 b1 = some (.cells #[.int .u64 x] 39) := shut1 q1
 refine T.region (R.mkf (cs := [_, _, _]) rfl rfl ?_)
 refine R.mkf (cs := [_, _]) rfl rfl ?_
 refine R.mkf (cs := [_, _, _]) rfl rfl ?_
 refine R.mkf (cs := [_, _, _]) rfl rfl ?_
 refine R.bld (cs := ([.nilFunc, .func (.func 104) #[] ([.pointer (some ⟨b1, 0, none⟩), .pointer (some ⟨b3, 0, none⟩), .pointer (some ⟨b4, 0, none⟩)] : List Value).toArray, .func (.func 107) #[] ([.pointer (some ⟨b1, 0, none⟩), .pointer (some ⟨b4, 0, none⟩)] : List Value).toArray, .func (.func 108) #[] ([.pointer (some ⟨b1, 0, none⟩), .pointer (some ⟨b3, 0, none⟩), .pointer (some ⟨b4, 0, none⟩)] : List Value).toArray, .func (.func 109) #[] ([.pointer (some ⟨b1, 0, none⟩), .pointer (some ⟨b3, 0, none⟩), .pointer (some ⟨b4, 0, none⟩)] : List Value).toArray])) rfl (fun _ => by kernel_rfl) ?_
 refine R.alloc zeroValue160 rfl ?_
 intro b5
 refine R.stA (old := [.nilFunc, .nilFunc, .nilFunc, .nilFunc, .nilFunc]) sizeOf160 rfl rfl rfl rfl rfl (by intro v hv; simp at hv; rcases hv with rfl | rfl | rfl | rfl | rfl <;> rfl) .hd ?_
 refine TL.shut .hd ?_
 intro H5 s5 q5
 have h5 := shut1 q5
 refine nN (T.seq (sR (aA ?_)))
 refine nN (T.block (T.loop (ι := Nat) (fun k H' L' ds' => (1 ≤ k ∧ k ≤ 5) ∧ ∀ j, 1 ≤ j → j < k → kbG x j = false) (fun k => [(5, .pointer (some ⟨b5, 0, none⟩)), (6, .int .i64 (k : Nat))]) (fun k => 5 - k) (1) ?_ ?_ ?_))
 exact ⟨⟨by omega, by omega⟩, fun j h1 h2 => absurd h2 oA⟩
 exact ⟨rfl, rfl, trivial⟩
 intro k σ0 H_0 L_0 ds_0 s_0 hI_0
 obtain ⟨hk, hlt⟩ := hI_0
 refine T.seq (sR (mA ?_))
 refine R.leq rfl rfl rfl ?_
 refine nN (T.condD rfl (fun c18 => ?_) (fun c18 => ?_))
 obtain ⟨fv, hfv, hcall⟩ : ∃ fv, ([.nilFunc, .func (.func 104) #[] ([.pointer (some ⟨b1, 0, none⟩), .pointer (some ⟨b3, 0, none⟩), .pointer (some ⟨b4, 0, none⟩)] : List Value).toArray, .func (.func 107) #[] ([.pointer (some ⟨b1, 0, none⟩), .pointer (some ⟨b4, 0, none⟩)] : List Value).toArray, .func (.func 108) #[] ([.pointer (some ⟨b1, 0, none⟩), .pointer (some ⟨b3, 0, none⟩), .pointer (some ⟨b4, 0, none⟩)] : List Value).toArray, .func (.func 109) #[] ([.pointer (some ⟨b1, 0, none⟩), .pointer (some ⟨b3, 0, none⟩), .pointer (some ⟨b4, 0, none⟩)] : List Value).toArray] : List Value).toArray[0 + ((k : Nat) : Int).toNat * 1]? = some fv ∧ ∀ H', HLe H5 H' → Fv Tryz.prog fv [] H' (.bool (kbG x k)) := by
   have hk4 : k = 1 ∨ k = 2 ∨ k = 3 ∨ k = 4 := by omega
   rcases hk4 with rfl | rfl | rfl | rfl
   · exact ⟨_, rfl, fun H' s => identKind1_c H' b1 x (s _ _ (s5 _ _ h1)) b3 (k_e x).1 (s _ _ (s5 _ _ h3)) b4 (k_e x).2 (s _ _ (s5 _ _ h4))⟩
   · exact ⟨_, rfl, fun H' s => identKind2_c H' b1 x (s _ _ (s5 _ _ h1)) b4 (k_e x).2 (s _ _ (s5 _ _ h4))⟩
   · exact ⟨_, rfl, fun H' s => identKind3_c H' b1 x (s _ _ (s5 _ _ h1)) b3 (k_e x).1 (s _ _ (s5 _ _ h3)) b4 (k_e x).2 (s _ _ (s5 _ _ h4))⟩
   · exact ⟨_, rfl, fun H' s => identKind4_c H' b1 x (s _ _ (s5 _ _ h1)) b3 (k_e x).1 (s _ _ (s5 _ _ h3)) b4 (k_e x).2 (s _ _ (s5 _ _ h4))⟩
 refine T.skip (Post.thnN (T.seq ?_))
 refine T.block (sR (mA ?_))
 refine R.ixA underlying160 sizeOf32 rfl rfl rfl oA oA ?_
 refine R.ldH isAgg32 rfl rfl (s_0 _ _ h5) (hfv) ?_
 refine R.callv rfl rfl rfl (hcall _ s_0) ?_
 refine nN (T.cond rfl (fun c24 => ?_) (fun c24 => ?_))
 refine sR (mA ?_)
 refine aA ?_
 refine nN (T.ret (Post.blkR (Post.thnR (Post.thnR (Post.blkR (Post.thnR ?_))))))
 exact fin1 rfl rfl ⟨rfl, congrArg (Value.int .i64) (kindG_at hk.1 oA c24 hlt).symm⟩
 refine T.skip (Post.blkN ?_)
 refine id (Post.thnN (T.region ?_))
 refine mA ?_
 refine R.addI rfl rfl rfl oA ?_
 refine aA ?_
 refine nN ?_
 exact ⟨k + 1, s_0, ⟨⟨by omega, by omega⟩, fun j j1 j2 => if e : j = k then by rw [e]; exact c24 else hlt j j1 oA⟩, by omega, ⟨rfl, rfl, trivial⟩⟩
 refine T.exit (Post.thnE (Post.thnE (Post.blkX ?_)))
 refine id (Post.thnN (sR ?_))
 refine aA ?_
 refine nN (T.ret ?_)
 exact fin1 rfl rfl ⟨rfl, congrArg (Value.int .i64) (kindG_none (fun j j1 j2 => hlt j j1 oA)).symm⟩
def k_1 (a0 : Int) : Int × Int :=
  LR.seq (k_e a0) (fun r8 => LR.seq (if ((kindG a0) : Int) = 1 then true else ((decide (((kindG a0) : Int) = 2))) : Bool) (fun sc1 => if sc1 = true then ((r8.2, r8.1)) else (LR.seq (if ((kindG a0) : Int) = 3 then true else ((decide (((kindG a0) : Int) = 4))) : Bool) (fun sc2 => if sc2 = true then ((r8.1, r8.2)) else ((0, 0))))))
theorem k_57 (H : Heap) (a0 : Int) : Fv Tryz.prog (fnv 13) [.int .u64 a0] H (.tuple #[.int .i64 (k_1 a0).1, .int .i64 (k_1 a0).2]) := by
 refine Fc.of_body (N := 23) func13 rfl kA rfl rfl ?_
 intro w0
 refine sR (aA ?_)
 refine aA ?_
 refine nN (sR (mA ?_))
 obtain ⟨r8, a9⟩ : ∃ r, r = (k_e a0) := ⟨_, rfl⟩
 refine R.callv (v := .tuple #[.int .i64 r8.1, .int .i64 r8.2]) rfl rfl rfl (by rw [a9]; exact ident_halves_c _ (a0)) ?_
 refine mA ?_
 refine R.ext rfl rfl rfl ?_
 refine R.ext rfl rfl rfl ?_
 refine aA ?_
 refine aA ?_
 refine nN (T.seq (sR (mA ?_)))
 refine R.callv rfl rfl rfl (kindG_c _ a0) ?_
 refine nN (T.block (T.seq (sR (R.eql rfl rfl rfl ?_))))
 refine aA ?_
 refine nN (T.cutK (ι := Bool) (fun a3 H' L' ds' => Has L' [] ∧ (if ((kindG a0) : Int) = 1 then true else ((decide (((kindG a0) : Int) = 2))) : Bool) = a3) (fun a3 => [(4, .int .i64 (r8.1)), (5, .int .i64 (r8.2)), (12, .int .i64 (kindG a0)), (13, .bool (a3))]) ?_ ?_)
 refine T.condD rfl (fun a1 => ?_) (fun a1 => ?_)
 refine T.set 13 (.bool true) (congrArg Value.bool (decide_eq_true a1)) ?_
 refine T.skip (Post.thnN ?_)
 exact ⟨true, HLe.refl _, ⟨Has.nil, (by rw [if_pos a1])⟩, rfl, rfl, rfl, rfl, trivial⟩
 refine T.set 13 (.bool false) (congrArg Value.bool (decide_eq_false a1)) ?_
 refine T.region (R.eql rfl rfl rfl ?_)
 refine aA ?_
 refine nN ?_
 exact ⟨(decide (((kindG a0) : Int) = 2)), HLe.refl _, ⟨Has.nil, (by rw [if_neg a1])⟩, rfl, rfl, rfl, rfl, trivial⟩
 intro a3 σ_c1 H_c1 L_c1 ds_c1 s_c1 b0
 obtain ⟨hLc1, a5⟩ := b0
 refine T.has hLc1 ?_
 refine T.cond rfl (fun a1 => ?_) (fun a1 => ?_)
 refine T.set 13 (.bool true) (congrArg Value.bool a1) ?_
 have a7 := a5.trans a1
 try simp only [or_f, or_t, and_f, and_t, decide_eq_true_eq, decide_eq_false_iff_not, Bool.not_eq_true'] at a7
 refine sR (mA ?_)
 refine mA ?_
 refine aA ?_
 refine aA ?_
 refine nN (T.has Has.nil ?_)
 refine T.ret (Post.blkR (Post.thnR ?_))
 have hM : k_1 a0 = (r8.2, r8.1) := by subst a9; rw [k_1, LR.seq_go, a5, LR.seq_go, if_t a1]
 exact fin2L (v := .int .i64 (r8.2)) (v' := .int .i64 (r8.1)) [] rfl rfl rfl (List.Sublist.refl _) ⟨rfl, by first | rw [hM] | rfl⟩
 refine T.set 13 (.bool false) (congrArg Value.bool a1) ?_
 have a7 := a5.trans a1
 try simp only [or_f, or_t, and_f, and_t, decide_eq_true_eq, decide_eq_false_iff_not, Bool.not_eq_true'] at a7
 refine T.seq (sR (R.eql rfl rfl rfl ?_))
 refine aA ?_
 refine nN (T.cutK (ι := Bool) (fun a4 H' L' ds' => Has L' [] ∧ (if ((kindG a0) : Int) = 3 then true else ((decide (((kindG a0) : Int) = 4))) : Bool) = a4) (fun a4 => [(4, .int .i64 (r8.1)), (5, .int .i64 (r8.2)), (18, .bool (a4))]) ?_ ?_)
 refine T.condD rfl (fun a2 => ?_) (fun a2 => ?_)
 refine T.set 18 (.bool true) (congrArg Value.bool (decide_eq_true a2)) ?_
 refine T.skip (Post.thnN ?_)
 exact ⟨true, HLe.refl _, ⟨Has.nil, (by rw [if_pos a2])⟩, rfl, rfl, rfl, trivial⟩
 refine T.set 18 (.bool false) (congrArg Value.bool (decide_eq_false a2)) ?_
 refine T.region (R.eql rfl rfl rfl ?_)
 refine aA ?_
 refine nN ?_
 exact ⟨(decide (((kindG a0) : Int) = 4)), HLe.refl _, ⟨Has.nil, (by rw [if_neg a2])⟩, rfl, rfl, rfl, trivial⟩
 intro a4 σ_c2 H_c2 L_c2 ds_c2 s_c2 b1
 obtain ⟨hLc2, a6⟩ := b1
 refine T.has hLc2 ?_
 refine T.cond rfl (fun a2 => ?_) (fun a2 => ?_)
 refine T.set 18 (.bool true) (congrArg Value.bool a2) ?_
 have a8 := a6.trans a2
 try simp only [or_f, or_t, and_f, and_t, decide_eq_true_eq, decide_eq_false_iff_not, Bool.not_eq_true'] at a8
 refine sR (mA ?_)
 refine mA ?_
 refine aA ?_
 refine aA ?_
 refine nN (T.has Has.nil ?_)
 refine T.ret (Post.blkR (Post.thnR ?_))
 have hM : k_1 a0 = (r8.1, r8.2) := by subst a9; rw [k_1, LR.seq_go, a5, LR.seq_go, if_f a1, a6, LR.seq_go, if_t a2]
 exact fin2L (v := .int .i64 (r8.1)) (v' := .int .i64 (r8.2)) [] rfl rfl rfl (List.Sublist.refl _) ⟨rfl, by first | rw [hM] | rfl⟩
 refine T.set 18 (.bool false) (congrArg Value.bool a2) ?_
 have a8 := a6.trans a2
 try simp only [or_f, or_t, and_f, and_t, decide_eq_true_eq, decide_eq_false_iff_not, Bool.not_eq_true'] at a8
 refine T.skip (Post.blkN ?_)
 refine id (Post.thnN (sR ?_))
 refine aA ?_
 refine aA ?_
 refine nN (T.has Has.nil ?_)
 refine T.ret ?_
 have hM : k_1 a0 = (0, 0) := by subst a9; rw [k_1, LR.seq_go, a5, LR.seq_go, if_f a1, a6, LR.seq_go, if_f a2]
 exact fin2L (v := .int .i64 0) (v' := .int .i64 0) [] rfl rfl rfl (List.Sublist.refl _) ⟨rfl, by first | rw [hM] | rfl⟩
def k_56 (a0 : Int) (a1 : Int) : Int × Int :=
  LR.seq (if (!(k_24 1 1048578 [a0])) = true then true else ((!(k_24 0 7 [a1]))) : Bool) (fun sc1 => if sc1 = true then ((0, 2)) else (((k_42 0 a1 a0), 0)))
theorem ident_Entity_c (H : Heap) (a0 : Int) (a1 : Int) : Fv Tryz.prog (fnv 160) [.int .i64 a0, .int .i64 a1] H (.tuple #[.int .u64 (k_56 a0 a1).1, .int .i64 (k_56 a0 a1).2]) := by
 refine Fc.of_body (N := 19) func160 rfl kA rfl rfl ?_
 intro w0
 refine sR (aA ?_)
 refine aA ?_
 refine nN (T.seq (T.seq (T.cutK (ι := Bool) (fun a2 H' L' ds' => Has L' [] ∧ (if (!(k_24 1 1048578 [a0])) = true then true else ((!(k_24 0 7 [a1]))) : Bool) = a2) (fun a2 => [(0, .int .i64 a0), (1, .int .i64 a1), (15, .bool (a2))]) ?_ ?_)))
 refine T.region (mA ?_)
 refine R.bs rfl (k_4 underlying25 sizeOf3 zeroValue3 rfl rfl) ?_
 intro b7
 have w7 := lit1 (E := (intE .i64)) (e := 3) (H := H) (b := b7) (y := a0) (a := [.int .i64 a0]) rfl
 refine TL.shut .hd ?_
 intro b0 a4 b1
 have b2 := OwnS.read w7 a4 b1
 refine R.callv rfl rfl rfl (k_91 _ (1) (1048578) _ [a0] b2) ?_
 refine R.not rfl rfl ?_
 refine mA ?_
 refine TL.gsplit 10 rfl (fun g10 => ?_) (fun g10 => ?_)
 refine oF ?_
 refine oF ?_
 refine oF ?_
 refine oF ?_
 refine R.pkTE rfl rfl cA ?_
 refine nN ?_
 exact ⟨true, a4, ⟨Has.nil, (by rw [if_t g10])⟩, rfl, rfl, rfl, trivial⟩
 refine mA ?_
 refine R.bs rfl (k_4 underlying25 sizeOf3 zeroValue3 rfl rfl) ?_
 intro b12
 have w12 := lit1 (E := (intE .i64)) (e := 3) (H := b0) (b := b12) (y := a1) (a := [.int .i64 a1]) rfl
 refine TL.shut .hd ?_
 intro HF12_2 a6 a8
 have a9 := OwnS.read w12 a6 a8
 refine R.callv rfl rfl rfl (k_91 _ (0) (7) _ [a1] a9) ?_
 refine R.not rfl rfl ?_
 refine R.pkFE rfl rfl cA ?_
 refine nN ?_
 exact ⟨(!(k_24 0 7 [a1])), (a4.trans a6), ⟨Has.nil, (by rw [if_f g10])⟩, rfl, rfl, rfl, trivial⟩
 intro a2 σ_c1 H_c1 L_c1 ds_c1 s_c1 b3
 obtain ⟨hLc1, a5⟩ := b3
 refine T.has hLc1 ?_
 refine T.cond rfl (fun a3 => ?_) (fun a3 => ?_)
 refine T.set 15 (.bool true) (congrArg Value.bool a3) ?_
 have a7 := a5.trans a3
 try simp only [or_f, or_t, and_f, and_t, decide_eq_true_eq, decide_eq_false_iff_not, Bool.not_eq_true'] at a7
 refine sR (aA ?_)
 refine aA ?_
 refine nN (T.has Has.nil ?_)
 refine T.ret (Post.thnR ?_)
 have hM : k_56 a0 a1 = (0, 2) := by rw [k_56, a5, LR.seq_go, if_t a3]
 exact fin2L (v := .int .u64 0) (v' := .int .i64 2) [] rfl rfl rfl (List.Sublist.refl _) ⟨rfl, by first | rw [hM] | rfl⟩
 refine T.set 15 (.bool false) (congrArg Value.bool a3) ?_
 have a7 := a5.trans a3
 try simp only [or_f, or_t, and_f, and_t, decide_eq_true_eq, decide_eq_false_iff_not, Bool.not_eq_true'] at a7
 refine T.skip (Post.thnN (sR ?_))
 refine mA ?_
 refine mA ?_
 refine R.callv rfl rfl rfl (k_ac _ (0) (a1) (a0)) ?_
 refine aA ?_
 refine aA ?_
 refine nN (T.has Has.nil ?_)
 refine T.ret ?_
 have hM : k_56 a0 a1 = ((k_42 0 a1 a0), 0) := by rw [k_56, a5, LR.seq_go, if_f a3]
 exact fin2L (v := .int .u64 (k_42 0 a1 a0)) (v' := .int .i64 0) [] rfl rfl rfl (List.Sublist.refl _) ⟨rfl, by first | rw [hM] | rfl⟩
def k_82 (a0 : Int) (a1 : Int) : Int × Int :=
  if (!(k_24 0 1048578 ([a0, a1]))) = true then ((0, 2)) else (((k_42 9223372036854775808 a0 a1), 0))
theorem ident_Pair_c (H : Heap) (a0 : Int) (a1 : Int) : Fv Tryz.prog (fnv 214) [.int .i64 a0, .int .i64 a1] H (.tuple #[.int .u64 (k_82 a0 a1).1, .int .i64 (k_82 a0 a1).2]) := by
 refine Fc.of_body (N := 14) func214 rfl kA rfl rfl ?_
 intro w0
 refine sR (aA ?_)
 refine aA ?_
 refine nN (T.seq (sR (mA ?_)))
 refine mA ?_
 refine R.bsN [.int .i64 a0, .int .i64 a1] rfl underlying25 sizeOf3 zeroValue3 rfl rfl rfl rfl rfl rfl ?_
 intro b8
 have w8 : OwnS (intE .i64) 3 H (.slice (some ⟨b8, 0, none⟩) 2 2) [a0, a1] [(b8, .cells #[.int .i64 a0, .int .i64 a1] 3)] := OwnS.lit (xs := [a0, a1]) (k_5 (a := [.int .i64 a0]) rfl (k_5 (a := [.int .i64 a1]) rfl k_7)) (by show 2 ≤ maxLen; decide)
 refine TL.shut .hd ?_
 intro HF8_1 a3 a4
 have a5 := OwnS.read w8 a3 a4
 refine R.callv rfl rfl rfl (k_91 _ (0) (1048578) _ ([a0, a1]) a5) ?_
 refine R.not rfl rfl ?_
 refine nN (T.cond rfl (fun a2 => ?_) (fun a2 => ?_))
 refine T.set 10 (.bool true) (congrArg Value.bool a2) ?_
 refine sR (aA ?_)
 refine aA ?_
 refine nN (T.has Has.nil ?_)
 refine T.ret (Post.thnR ?_)
 have hM : k_82 a0 a1 = (0, 2) := by rw [k_82, if_t a2]
 exact fin2L (v := .int .u64 0) (v' := .int .i64 2) [] rfl rfl rfl (List.Sublist.refl _) ⟨rfl, by first | rw [hM] | rfl⟩
 refine T.set 10 (.bool false) (congrArg Value.bool a2) ?_
 refine T.skip (Post.thnN (sR ?_))
 refine mA ?_
 refine mA ?_
 refine R.callv rfl rfl rfl (k_ac _ (9223372036854775808) (a0) (a1)) ?_
 refine aA ?_
 refine aA ?_
 refine nN (T.has Has.nil ?_)
 refine T.ret ?_
 have hM : k_82 a0 a1 = ((k_42 9223372036854775808 a0 a1), 0) := by rw [k_82, if_f a2]
 exact fin2L (v := .int .u64 (k_42 9223372036854775808 a0 a1)) (v' := .int .i64 0) [] rfl rfl rfl (List.Sublist.refl _) ⟨rfl, by first | rw [hM] | rfl⟩
def k_54 (a0 : Int) (a1 : Int) (a2 : Int) : Int :=
  (IntKind.u64.wrap ((IntKind.u64.wrap (a0 + (IntKind.u64.wrap ((IntKind.u64.wrap a1) * 4294967296)))) + (IntKind.u64.wrap a2)))
theorem windroseref01_Made_c (H : Heap) (a0 : Int) (a1 : Int) (a2 : Int) : Fv Tryz.prog (fnv 49) [.int .u64 a0, .int .i64 a1, .int .i64 a2] H (.int .u64 (k_54 a0 a1 a2)) := by
 refine Fc.of_body (N := 15) func49 rfl kA rfl rfl ?_
 intro w0
 refine sR (aA ?_)
 refine nN (sR (mA ?_))
 refine mA ?_
 refine R.conv underlying3 underlying38 rfl rfl ?_
 refine R.mul rfl rfl rfl ?_
 refine R.add rfl rfl rfl ?_
 refine mA ?_
 refine R.conv underlying3 underlying38 rfl rfl ?_
 refine R.add rfl rfl rfl ?_
 refine aA ?_
 refine nN (T.has Has.nil ?_)
 refine T.ret ?_
 have hM : k_54 a0 a1 a2 = (IntKind.u64.wrap ((IntKind.u64.wrap (a0 + (IntKind.u64.wrap ((IntKind.u64.wrap a1) * 4294967296)))) + (IntKind.u64.wrap a2))) := by rw [k_54]
 exact fin1L (v := .int .u64 (IntKind.u64.wrap ((IntKind.u64.wrap (a0 + (IntKind.u64.wrap ((IntKind.u64.wrap a1) * 4294967296)))) + (IntKind.u64.wrap a2)))) [] rfl rfl (List.Sublist.refl _) ⟨rfl, by first | rw [hM] | rfl⟩
end Go.SX
namespace Go.SX
open Go
attribute [local semireducible] T TL
section
variable {fr : Fr} {x : Cx} {Q : Post} {σ : Env} {H : Heap} {L : Own} {ds : List Nat} {ol rest : List Oper} {d : Nat} {ty : TypeId} {p : String} {af : Array Edge} {g : Option (Nat × Bool)}
end
end Go.SX
namespace Go.SX
open Go
attribute [local semireducible] T TL
theorem k_ad {P : Program} {t o : Nat} {xs : Array Value} {u : Value} {w : World} (ha : ∀ w, (isAgg t).run P w = .ok false w) (hx : xs[o]? = some u) : (part t xs o).run P w = .ok u w := by
  simp [part, ha, hx]
theorem part_agg {P : Program} {t o n : Nat} {xs : Array Value} {l : List Value} {w : World} (ha : ∀ w, (isAgg t).run P w = .ok true w) (hs : ∀ w, (sizeOf t).run P w = .ok n w) (hl : xs.extract o (o + n) = l.toArray) : (part t xs o).run P w = .ok (.agg l.toArray) w := by
  simp [part, ha, hs, hl]
theorem eqF_nil {P : Program} {d : Nat} {xs ys : Array Value} {w : World} : (Op.eqFields d xs ys []).run P w = .ok true w := rfl
theorem eqF_cons {P : Program} {d : Nat} {xs ys : Array Value} {f : Field} {fs : List Field} {u v : Value} {r r' : Bool} {w : World} (hn : f.name ≠ "_") (hx : (part f.type xs f.offset).run P w = .ok u w) (hy : (part f.type ys f.offset).run P w = .ok v w)
    (he : (Op.equalIn d f.type u v).run P w = .ok r w) (hr : (Op.eqFields d xs ys fs).run P w = .ok r' w) : (Op.eqFields d xs ys (f :: fs)).run P w = .ok (r && r') w := by
  cases r <;> simp [Op.eqFields, hn, hx, hy, he, hr]
theorem eq_int {P : Program} {d t : Nat} {k : IntKind} {a b : Int} {w : World} (hu : P.underlying t = some (.int k)) : (Op.equalIn (d + 1) t (.int k a) (.int k b)).run P w = .ok (decide (a = b)) w := by
  have h := run_equalIn_int (P := P) w d t k k a b hu
  rw [h]
  congr 1
theorem eq_bool {P : Program} {d t : Nat} {a b : Bool} {w : World} (hu : P.underlying t = some .bool) : (Op.equalIn (d + 1) t (.bool a) (.bool b)).run P w = .ok (decide (a = b)) w := by
  rw [run_equalIn_bool hu]
  congr 1
theorem eq_struct {P : Program} {d t : Nat} {fs : Array Field} {xs ys : Array Value} {r : Bool} {w : World} (hu : P.underlying t = some (.struct fs)) (hs : P.stoodInHeld t = false) (h : (Op.eqFields d xs ys fs.toList).run P w = .ok r w) : (Op.equalIn (d + 1) t (.agg xs) (.agg ys)).run P w = .ok r w := by
  have hf : P.fieldsOf t = fs := by unfold Program.fieldsOf; rw [hu]
  rw [run_equalIn_struct w d t xs ys (by rw [hf]; exact hu) hs, hf]
  exact h
section
variable {fr : Fr} {x : Cx} {Q : Post} {σ : Env} {H : Heap} {L : Own} {ds : List Nat} {ol rest : List Oper} {d : Nat} {ty : TypeId} {p : String} {af : Array Edge} {g : Option (Nat × Bool)}
theorem R.eqG {α : Type} [DecidableEq α] {X Y : Operand} {t yt : TypeId} {a b : α} {xs ys : Array Value} (he : ∀ w, (Op.equalIn 10000 t (.agg xs) (.agg ys)).run fr.P w = .ok (decide (a = b)) w) (hm : fr.P.eqGuardType fr.P.depth t = false)
    (hw : wan fr.N ol σ d g = true) (hx : ev σ X = .agg xs) (hy : ev σ Y = .agg ys)
    (h : TL fr x ol rest Q (upd σ d (.bool (decide (a = b)))) H L ds) : TL fr x ol (⟨some d, .binOp .eql t X Y yt, ty, p, af, g⟩ :: rest) Q σ H L ds :=
  TL.pureE hw rfl (fun w => by simp [execOp, hx, hy, run_eqGuard_agg w .eql t X Y _ _ hm, run_eql_struct, he w, Result.andThen]) h
theorem R.stEF {α : Type} {E : ER α} {te e : TypeId} {Ad V : Operand} {v u : Value} {m : List Value} {xs : List α} {y y' : α} {ch : Chunk} {R : Own} {j b o : Nat} (hsz : ∀ w, (sizeOf te).run fr.P w = .ok m.length w) (hw : wants ol σ g = true)
    (hown : OwnS E e H v xs ch) (hdel : Del L ch R) (hix : IxAt v E.size j b (j * E.size)) (ha : ev σ Ad = .pointer (some ⟨b, j * E.size + o, none⟩)) (hv : ev σ V = u) (hu : u.cells = m.toArray) (h1 : ∀ v ∈ m, v.oneCell' = true)
    (hj : xs[j]? = some y) (ho : o + m.length ≤ E.size) (hy : ∀ l, E.R H l y → E.R H (l.take o ++ m ++ l.drop (o + m.length)) y')
    (hk : ∀ c', OwnS E e H v (xs.set j y') c' → TL fr x ol rest Q σ H (c' :: R) ds) :
    TL fr x ol (⟨none, .store te Ad V, ty, p, af, g⟩ :: rest) Q σ H L ds := by
  intro a w hs hd hst
  have hst1 : St x H (ch ++ (R.flatten ++ hid fr.rd ds)) w := hst.perm (by rw [← List.append_assoc]; exact hdel.perm.append_right _)
  obtain ⟨o0, n0, c0, hv0, hjn, _⟩ := hix
  rcases hown with ⟨rfl, rfl, rfl⟩ | ⟨b', cap, cs, rfl, rfl, h3, h4, h5, h6⟩
  · cases hv0
  · cases hv0
    obtain ⟨l0, hl0, hl0c⟩ := h6 j y hj
    have hl0l := E.len hl0
    have hb := hst1.sat.l (b, .cells cs e) (List.mem_append_left _ (List.mem_singleton.2 rfl))
    simp only at hb
    have hfitE : j * E.size + E.size ≤ cs.size := by
      calc j * E.size + E.size = (j + 1) * E.size := by rw [Nat.add_mul, Nat.one_mul]
        _ ≤ c0 * E.size := Nat.mul_le_mul_right _ (by omega)
        _ ≤ cs.size := h5
    have hfit : j * E.size + o + m.length ≤ cs.size := by omega
    have hstore := run_storeCells_at fr.P b (j * E.size + o) e m 0 cs w hb (by omega) h1
    rw [Nat.add_zero] at hstore
    generalize hnew : cs.toList.take (j * E.size + o) ++ m ++ cs.toList.drop (j * E.size + o + m.length) = new at hstore
    have hst2 := hst1.turn (w' := w.setRow b new.toArray) (o' := .cells new.toArray e) rfl rfl rfl (by simp [World.setRow]) (by simp only [World.setRow]; rw [Array.getElem?_modify, if_pos rfl, hb]; rfl) (fun c hc => by
      simp only [World.setRow, Array.getElem?_modify]
      rw [if_neg (fun e => hc e.symm)])
    unfold wpLo
    rw [if_pos (k_a9 hs hw)]
    refine ⟨fun f _ => fenceFn _ f, ?_⟩
    rw [k_b0 rfl, hs.eval]
    have hrun : (execOp (ev σ) ⟨none, .store te Ad V, ty, p, af, g⟩).run fr.P w = .ok .skip (w.setRow b new.toArray) := by
      simp [execOp, Instr.storeAt, Instr.sureAddr, storeVar, ha, hv, hu, hsz, hstore]
    rw [hrun]
    have hcl : cs.toList.length = cs.size := Array.length_toList
    have htl : (cs.toList.take (j * E.size + o)).length = j * E.size + o := by rw [List.length_take, hcl]; omega
    have hszs : new.length = cs.size := by
      rw [← hnew, List.length_append, List.length_append, List.length_drop, htl, hcl]; omega
    have hget : ∀ q, new[q]? = if q < j * E.size + o then cs[q]? else if q < j * E.size + o + m.length then m[q - (j * E.size + o)]? else cs[q]? := by
      intro q
      rw [← hnew]
      by_cases hq : q < j * E.size + o
      · rw [if_pos hq, List.append_assoc, List.getElem?_append_left (by rw [htl]; exact hq), List.getElem?_take_of_lt hq]
        simp
      · rw [if_neg hq]
        by_cases hq2 : q < j * E.size + o + m.length
        · rw [if_pos hq2, List.getElem?_append_left (by rw [List.length_append, htl]; exact hq2), List.getElem?_append_right (by rw [htl]; omega), htl]
        · rw [if_neg hq2, List.getElem?_append_right (by rw [List.length_append, htl]; omega), List.length_append, htl, List.getElem?_drop, show j * E.size + o + m.length + (q - (j * E.size + o + m.length)) = q by omega]
          simp
    refine hk [(b, .cells new.toArray e)] (Or.inr ?_) _ _ hs hd (by simpa using hst2)
    refine ⟨b, c0, _, by rw [List.length_set], rfl, by rw [List.length_set]; exact h3, h4, by rw [List.size_toArray, hszs]; exact h5, fun k q hq => ?_⟩
    by_cases hkj : k = j
    · subst hkj
      rw [List.getElem?_set_self hjn] at hq
      injection hq with hq
      subst hq
      refine ⟨_, hy l0 hl0, fun r u hr => ?_⟩
      rw [List.getElem?_toArray, hget]
      have hlt0 : (l0.take o).length = o := by rw [List.length_take]; omega
      by_cases hro : r < o
      · rw [if_pos (by omega)]
        rw [List.append_assoc, List.getElem?_append_left (by rw [hlt0]; exact hro), List.getElem?_take_of_lt hro] at hr
        exact hl0c r u hr
      · rw [if_neg (by omega)]
        by_cases hro2 : r < o + m.length
        · rw [if_pos (by omega)]
          rw [List.getElem?_append_left (by rw [List.length_append, hlt0]; exact hro2), List.getElem?_append_right (by rw [hlt0]; omega), hlt0] at hr
          rw [show k * E.size + r - (k * E.size + o) = r - o by omega]; exact hr
        · rw [if_neg (by omega)]
          rw [List.getElem?_append_right (by rw [List.length_append, hlt0]; omega), List.length_append, hlt0, List.getElem?_drop, show o + m.length + (r - (o + m.length)) = r by omega] at hr
          exact hl0c r u hr
    · rw [List.getElem?_set_ne (fun e => hkj e.symm)] at hq
      obtain ⟨l2, h7, h8⟩ := h6 k q hq
      refine ⟨l2, h7, fun r u hr => ?_⟩
      have h9 := h8 r u hr
      have hrl : r < E.size := by rw [← E.len h7]; exact (List.getElem?_eq_some_iff.1 hr).1
      rw [List.getElem?_toArray, hget]
      rcases Nat.lt_or_ge k j with hlt | hge
      · have h10 : k * E.size + r < j * E.size := by
          calc k * E.size + r < k * E.size + E.size := by omega
            _ = (k + 1) * E.size := by rw [Nat.add_mul, Nat.one_mul]
            _ ≤ j * E.size := Nat.mul_le_mul_right _ (by omega)
        rw [if_pos (by omega)]; exact h9
      · have h10 : j * E.size + E.size ≤ k * E.size + r := by
          calc j * E.size + E.size = (j + 1) * E.size := by rw [Nat.add_mul, Nat.one_mul]
            _ ≤ k * E.size := Nat.mul_le_mul_right _ (by omega)
            _ ≤ k * E.size + r := by omega
        rw [if_neg (by omega), if_neg (by omega)]; exact h9
end
inductive ResAt (P : Program) (σ : Env) (H : Heap) (L : Own) : ResultVar → Value → Prop
  | tmp {t : Nat} {v : Value} (h : σ t = v) : ResAt P σ H L (.tmp t) v
  | cell1 {t ty b o : Nat} {cs : Array Value} {et : TypeId} {v : Value} (hagg : ∀ w, (isAgg ty).run P w = .ok false w) (ha : σ t = .pointer (some ⟨b, o, none⟩)) (hin : In L [(b, .cells cs et)]) (hv : cs[o]? = some v) : ResAt P σ H L (.cell t ty) v
  | cellA {t ty b o n : Nat} {cs l : List Value} {et : TypeId} (hagg : ∀ w, (isAgg ty).run P w = .ok true w) (hsz : ∀ w, (sizeOf ty).run P w = .ok n w) (ha : σ t = .pointer (some ⟨b, o, none⟩)) (hin : In L [(b, .cells cs.toArray et)]) (hl : (cs.drop o).take n = l) (hn : l.length = n) : ResAt P σ H L (.cell t ty) (.agg l.toArray)
  | cell1H {t ty b o : Nat} {cs : Array Value} {et : TypeId} {v : Value} (hagg : ∀ w, (isAgg ty).run P w = .ok false w) (ha : σ t = .pointer (some ⟨b, o, none⟩)) (hin : H b = some (.cells cs et)) (hv : cs[o]? = some v) : ResAt P σ H L (.cell t ty) v
  | cellAH {t ty b o n : Nat} {cs l : List Value} {et : TypeId} (hagg : ∀ w, (isAgg ty).run P w = .ok true w) (hsz : ∀ w, (sizeOf ty).run P w = .ok n w) (ha : σ t = .pointer (some ⟨b, o, none⟩)) (hin : H b = some (.cells cs.toArray et)) (hl : (cs.drop o).take n = l) (hn : l.length = n) : ResAt P σ H L (.cell t ty) (.agg l.toArray)
theorem take_drop_get {cs l : List Value} {o n : Nat} (hl : (cs.drop o).take n = l) {j : Nat} {u : Value} (hj : l[j]? = some u) : cs[o + j]? = some u := by
  rw [← hl, List.getElem?_take] at hj
  split at hj
  · rw [List.getElem?_drop] at hj; exact hj
  · cases hj
def resOne (tmps : Array Value) : ResultVar → Sem Value
  | .tmp t => pure (tmps.getD t undef)
  | .cell a t => do loadVar t (← asAddr (tmps.getD a undef))
theorem results_eq {fn : Func} {tmps : Array Value} : results fn tmps = (do
  let vs ← fn.results.mapM (resOne tmps)
  pure (if h : vs.size = 1 then vs[0] else .tuple vs)) := by
  unfold results
  congr 1
theorem ResAt.run {P : Program} {N : Nat} {σ : Env} {H : Heap} {L : Own} {r : ResultVar} {v : Value} (h : ResAt P σ H L r v) {tmps : Array Value} {w : World} (hs : Sim N σ tmps) (hsat : Sat H L.flatten w) : (resOne tmps r).run P w = .ok v w := by
  cases h with
  | tmp h => simp [resOne, hs.val, h]
  | cell1 hagg ha hin hv =>
    have hb := hsat.l _ (hin.mem (List.mem_singleton.2 rfl))
    have hc := k_5a hb hv
    simp [resOne, hs.val, ha, asAddr, loadVar, hagg, hc]
  | cellA hagg hsz ha hin hl hn =>
    have hb := hsat.l _ (hin.mem (List.mem_singleton.2 rfl))
    have hl2 := run_loadCells_list (P := P) w _ _ (fun j u hj => by rw [Addr.add_lit]; exact k_5a hb (by simpa using take_drop_get hl hj))
    rw [hn] at hl2
    simp [resOne, hs.val, ha, asAddr, loadVar, hagg, hsz, hl2]
  | cell1H hagg ha hin hv =>
    have hc := k_5a (hsat.h _ _ hin) hv
    simp [resOne, hs.val, ha, asAddr, loadVar, hagg, hc]
  | cellAH hagg hsz ha hin hl hn =>
    have hb := hsat.h _ _ hin
    have hl2 := run_loadCells_list (P := P) w _ _ (fun j u hj => by rw [Addr.add_lit]; exact k_5a hb (by simpa using take_drop_get hl hj))
    rw [hn] at hl2
    simp [resOne, hs.val, ha, asAddr, loadVar, hagg, hsz, hl2]
section
variable {P : Program} {fn : Func} {N : Nat} {post : Value → Heap → Own → Prop} {σ : Env} {H : Heap} {L : Own} {ds : List Nat} {r r' r'' : ResultVar} {v v' v'' : Value}
theorem finR1 (L' : Own) (hr : fn.results = #[r]) (h1 : ResAt P σ H L r v) (hL : List.Sublist L' L) (h : post v H L') : fnPost P fn N post .ret σ H L ds :=
  ⟨v, L', hL, fun tmps w hs hsat => by
    rw [results_eq, hr]
    simp [h1.run hs hsat], h⟩
theorem finR2 (L' : Own) (hr : fn.results = #[r, r']) (h1 : ResAt P σ H L r v) (h2 : ResAt P σ H L r' v') (hL : List.Sublist L' L) (h : post (.tuple #[v, v']) H L') : fnPost P fn N post .ret σ H L ds :=
  ⟨_, L', hL, fun tmps w hs hsat => by
    rw [results_eq, hr]
    simp [h1.run hs hsat, h2.run hs hsat], h⟩
theorem finR3 (L' : Own) (hr : fn.results = #[r, r', r'']) (h1 : ResAt P σ H L r v) (h2 : ResAt P σ H L r' v') (h3 : ResAt P σ H L r'' v'') (hL : List.Sublist L' L) (h : post (.tuple #[v, v', v'']) H L') : fnPost P fn N post .ret σ H L ds :=
  ⟨_, L', hL, fun tmps w hs hsat => by
    rw [results_eq, hr]
    simp [h1.run hs hsat, h2.run hs hsat, h3.run hs hsat], h⟩
end
end Go.SX
namespace Go.SX
theorem k_46 {α : Type} {xs : List α} {k : Nat} {z : α} (h : k < xs.length) : xs[k]? = some (xs.getD k z) := by
  rw [List.getD_eq_getElem?_getD, List.getElem?_eq_getElem h]; rfl
end Go.SX
namespace Go.SX
open Go
theorem OwnS.takeM {α : Type} {E : ER α} {e : TypeId} {H : Heap} {A : Option Addr} {n cap : Nat} {xs : List α} {c : Chunk} (h : OwnS E e H (.slice A n cap) xs c) {i m : Nat} (hi : i ≤ xs.length) (h1 : i ≤ m) (h2 : m ≤ cap) : OwnS E e H (slcV (.slice A n cap) 0 i m E.size) (xs.take i) c := by
  have hlen : (xs.take i).length = i := by rw [List.length_take]; omega
  rcases h with ⟨hv, rfl, rfl⟩ | ⟨b, cap', cs, hv, rfl, h3, h4, h5, h6⟩
  · cases hv
    have hi0 : i = 0 := by simpa using hi
    have hm0 : m = 0 := by omega
    subst hi0 hm0
    exact .inl ⟨by simp [slcV], by simp, rfl⟩
  · cases hv
    refine .inr ⟨b, m, cs, by simp only [slcV, Nat.zero_mul]; rw [hlen]; split <;> simp [Addr.add], rfl, by rw [hlen]; omega, by omega, Nat.le_trans (Nat.mul_le_mul_right _ h2) h5, fun k y hy => ?_⟩
    rw [List.getElem?_take] at hy
    split at hy
    · exact h6 k y hy
    · cases hy
end Go.SX
namespace Go.SX
open Go
attribute [local semireducible] T TL
section
variable {fr : Fr} {x : Cx} {Q : Post} {σ : Env} {H : Heap} {L : Own} {ds : List Nat} {ol rest : List Oper}
variable {d : Nat} {ty : TypeId} {p : String} {af : Array Edge} {g : Option (Nat × Bool)}
theorem TL.callB {F : Operand} {ag : List Operand} {ats : Array TypeId} {fv : Value} {vs : List Value} {post : Value → Own → Prop} (hw : wan fr.N ol σ d g = true)
    (hf : ev σ F = fv) (ha : ag.map (ev σ) = vs) (hc : ∀ H', HLe H H' → (∀ q ∈ L.flatten, H' q.1 = some q.2) → Fc fr.P fv vs H' [] (fun v _ L' => post v L'))
    (h : ∀ v L', post v L' → TL fr x ol rest Q (upd σ d v) H (L' ++ L) ds) :
    TL fr x ol (⟨some d, .call { callee := .value F, args := ag.toArray, argTypes := ats }, ty, p, af, g⟩ :: rest) Q σ H L ds := by
  intro a w hs hd hst
  obtain ⟨hdN, hwn⟩ := wan_lt hw
  obtain ⟨H2, hle, hq, hst2⟩ := St.shut (L := [L.flatten]) (R := []) (c := L.flatten) (hd := hid fr.rd ds) (by simpa using hst) .hd
  have hsub : Sat H2 [] w := hst2.sat.sub (List.nil_sublist _)
  obtain ⟨nx, w1, hrun, hnx⟩ := hc H2 hle hq w hsub
  unfold wpLo
  rw [if_pos (k_a9 hs hwn)]
  refine ⟨fun f _ => fenceFn _ f, ?_⟩
  rw [k_b0 rfl, hs.eval]
  simp only [execOp]
  rw [resolve_value, hf, ha, hrun]
  have fin : ∀ (e : Ending) w', (∃ v H' L', e = .returned v ∧ St ⟨w, H2, List.flatten []⟩ H' (List.flatten L') w' ∧ post v L') →
      (match e with
        | .returned v => wpLo (fence fr.rd) fr.P ol.toArray (lift fr x Q) rest (a.put (some d) v) w'
        | .panicked chain => lift fr x Q (.panic chain) a w'
        | .outgrown => LetsOut (lift fr x Q)) := by
    rintro e w' ⟨v, H', L', rfl, h2, h3⟩
    have k2 : St ⟨w, H, []⟩ H (List.flatten L') w' := ⟨h2.sat.weak (hle.trans h2.le), h2.chg, HLe.refl _, (fun b o h4 h5 => by have h6 : H b = none := h5; rw [h6] at h4; cases h4), h2.ln⟩
    have hj : St x H (L'.flatten ++ (L.flatten ++ hid fr.rd ds)) w' := St.join (Lp := []) hst k2
    rw [← List.append_assoc, ← List.flatten_append] at hj
    exact h v L' h3 _ w' (hs.putA d v hdN) hd hj
  cases nx with
  | enter f ag' => exact ⟨(fun h => by cases h), CallsIn.mono (calls_fence hnx) (fun e w' q => by have := fin e w' q; cases e <;> exact this)⟩
  | round l fn tmps ag' body => exact ⟨(fun h => by cases h), RoundIn.mono (round_fence hnx) (fun e w' q => by have := fin e w' q; cases e <;> exact this)⟩
  | _ => exact hnx.elim
theorem R.callvB {F : Operand} {ag : List Operand} {ats : Array TypeId} {fv : Value} {vs : List Value} {v : Value} (hw : wan fr.N ol σ d g = true)
    (hf : ev σ F = fv) (ha : ag.map (ev σ) = vs) (hc : ∀ H', HLe H H' → (∀ q ∈ L.flatten, H' q.1 = some q.2) → Fv fr.P fv vs H' v) (h : TL fr x ol rest Q (upd σ d v) H L ds) :
    TL fr x ol (⟨some d, .call { callee := .value F, args := ag.toArray, argTypes := ats }, ty, p, af, g⟩ :: rest) Q σ H L ds :=
  TL.callB (post := fun v' L' => L' = [] ∧ v' = v) hw hf ha (fun H' h1 h2 => hc H' h1 h2) (fun v' L' ⟨h1, h2⟩ => by subst h1; subst h2; exact h)
def ER.Flat {α : Type} (E : ER α) : Prop := ∀ H H' l x, E.R H l x → E.R H' l x
theorem OwnS.flat {α : Type} {E : ER α} (hE : E.Flat) {e : TypeId} {H H' : Heap} {v : Value} {xs : List α} {c : Chunk} (h : OwnS E e H v xs c) : OwnS E e H' v xs c := by
  rcases h with h | ⟨b, cap, cs, h1, h2, h3, h4, h5, h6⟩
  · exact .inl h
  · refine .inr ⟨b, cap, cs, h1, h2, h3, h4, h5, fun i x hx => ?_⟩
    obtain ⟨l, h7, h8⟩ := h6 i x hx
    exact ⟨l, hE _ _ _ _ h7, h8⟩
theorem In.all {c : Chunk} (h : In L c) {H' : Heap} (hq : ∀ q ∈ L.flatten, H' q.1 = some q.2) : ∀ q ∈ c, H' q.1 = some q.2 := fun q k => hq q (h.mem k)
theorem R.copyD {α : Type} {E : ER α} {bytes : Nat} {t t2 e : TypeId} {S X : Operand} {v xv : Value} {xs ys : List α} {ch : Chunk} {R : Own} {cells : List Value} (hty : TyE fr.P t e E bytes) (hw : wan fr.N ol σ d g = true)
    (hs : ev σ S = v) (hx : ev σ X = xv) (hown : OwnS E e H v xs ch) (hdel : Del L ch R) (hsrc : Src H L xv ys.length cells) (hys : CellsOf E H cells ys) (hlen : ys.length = xs.length)
    (hk : ∀ c', OwnS E e H v ys c' → TL fr x ol rest Q (upd σ d (.int .i64 xs.length)) H (c' :: R) ds) :
    TL fr x ol (⟨some d, .call { callee := .builtin .copy, args := #[S, X], argTypes := #[t, t2] }, ty, p, af, g⟩ :: rest) Q σ H L ds :=
  Go.SX.R.copy (dd := some d) hty (wan_lt hw).2 (fun q h => by cases h; exact (wan_lt hw).1) hs hx hown hdel hsrc hys hlen hk
end
end Go.SX
namespace Go.SX
theorem or_f {p : Prop} [Decidable p] {b : Bool} : ((if p then true else b) = false) ↔ (¬p ∧ b = false) := by by_cases h : p <;> simp [h]
theorem or_t {p : Prop} [Decidable p] {b : Bool} : ((if p then true else b) = true) ↔ (p ∨ b = true) := by by_cases h : p <;> simp [h]
theorem and_t {p : Prop} [Decidable p] {b : Bool} : ((if p then b else false) = true) ↔ (p ∧ b = true) := by by_cases h : p <;> simp [h]
theorem and_f {p : Prop} [Decidable p] {b : Bool} : ((if p then b else false) = false) ↔ (¬p ∨ b = false) := by by_cases h : p <;> simp [h]
end Go.SX
namespace Go.SX
open Go Go.Proofs Go.Proofs.Tryz
def slotE : ER (Int × Bool) where
  size := 2
  R := fun _ cs x => cs = [.int .i64 x.1, .bool x.2]
  len := fun h => by subst h; rfl
  mono := fun _ h => h
  one := fun h v hv => by subst h; simp only [List.mem_cons, List.not_mem_nil, or_false] at hv; rcases hv with rfl | rfl <;> rfl
def relationE : ER (ZL) where
  size := 6
  R := fun _ cs x => cs = [.int .i64 x.1, .bool x.2.1, .bool x.2.2.1, .int .i64 x.2.2.2.1, .int .i64 x.2.2.2.2.1, .int .i64 x.2.2.2.2.2]
  len := fun h => by subst h; rfl
  mono := fun _ h => h
  one := fun h v hv => by subst h; simp only [List.mem_cons, List.not_mem_nil, or_false] at hv; rcases hv with rfl | rfl | rfl | rfl | rfl | rfl <;> rfl
def heldE : ER (Int × Int) where
  size := 2
  R := fun _ cs x => cs = [.int .i64 x.1, .int .u64 x.2]
  len := fun h => by subst h; rfl
  mono := fun _ h => h
  one := fun h v hv => by subst h; simp only [List.mem_cons, List.not_mem_nil, or_false] at hv; rcases hv with rfl | rfl <;> rfl
theorem Tryz_ty24 : TyE Tryz.prog 24 110 slotE 16 := TyE.mk' (z := .agg #[.int .i64 0, .bool false]) underlying24 (by kernel_rfl) rfl (by decide)
theorem Tryz_ty28 : TyE Tryz.prog 28 55 relationE 40 := TyE.mk' (z := .agg #[.int .i64 0, .bool false, .bool false, .int .i64 0, .int .i64 0, .int .i64 0]) underlying28 (by kernel_rfl) rfl (by decide)
theorem k_2b : TyE Tryz.prog 44 39 (intE .u64) 8 := TyE.mk' (z := .int .u64 0) underlying44 (by kernel_rfl) rfl (by decide)
theorem Tryz_ty64 : TyE Tryz.prog 64 38 (intE .u64) 8 := TyE.mk' (z := .int .u64 0) underlying64 (by kernel_rfl) rfl (by decide)
theorem k_86 (H : Heap) (v : Value) (xs : List (Int)) (hr : RdS (intE .i64) H v xs) (hl : xs.length ≤ 4000000) : Fc Tryz.prog (fnv 38) [v] H [] (fun v' H' L' => ∃ c, L' = [c] ∧ OwnS (intE .i64) 3 H' v' xs c) := by
 refine Fc.of_body (N := 8) func38 rfl kA rfl rfl ?_
 intro w0
 obtain ⟨A, c, rfl, hc1, hc2, hr⟩ := hr.shape
 refine sR (aA ?_)
 refine nN (T.seq (sR (mA ?_)))
 refine R.nilS underlying25 rfl rfl rfl ?_
 refine nN (T.cond rfl (fun c4 => ?_) (fun c4 => ?_))
 refine T.seq (T.nilc ?_)
 refine T.region (aA ?_)
 refine nN (T.ret (Post.thnR ?_))
 exact fin1L [[]] rfl rfl (List.Sublist.refl _) ⟨_, rfl, .inl ⟨rfl, RdS.none_nil (by cases A with | none => exact hr | some _ => cases c4), rfl⟩⟩
 refine T.skip (Post.thnN (sR ?_))
 refine R.bs0 (E := (intE .i64)) rfl underlying25 sizeOf3 ?_
 intro v5 c5 w5
 refine mA ?_
 obtain ⟨cs7, y7, r7⟩ := Src.rd (L := [c5]) hr
 refine R.app k_aa rfl rfl rfl w5 .hd r7 y7 (by simp; omega) (by simp; omega) ?_
 intro v7 c7 w7
 rw [List.nil_append] at w7
 refine aA ?_
 refine nN (T.ret ?_)
 exact fin1L [c7] rfl rfl (List.Sublist.refl _) ⟨_, rfl, w7⟩
theorem clone64_c (H : Heap) (v : Value) (xs : List (Int)) (hr : RdS (intE .u64) H v xs) (hl : xs.length ≤ 4000000) : Fc Tryz.prog (fnv 43) [v] H [] (fun v' H' L' => ∃ c, L' = [c] ∧ OwnS (intE .u64) 38 H' v' xs c) := by
 refine Fc.of_body (N := 8) func43 rfl kA rfl rfl ?_
 intro w0
 obtain ⟨A, c, rfl, hc1, hc2, hr⟩ := hr.shape
 refine sR (aA ?_)
 refine nN (T.seq (sR (mA ?_)))
 refine R.nilS underlying64 rfl rfl rfl ?_
 refine nN (T.cond rfl (fun c4 => ?_) (fun c4 => ?_))
 refine T.seq (T.nilc ?_)
 refine T.region (aA ?_)
 refine nN (T.ret (Post.thnR ?_))
 exact fin1L [[]] rfl rfl (List.Sublist.refl _) ⟨_, rfl, .inl ⟨rfl, RdS.none_nil (by cases A with | none => exact hr | some _ => cases c4), rfl⟩⟩
 refine T.skip (Post.thnN (sR ?_))
 refine R.bs0 (E := (intE .u64)) rfl underlying64 sizeOf38 ?_
 intro v5 c5 w5
 refine mA ?_
 obtain ⟨cs7, y7, r7⟩ := Src.rd (L := [c5]) hr
 refine R.app Tryz_ty64 rfl rfl rfl w5 .hd r7 y7 (by simp; omega) (by simp; omega) ?_
 intro v7 c7 w7
 rw [List.nil_append] at w7
 refine aA ?_
 refine nN (T.ret ?_)
 exact fin1L [c7] rfl rfl (List.Sublist.refl _) ⟨_, rfl, w7⟩
theorem k_a8 (H : Heap) (v : Value) (xs : List (Int × Bool)) (hr : RdS slotE H v xs) (hl : xs.length ≤ 4000000) : Fc Tryz.prog (fnv 50) [v] H [] (fun v' H' L' => ∃ c, L' = [c] ∧ OwnS slotE 110 H' v' xs c) := by
 refine Fc.of_body (N := 8) func50 rfl kA rfl rfl ?_
 intro w0
 obtain ⟨A, c, rfl, hc1, hc2, hr⟩ := hr.shape
 refine sR (aA ?_)
 refine nN (T.seq (sR (mA ?_)))
 refine R.nilS underlying24 rfl rfl rfl ?_
 refine nN (T.cond rfl (fun c4 => ?_) (fun c4 => ?_))
 refine T.seq (T.nilc ?_)
 refine T.region (aA ?_)
 refine nN (T.ret (Post.thnR ?_))
 exact fin1L [[]] rfl rfl (List.Sublist.refl _) ⟨_, rfl, .inl ⟨rfl, RdS.none_nil (by cases A with | none => exact hr | some _ => cases c4), rfl⟩⟩
 refine T.skip (Post.thnN (sR ?_))
 refine R.bs0 (E := slotE) rfl underlying24 sizeOf110 ?_
 intro v5 c5 w5
 refine mA ?_
 obtain ⟨cs7, y7, r7⟩ := Src.rd (L := [c5]) hr
 refine R.app Tryz_ty24 rfl rfl rfl w5 .hd r7 y7 (by simp; omega) (by simp; omega) ?_
 intro v7 c7 w7
 rw [List.nil_append] at w7
 refine aA ?_
 refine nN (T.ret ?_)
 exact fin1L [c7] rfl rfl (List.Sublist.refl _) ⟨_, rfl, w7⟩
theorem k_80 (H : Heap) (v : Value) (xs : List (ZL)) (hr : RdS relationE H v xs) (hl : xs.length ≤ 4000000) : Fc Tryz.prog (fnv 51) [v] H [] (fun v' H' L' => ∃ c, L' = [c] ∧ OwnS relationE 55 H' v' xs c) := by
 refine Fc.of_body (N := 8) func51 rfl kA rfl rfl ?_
 intro w0
 obtain ⟨A, c, rfl, hc1, hc2, hr⟩ := hr.shape
 refine sR (aA ?_)
 refine nN (T.seq (sR (mA ?_)))
 refine R.nilS underlying28 rfl rfl rfl ?_
 refine nN (T.cond rfl (fun c4 => ?_) (fun c4 => ?_))
 refine T.seq (T.nilc ?_)
 refine T.region (aA ?_)
 refine nN (T.ret (Post.thnR ?_))
 exact fin1L [[]] rfl rfl (List.Sublist.refl _) ⟨_, rfl, .inl ⟨rfl, RdS.none_nil (by cases A with | none => exact hr | some _ => cases c4), rfl⟩⟩
 refine T.skip (Post.thnN (sR ?_))
 refine R.bs0 (E := relationE) rfl underlying28 sizeOf55 ?_
 intro v5 c5 w5
 refine mA ?_
 obtain ⟨cs7, y7, r7⟩ := Src.rd (L := [c5]) hr
 refine R.app Tryz_ty28 rfl rfl rfl w5 .hd r7 y7 (by simp; omega) (by simp; omega) ?_
 intro v7 c7 w7
 rw [List.nil_append] at w7
 refine aA ?_
 refine nN (T.ret ?_)
 exact fin1L [c7] rfl rfl (List.Sublist.refl _) ⟨_, rfl, w7⟩
theorem clone44_c (H : Heap) (v : Value) (xs : List (Int)) (hr : RdS (intE .u64) H v xs) (hl : xs.length ≤ 4000000) : Fc Tryz.prog (fnv 52) [v] H [] (fun v' H' L' => ∃ c, L' = [c] ∧ OwnS (intE .u64) 39 H' v' xs c) := by
 refine Fc.of_body (N := 8) func52 rfl kA rfl rfl ?_
 intro w0
 obtain ⟨A, c, rfl, hc1, hc2, hr⟩ := hr.shape
 refine sR (aA ?_)
 refine nN (T.seq (sR (mA ?_)))
 refine R.nilS underlying44 rfl rfl rfl ?_
 refine nN (T.cond rfl (fun c4 => ?_) (fun c4 => ?_))
 refine T.seq (T.nilc ?_)
 refine T.region (aA ?_)
 refine nN (T.ret (Post.thnR ?_))
 exact fin1L [[]] rfl rfl (List.Sublist.refl _) ⟨_, rfl, .inl ⟨rfl, RdS.none_nil (by cases A with | none => exact hr | some _ => cases c4), rfl⟩⟩
 refine T.skip (Post.thnN (sR ?_))
 refine R.bs0 (E := (intE .u64)) rfl underlying44 sizeOf39 ?_
 intro v5 c5 w5
 refine mA ?_
 obtain ⟨cs7, y7, r7⟩ := Src.rd (L := [c5]) hr
 refine R.app k_2b rfl rfl rfl w5 .hd r7 y7 (by simp; omega) (by simp; omega) ?_
 intro v7 c7 w7
 rw [List.nil_append] at w7
 refine aA ?_
 refine nN (T.ret ?_)
 exact fin1L [c7] rfl rfl (List.Sublist.refl _) ⟨_, rfl, w7⟩
theorem eqT51 (d : Nat) (a b : Bool × Bool × Int × Int × Int) (w : World) : (Op.equalIn (d + 2) 51 (.agg #[.bool a.1, .bool a.2.1, .int .i64 a.2.2.1, .int .i64 a.2.2.2.1, .int .i64 a.2.2.2.2]) (.agg #[.bool b.1, .bool b.2.1, .int .i64 b.2.2.1, .int .i64 b.2.2.2.1, .int .i64 b.2.2.2.2])).run Tryz.prog w = .ok (decide (a = b)) w := by
  have h : decide (a = b) = (decide (a.1 = b.1) && (decide (a.2.1 = b.2.1) && (decide (a.2.2.1 = b.2.2.1) && (decide (a.2.2.2.1 = b.2.2.2.1) && (decide (a.2.2.2.2 = b.2.2.2.2) && true))))) := by
    rw [Bool.eq_iff_iff]; simp [Prod.ext_iff]
  rw [h]
  exact eq_struct (d := d + 1) underlying51 (by kernel_rfl) (eqF_cons (by decide) (k_ad isAgg4 rfl) (k_ad isAgg4 rfl) (eq_bool underlying4) (eqF_cons (by decide) (k_ad isAgg4 rfl) (k_ad isAgg4 rfl) (eq_bool underlying4) (eqF_cons (by decide) (k_ad isAgg3 rfl) (k_ad isAgg3 rfl) (eq_int underlying3) (eqF_cons (by decide) (k_ad isAgg3 rfl) (k_ad isAgg3 rfl) (eq_int underlying3) (eqF_cons (by decide) (k_ad isAgg3 rfl) (k_ad isAgg3 rfl) (eq_int underlying3) eqF_nil)))))
theorem eqT55 (d : Nat) (a b : ZL) (w : World) : (Op.equalIn (d + 3) 55 (.agg #[.int .i64 a.1, .bool a.2.1, .bool a.2.2.1, .int .i64 a.2.2.2.1, .int .i64 a.2.2.2.2.1, .int .i64 a.2.2.2.2.2]) (.agg #[.int .i64 b.1, .bool b.2.1, .bool b.2.2.1, .int .i64 b.2.2.2.1, .int .i64 b.2.2.2.2.1, .int .i64 b.2.2.2.2.2])).run Tryz.prog w = .ok (decide (a = b)) w := by
  have h : decide (a = b) = (decide (a.1 = b.1) && (decide (a.2 = b.2) && true)) := by
    rw [Bool.eq_iff_iff]; simp [Prod.ext_iff]
  rw [h]
  exact eq_struct (d := d + 2) underlying55 (by kernel_rfl) (eqF_cons (by decide) (k_ad isAgg3 rfl) (k_ad isAgg3 rfl) (eq_int underlying3) (eqF_cons (by decide) (part_agg (l := [.bool a.2.1, .bool a.2.2.1, .int .i64 a.2.2.2.1, .int .i64 a.2.2.2.2.1, .int .i64 a.2.2.2.2.2]) isAgg51 sizeOf51 rfl) (part_agg (l := [.bool b.2.1, .bool b.2.2.1, .int .i64 b.2.2.2.1, .int .i64 b.2.2.2.2.1, .int .i64 b.2.2.2.2.2]) isAgg51 sizeOf51 rfl) (eqT51 _ a.2 b.2 w) eqF_nil))
theorem eqG55 : Tryz.prog.eqGuardType Tryz.prog.depth 55 = false := by kernel_rfl
theorem eqT110 (d : Nat) (a b : Int × Bool) (w : World) : (Op.equalIn (d + 2) 110 (.agg #[.int .i64 a.1, .bool a.2]) (.agg #[.int .i64 b.1, .bool b.2])).run Tryz.prog w = .ok (decide (a = b)) w := by
  have h : decide (a = b) = (decide (a.1 = b.1) && (decide (a.2 = b.2) && true)) := by
    rw [Bool.eq_iff_iff]; simp [Prod.ext_iff]
  rw [h]
  exact eq_struct (d := d + 1) underlying110 (by kernel_rfl) (eqF_cons (by decide) (k_ad isAgg3 rfl) (k_ad isAgg3 rfl) (eq_int underlying3) (eqF_cons (by decide) (k_ad isAgg4 rfl) (k_ad isAgg4 rfl) (eq_bool underlying4) eqF_nil))
theorem eqG110 : Tryz.prog.eqGuardType Tryz.prog.depth 110 = false := by kernel_rfl
def k_40 (a1 : List Int) : List Int → Nat → Unit → LR (Bool) (Unit)
  | [], kl1, sl1 => .go ()
  | yl1 :: ysl1, kl1, sl1 => if yl1 ≠ (a1.getD kl1 (0 : Int)) then (.ret false) else (k_40 a1 ysl1 (kl1 + 1) ())
def k_61 (a0 : List Int) (a1 : List Int) : Bool :=
  if (a0.length : Int) ≠ (a1.length : Int) then false else (LR.on (k_40 a1 a0 0 ()) (fun r => r) (fun ol1 => true))
theorem slices_Equal_int_c (H : Heap) (va0 : Value) (a0 : List Int) (ha0 : RdS (intE .i64) H va0 a0) (va1 : Value) (a1 : List Int) (ha1 : RdS (intE .i64) H va1 a1) : Fv Tryz.prog (fnv 157) [va0, va1] H (.bool (k_61 a0 a1)) := by
 refine Fc.of_body (N := 26) func157 rfl kA rfl rfl ?_
 intro w0
 obtain ⟨Aa0, ca0, rfl, hca0, hda0, ha0⟩ := ha0.shape
 obtain ⟨Aa1, ca1, rfl, hca1, hda1, ha1⟩ := ha1.shape
 refine sR (aA ?_)
 refine nN (T.seq (sR (mA ?_)))
 refine R.len underlying25 rfl rfl ?_
 refine mA ?_
 refine R.len underlying25 rfl rfl ?_
 refine R.neq rfl rfl rfl ?_
 refine nN (T.condD rfl (fun a3 => ?_) (fun a3 => ?_))
 refine T.set 10 (.bool true) (congrArg Value.bool (decide_eq_true a3)) ?_
 refine sR (aA ?_)
 refine nN (T.has Has.nil ?_)
 refine T.ret (Post.thnR ?_)
 have hM : k_61 a0 a1 = false := by rw [k_61, if_pos a3]
 exact fin1L (v := .bool false) [] rfl rfl (List.Sublist.refl _) ⟨rfl, by first | rw [hM] | rfl⟩
 refine T.set 10 (.bool false) (congrArg Value.bool (decide_eq_false a3)) ?_
 refine T.skip (Post.thnN (T.seq ?_))
 refine sR (mA ?_)
 refine R.len underlying25 rfl rfl ?_
 refine mA ?_
 refine nN (T.block (T.loop (ι := Nat) (fun a2 H' L' ds' => a2 ≤ a0.length ∧ Has L' [] ∧ k_40 a1 (a0.drop a2) a2 () = k_40 a1 a0 0 ()) (fun a2 => [(13, .int .i64 (a2 : Int)), (0, .slice Aa0 a0.length ca0), (1, .slice Aa1 a1.length ca1), (12, .int .i64 (a0.length : Int))]) (fun a2 => a0.length - a2) 0 ?_ ?_ ?_))
 exact ⟨oA, Has.nil, (by rfl)⟩
 exact ⟨rfl, rfl, rfl, rfl, trivial⟩
 intro a2 σ_l1 H_l1 L_l1 ds_l1 a5 a4
 obtain ⟨hkl1, a4⟩ := a4
 obtain ⟨hLl1, a6⟩ := a4
 refine T.has hLl1 ?_
 refine sR (R.lss rfl rfl rfl ?_)
 refine nN (T.seq (T.condD rfl (fun c14 => ?_) (fun c14 => ?_)))
 have hltl1 : a2 < a0.length := by omega
 obtain ⟨yl1, a7⟩ := getk (xs := a0) (k := a2) oA
 refine T.skip (Post.thnN (T.seq ?_))
 refine T.block (sR (mA ?_))
 refine aA ?_
 refine nN (T.seq (T.draw k_2f kA ?_))
 refine vM 0 [1, 2, 3, 4, 5, 6, 7, 8] rfl rfl cA ?_
 refine vM 1 [2, 3, 4, 5, 6, 7, 8] rfl rfl cA ?_
 obtain ⟨b18, o18, i18, k18⟩ := RdS.elem (ha0.mono a5) a7
 obtain ⟨l18, g18, k18⟩ := k18
 obtain rfl : l18 = [.int .i64 yl1] := g18
 refine vA 2 [3, 4, 5, 6, 7, 8] rfl (fun _ _ h_ => R.ixp underlying25 sizeOf3 rfl rfl rfl oA i18 (TL.nil h_)) ?_
 refine vA 3 [4, 5, 6, 7, 8] rfl (fun _ _ h_ => R.ldC isAgg3 rfl rfl (k18 0 _ rfl) (TL.nil h_)) ?_
 refine vM 4 [5, 6, 7, 8] rfl rfl cA ?_
 refine vM 5 [6, 7, 8] rfl rfl cA ?_
 have a8 : a2 < a1.length := bA
 obtain ⟨y22, e22, h22⟩ : ∃ y, y = (a1.getD a2 (0 : Int)) ∧ a1[a2]? = some y := ⟨_, rfl, k_46 (by first | exact a8 | simpa using a8 | (simp only [List.length_set]; omega) | omega | (rw [(k_26 _).length_eq]; exact a8))⟩
 obtain ⟨b22, o22, i22, k22⟩ := RdS.elem (ha1.mono a5) h22
 obtain ⟨l22, g22, k22⟩ := k22
 obtain rfl : l22 = [.int .i64 y22] := g22
 refine vA 6 [7, 8] rfl (fun _ _ h_ => R.ixp underlying25 sizeOf3 rfl rfl rfl bA i22 (TL.nil h_)) ?_
 refine vA 7 [8] rfl (fun _ _ h_ => R.ldC isAgg3 rfl rfl (k22 0 _ rfl) (TL.nil h_)) ?_
 refine vA 8 [] rfl (fun _ _ h_ => R.neq rfl rfl rfl (TL.nil h_)) ?_
 refine Plan.done (Post.thnN ?_)
 refine T.condD rfl (fun c24 => ?_) (fun c24 => ?_)
 refine T.set 24 (.bool true) (congrArg Value.bool (decide_eq_true c24)) ?_
 refine sR (aA ?_)
 refine nN (T.has Has.nil ?_)
 refine T.ret (Post.blkR (Post.thnR (Post.thnR (Post.blkR (Post.thnR ?_)))))
 have hXl1 : k_40 a1 a0 0 () = .ret false := by subst e22; rw [← a6, k_8 a7, k_40]; rw [if_pos c24]
 have hM : k_61 a0 a1 = false := by rw [k_61, if_neg a3, hXl1, LR.on_ret]
 exact fin1L (v := .bool false) [] rfl rfl (List.Sublist.refl _) ⟨rfl, by first | rw [hM] | rfl⟩
 refine T.set 24 (.bool false) (congrArg Value.bool (decide_eq_false c24)) ?_
 refine T.skip (Post.blkN ?_)
 refine id (Post.thnN (T.region ?_))
 refine R.addI rfl rfl rfl oA ?_
 refine mA ?_
 refine nN ?_
 exact ⟨a2 + 1, a5, ⟨oA, Has.nil, (by subst e22; rw [← a6, k_8 a7, k_40]; rw [if_neg c24])⟩, by show a0.length - (a2 + 1) < a0.length - a2; omega, rfl, rfl, rfl, rfl, trivial⟩
 refine T.exit (Post.thnE (Post.thnE (Post.blkX ?_)))
 have hEl1 : k_40 a1 a0 0 () = .go () := (a6.symm.trans (by rw [show a2 = a0.length by omega, List.drop_length, k_40]))
 refine id (Post.thnN (sR ?_))
 refine aA ?_
 refine nN (T.has Has.nil ?_)
 refine T.ret ?_
 have hM : k_61 a0 a1 = true := by rw [k_61, if_neg a3, hEl1, LR.on_go]
 exact fin1L (v := .bool true) [] rfl rfl (List.Sublist.refl _) ⟨rfl, by first | rw [hM] | rfl⟩
theorem slices_Equal_int_go (b : List (Int)) : ∀ (a : List (Int)) (k : Nat), k + a.length = b.length → k_40 b a k () = if a = b.drop k then .go () else .ret false
  | [], k, h => by
    have : b.drop k = [] := List.drop_eq_nil_iff.2 (by simp at h; omega)
    rw [k_40, this, if_pos rfl]
  | y :: ys, k, h => by
    have hk : k < b.length := by simp at h; omega
    rw [k_40, List.drop_eq_getElem_cons hk]
    have hg : b.getD k (0 : Int) = b[k] := by rw [List.getD_eq_getElem?_getD, List.getElem?_eq_getElem hk]; rfl
    rw [hg]
    by_cases e : y = b[k]
    · rw [if_neg (fun h => h e), slices_Equal_int_go b ys (k + 1) (by simp at h; omega)]
      subst e
      by_cases e2 : ys = b.drop (k + 1)
      · rw [if_pos e2, if_pos (by rw [← e2])]
      · rw [if_neg e2, if_neg (fun h => e2 (List.cons.inj h).2)]
    · rw [if_pos e, if_neg (fun h => e (List.cons.inj h).1)]
theorem slices_Equal_int_eq (a b : List (Int)) : k_61 a b = decide (a = b) := by
  unfold k_61
  by_cases h : a.length = b.length
  · rw [if_neg (by omega), slices_Equal_int_go b a 0 (by omega), List.drop_zero]
    by_cases e : a = b
    · rw [if_pos e, LR.on_go, decide_eq_true e]
    · rw [if_neg e, LR.on_ret, decide_eq_false e]
  · rw [if_pos (by omega), decide_eq_false (fun e => h (by rw [e]))]
theorem slices_Equal_int_d (H : Heap) (v : Value) (a : List (Int)) (h : RdS (intE .i64) H v a) (u : Value) (b : List (Int)) (k : RdS (intE .i64) H u b) : Fv Tryz.prog (fnv 157) [v, u] H (.bool (decide (a = b))) := Fv.to (slices_Equal_int_c H v a h u b k) (congrArg Value.bool (slices_Equal_int_eq a b))
def k_3e (a1 : Int) : List Int → Nat → Unit → LR (Int) (Unit)
  | [], kl1, sl1 => .go ()
  | yl1 :: ysl1, kl1, sl1 => if a1 = yl1 then (.ret ((kl1 : Int))) else (k_3e a1 ysl1 (kl1 + 1) ())
def k_4d (a0 : List Int) (a1 : Int) : Int :=
  LR.on (k_3e a1 a0 0 ()) (fun r => r) (fun ol1 => (-1))
theorem slices_Index_int_c (H : Heap) (va0 : Value) (a0 : List Int) (ha0 : RdS (intE .i64) H va0 a0) (a1 : Int) : Fv Tryz.prog (fnv 103) [va0, .int .i64 a1] H (.int .i64 (k_4d a0 a1)) := by
 refine Fc.of_body (N := 19) func103 rfl kA rfl rfl ?_
 intro w0
 obtain ⟨Aa0, ca0, rfl, hca0, hda0, ha0⟩ := ha0.shape
 refine sR (aA ?_)
 refine nN (T.seq (sR (mA ?_)))
 refine R.len underlying25 rfl rfl ?_
 refine mA ?_
 refine nN (T.block (T.loop (ι := Nat) (fun a2 H' L' ds' => a2 ≤ a0.length ∧ Has L' [] ∧ k_3e a1 (a0.drop a2) a2 () = k_3e a1 a0 0 ()) (fun a2 => [(8, .int .i64 (a2 : Int)), (0, .slice Aa0 a0.length ca0), (1, .int .i64 a1), (7, .int .i64 (a0.length : Int))]) (fun a2 => a0.length - a2) 0 ?_ ?_ ?_))
 exact ⟨oA, Has.nil, (by rfl)⟩
 exact ⟨rfl, rfl, rfl, rfl, trivial⟩
 intro a2 σ_l1 H_l1 L_l1 ds_l1 a7 a3
 obtain ⟨hkl1, a3⟩ := a3
 obtain ⟨hLl1, a5⟩ := a3
 refine T.has hLl1 ?_
 refine sR (R.lss rfl rfl rfl ?_)
 refine nN (T.seq (T.condD rfl (fun c9 => ?_) (fun c9 => ?_)))
 have hltl1 : a2 < a0.length := by omega
 obtain ⟨yl1, a6⟩ := getk (xs := a0) (k := a2) oA
 refine T.skip (Post.thnN (T.seq ?_))
 refine T.block (sR (mA ?_))
 refine aA ?_
 refine nN (sR (mA ?_))
 refine mA ?_
 refine mA ?_
 obtain ⟨b14, o14, i14, k14⟩ := RdS.elem (ha0.mono a7) a6
 obtain ⟨l14, g14, k14⟩ := k14
 obtain rfl : l14 = [.int .i64 yl1] := g14
 refine R.ixp underlying25 sizeOf3 rfl rfl rfl oA i14 ?_
 refine R.ldC isAgg3 rfl rfl (k14 0 _ rfl) ?_
 refine R.eql rfl rfl rfl ?_
 refine nN (T.condD rfl (fun a4 => ?_) (fun a4 => ?_))
 refine T.set 16 (.bool true) (congrArg Value.bool (decide_eq_true a4)) ?_
 refine sR (mA ?_)
 refine aA ?_
 refine nN (T.has Has.nil ?_)
 refine T.ret (Post.blkR (Post.thnR (Post.thnR (Post.blkR (Post.thnR ?_)))))
 have hXl1 : k_3e a1 a0 0 () = .ret ((a2 : Int)) := by rw [← a5, k_8 a6, k_3e]; rw [if_pos a4]
 have hM : k_4d a0 a1 = (a2 : Int) := by rw [k_4d, hXl1, LR.on_ret]
 exact fin1L (v := .int .i64 (a2 : Int)) [] rfl rfl (List.Sublist.refl _) ⟨rfl, by first | rw [hM] | rfl⟩
 refine T.set 16 (.bool false) (congrArg Value.bool (decide_eq_false a4)) ?_
 refine T.skip (Post.blkN ?_)
 refine id (Post.thnN (T.region ?_))
 refine R.addI rfl rfl rfl oA ?_
 refine mA ?_
 refine nN ?_
 exact ⟨a2 + 1, a7, ⟨oA, Has.nil, (by rw [← a5, k_8 a6, k_3e]; rw [if_neg a4])⟩, by show a0.length - (a2 + 1) < a0.length - a2; omega, rfl, rfl, rfl, rfl, trivial⟩
 refine T.exit (Post.thnE (Post.thnE (Post.blkX ?_)))
 have hEl1 : k_3e a1 a0 0 () = .go () := (a5.symm.trans (by rw [show a2 = a0.length by omega, List.drop_length, k_3e]))
 refine id (Post.thnN (sR ?_))
 refine aA ?_
 refine nN (T.has Has.nil ?_)
 refine T.ret ?_
 have hM : k_4d a0 a1 = (-1) := by rw [k_4d, hEl1, LR.on_go]
 exact fin1L (v := .int .i64 (-1)) [] rfl rfl (List.Sublist.refl _) ⟨rfl, by first | rw [hM] | rfl⟩
theorem slices_Index_int_go (x : Int) : ∀ (a : List (Int)) (k : Nat), (∃ j : Nat, k_3e x a k () = .ret (j : Int) ∧ k ≤ j ∧ a[j - k]? = some x) ∨ (k_3e x a k () = .go () ∧ x ∉ a)
  | [], k => .inr ⟨rfl, by simp⟩
  | y :: ys, k => by
    rw [k_3e]
    try simp only [beq_iff_eq]
    by_cases e : x = y
    · rw [if_pos e]; exact .inl ⟨k, rfl, Nat.le_refl _, by rw [Nat.sub_self, e]; rfl⟩
    · rw [if_neg e]
      rcases slices_Index_int_go x ys (k + 1) with ⟨j, h1, h2, h3⟩ | ⟨h1, h2⟩
      · exact .inl ⟨j, h1, by omega, by rw [show j - k = (j - (k + 1)) + 1 by omega]; exact h3⟩
      · exact .inr ⟨h1, by simp [e, h2]⟩
theorem slices_Index_int_at (a : List (Int)) (x : Int) : (∃ j : Nat, k_4d a x = (j : Int) ∧ a[j]? = some x) ∨ (k_4d a x = -1 ∧ x ∉ a) := by
  unfold k_4d
  rcases slices_Index_int_go x a 0 with ⟨j, h1, h2, h3⟩ | ⟨h1, h2⟩
  · rw [h1, LR.on_ret]; exact .inl ⟨j, rfl, by simpa using h3⟩
  · rw [h1, LR.on_go]; exact .inr ⟨rfl, h2⟩
def k_84 (a0 : List Int) (a1 : Int) : Bool :=
  (decide ((0 : Int) ≤ (k_4d a0 a1)))
theorem slices_Contains_int_c (H : Heap) (va0 : Value) (a0 : List Int) (ha0 : RdS (intE .i64) H va0 a0) (a1 : Int) : Fv Tryz.prog (fnv 40) [va0, .int .i64 a1] H (.bool (k_84 a0 a1)) := by
 refine Fc.of_body (N := 9) func40 rfl kA rfl rfl ?_
 intro w0
 obtain ⟨Aa0, ca0, rfl, hca0, hda0, ha0⟩ := ha0.shape
 refine sR (aA ?_)
 refine nN (sR (mA ?_))
 refine mA ?_
 refine R.callv rfl rfl rfl (slices_Index_int_c _ _ a0 ha0 (a1)) ?_
 refine R.geq rfl rfl rfl ?_
 refine aA ?_
 refine nN (T.has Has.nil ?_)
 refine T.ret ?_
 have hM : k_84 a0 a1 = (decide ((0 : Int) ≤ (k_4d a0 a1))) := by rw [k_84]
 exact fin1L (v := .bool (decide ((0 : Int) ≤ (k_4d a0 a1)))) [] rfl rfl (List.Sublist.refl _) ⟨rfl, by first | rw [hM] | rfl⟩
theorem slices_Contains_int_eq (a : List (Int)) (x : Int) : k_84 a x = decide (x ∈ a) := by
  unfold k_84
  rw [decide_eq_decide]
  rcases slices_Index_int_at a x with ⟨j, h1, h2⟩ | ⟨h1, h2⟩
  · exact ⟨fun _ => List.mem_of_getElem? h2, fun _ => by rw [h1]; omega⟩
  · exact ⟨fun h => by rw [h1] at h; omega, fun h => absurd h h2⟩
theorem slices_Contains_int_d (H : Heap) (v : Value) (a : List (Int)) (h : RdS (intE .i64) H v a) (x : Int) : Fv Tryz.prog (fnv 40) [v, .int .i64 x] H (.bool (decide (x ∈ a))) := Fv.to (slices_Contains_int_c H v a h x) (congrArg Value.bool (slices_Contains_int_eq a x))
end Go.SX
namespace Go.Proofs
open Go.Shelf
def Tryz.lays189_ren : Go.Shelf.Ren := ⟨fun | 189 => 163 | 125 => 207 | 257 => 206 | 128 => 233 | 129 => 234 | 294 => 224 | 295 => 225 | 296 => 226 | 297 => 227 | 298 => 228 | 299 => 229 | 216 => 230 | 300 => 231 | 301 => 232 | 328 => 241 | 329 => 242 | 330 => 243 | 331 => 244 | 332 => 245 | 215 => 220 | 343 => 249 | n => n, fun | 28 => 25 | 3 => 3 | 46 => 161 | 0 => 0 | 51 => 254 | 53 => 38 | 4 => 4 | 183 => 248 | 182 => 247 | 131 => 73 | 5 => 5 | 9 => 9 | 218 => 262 | 222 => 266 | 228 => 271 | 229 => 42 | n => n, fun | n => n⟩
theorem Tryz.lays189 : Go.Proofs.Lays.n189 Tryz.prog Tryz.lays189_ren := {
  mixed := by kernel_rfl
  f125 := func207.trans (congrArg some (by kernel_rfl))
  f128 := func233.trans (congrArg some (by kernel_rfl))
  f129 := func234.trans (congrArg some (by kernel_rfl))
  f189 := func163.trans (congrArg some (by kernel_rfl))
  f215 := func220.trans (congrArg some (by kernel_rfl))
  f216 := func230.trans (congrArg some (by kernel_rfl))
  f257 := func206.trans (congrArg some (by kernel_rfl))
  f294 := func224.trans (congrArg some (by kernel_rfl))
  f295 := func225.trans (congrArg some (by kernel_rfl))
  f296 := func226.trans (congrArg some (by kernel_rfl))
  f297 := func227.trans (congrArg some (by kernel_rfl))
  f298 := func228.trans (congrArg some (by kernel_rfl))
  f299 := func229.trans (congrArg some (by kernel_rfl))
  f300 := func231.trans (congrArg some (by kernel_rfl))
  f301 := func232.trans (congrArg some (by kernel_rfl))
  f328 := func241.trans (congrArg some (by kernel_rfl))
  f329 := func242.trans (congrArg some (by kernel_rfl))
  f330 := func243.trans (congrArg some (by kernel_rfl))
  f331 := func244.trans (congrArg some (by kernel_rfl))
  f332 := func245.trans (congrArg some (by kernel_rfl))
  f343 := func249.trans (congrArg some (by kernel_rfl))
  t0 := underlying0
  a0 := isAgg0
  z0 := sizeOf0
  v0 := zeroValue0
  t3 := underlying3
  a3 := isAgg3
  z3 := sizeOf3
  v3 := zeroValue3
  t4 := underlying4
  a4 := isAgg4
  z4 := sizeOf4
  v4 := zeroValue4
  t5 := underlying5
  a5 := isAgg5
  z5 := sizeOf5
  v5 := zeroValue5
  t9 := underlying9
  a9 := isAgg9
  z9 := sizeOf9
  v9 := zeroValue9
  t28 := underlying25
  a28 := isAgg25
  z28 := sizeOf25
  v28 := zeroValue25
  t46 := underlying161
  a46 := isAgg161
  z46 := sizeOf161
  v46 := zeroValue161
  t51 := underlying254
  a51 := isAgg254
  z51 := sizeOf254
  v51 := zeroValue254
  t53 := underlying38
  a53 := isAgg38
  z53 := sizeOf38
  v53 := zeroValue38
  t131 := underlying73
  a131 := isAgg73
  z131 := sizeOf73
  v131 := zeroValue73
  t182 := underlying247
  a182 := isAgg247
  z182 := sizeOf247
  v182 := zeroValue247
  t183 := underlying248
  a183 := isAgg248
  z183 := sizeOf248
  v183 := zeroValue248
  t218 := underlying262
  a218 := isAgg262
  z218 := sizeOf262
  v218 := zeroValue262
  t222 := underlying266
  a222 := isAgg266
  z222 := sizeOf266
  v222 := zeroValue266
  t228 := underlying271
  a228 := isAgg271
  z228 := sizeOf271
  v228 := zeroValue271
  t229 := underlying42
  a229 := isAgg42
  z229 := sizeOf42
  v229 := zeroValue42 }
end Go.Proofs
namespace Go.SX
open Go Go.Sort
attribute [local semireducible] T TL
def sortI (xs : List Int) : List Int := xs.mergeSort (fun x y => decide (x ≤ y))
theorem k_26 (xs : List Int) : (sortI xs).Perm xs := List.mergeSort_perm _ _
theorem sort_fc {P : Program} {f : FuncId} {fn : Func} {cd : Code} {e : TypeId} (hf : P.funcs[f]? = some fn) (hb : fn.body = some cd) (hname : (fn.name == "runtime.NumGoroutine") = false)
    (hcon : ∀ (blk off cap : Nat) (zs : List Int) (w : World), Holds (Value.int .i64) w blk off zs.toArray → blk < w.heap.size → zs.length < 4611686018427387904 →
      Calls P f #[.slice (some ⟨blk, off, none⟩) zs.length cap] w fun e w' => e = .returned (.tuple #[]) ∧ ∃ n os, w' = grow (putRow (Value.int .i64) (Sort.ahead w n) blk off (zs.mergeSort fun x y => decide (x ≤ y)).toArray) os)
    {H : Heap} {v : Value} {xs : List Int} {c : Chunk} (ho : OwnS (intE .i64) e H v xs c) (hne : xs ≠ []) (hl : xs.length ≤ 1099511627776) :
    Fc P (fnv f) [v] H [c] (fun _ H' L' => H' = H ∧ ∃ c', L' = [c'] ∧ OwnS (intE .i64) e H v (sortI xs) c') := by
  rcases ho with ⟨_, h, _⟩ | ⟨b, cap, cs, rfl, rfl, h3, h4, h5, h6⟩
  · exact absurd h hne
  intro w hs
  have hs' : Sat H [(b, .cells cs e)] w := by simpa using hs
  have hbl := hs'.l (b, .cells cs e) (List.mem_singleton.2 rfl)
  simp only at hbl
  have hcs : cap ≤ cs.size := by have : cap * 1 ≤ cs.size := h5; omega
  have hcell : ∀ (i : Nat) x, xs[i]? = some x → cs[i]? = some (.int .i64 x) := fun i x hx => by
    obtain ⟨l, h7, h8⟩ := h6 i x hx
    obtain rfl : l = [.int .i64 x] := h7
    have := h8 0 _ rfl
    simpa [intE] using this
  have htk : cs.toList.take xs.length = xs.map (Value.int .i64) := by
    apply List.ext_getElem?
    intro i
    by_cases hi : i < xs.length
    · rw [List.getElem?_take_of_lt hi, Array.getElem?_toList, hcell i _ (List.getElem?_eq_getElem hi)]
      simp [hi]
    · rw [List.getElem?_take_eq_none (by omega), List.getElem?_eq_none (by simp; omega)]
  have hH := holds_of_blockI hbl htk
  have he := Go.Proofs.enters_of (P := P) hf hname hb #[.slice (some ⟨b, 0, none⟩) xs.length cap] w
  refine ⟨.enter f #[.slice (some ⟨b, 0, none⟩) xs.length cap], w, by simp [Deferred.ofValue, invoke, he], ?_⟩
  refine CallsIn.mono (callsIn_wide.2 (hcon b 0 cap xs w hH (heap_lt hbl) (by omega))) ?_
  rintro e' w' ⟨rfl, n, os, rfl⟩
  have hlen : (sortI xs).length = xs.length := (k_26 xs).length_eq
  have hnew := heap_sortedI (n := n) (os := os) (sortI xs).toArray hbl
  have hg := grownBy_sortedI (w := w) (g := b) (n := n) (os := os) (sortI xs).toArray
  refine ⟨_, H, [[(b, .cells (putCells (Value.int .i64) 0 (sortI xs).toArray cs) e)]], rfl, ?_, rfl, _, rfl, ?_⟩
  · obtain ⟨g1, g2, g3, g4, g5⟩ := hg
    refine ⟨⟨fun b' o hb' => ?_, fun q hq => ?_, by simp [keys], fun q hq => ?_⟩, ⟨g1, g2, g3, g4, fun b' h1 h2 => g5 b' h1 (fun x => h2 (by cases x; simp [keys])), Nat.le_add_right _ _⟩, HLe.refl _, fun b' o h1 h2 => ?_, fun b' hb' => ?_⟩
    · have hne' : b' ≠ b := fun x => by
        have := hs'.dj (b, .cells cs e) (List.mem_singleton.2 rfl)
        subst x; rw [hb'] at this; cases this
      have hw := hs'.h b' o hb'
      exact (g5 b' (heap_lt hw) (fun x => hne' (by cases x; rfl))).trans hw
    · simp at hq; subst hq; exact hnew
    · simp at hq; subst hq
      exact hs'.dj (b, .cells cs e) (List.mem_singleton.2 rfl)
    · have : H b' = some o := h1
      have h2' : H b' = none := h2
      rw [this] at h2'; cases h2'
    · left; simpa [keys] using hb'
  · have hsz : (putCells (Value.int .i64) 0 (sortI xs).toArray cs).size = cs.size := by simp [putCells]
    refine .inr ⟨b, cap, putCells (Value.int .i64) 0 (sortI xs).toArray cs, by rw [hlen], rfl, by rw [hlen]; exact h3, h4, by rw [hsz]; exact h5, fun i x hx => ⟨[.int .i64 x], rfl, fun j u hj => ?_⟩⟩
    have hj0 : j = 0 := by have := (List.getElem?_eq_some_iff.1 hj).1; simpa using this
    subst hj0
    simp at hj
    subst hj
    have ht := take_putCellsI cs (sortI xs) (by rw [hlen]; exact Nat.le_trans h3 hcs)
    have hi := (List.getElem?_eq_some_iff.1 hx).1
    have h9 : ((putCells (Value.int .i64) 0 (sortI xs).toArray cs).toList.take (sortI xs).length)[i]? = ((sortI xs).map (Value.int .i64))[i]? := by rw [ht]
    rw [List.getElem?_take_of_lt hi, Array.getElem?_toList, List.getElem?_map, hx] at h9
    show (putCells (Value.int .i64) 0 (sortI xs).toArray cs)[i * 1 + 0]? = _
    rw [Nat.mul_one, Nat.add_zero, h9]; rfl
end Go.SX
namespace Go.SX
open Go Go.Proofs Go.Proofs.Tryz
def Y186 : Heap → List Value → (Int) → Prop := fun H vs y => vs = [.int .i64 y]
theorem sort_c (H : Heap) (v : Value) (xs : List Int) (ch : Chunk) (ho : OwnS (intE .i64) 3 H v xs ch) (hne : xs ≠ []) (hl : xs.length ≤ 1099511627776) : Fc Tryz.prog (fnv 163) [v] H [ch] (fun _ H' L' => H' = H ∧ ∃ c', L' = [c'] ∧ OwnS (intE .i64) 3 H v (sortI xs) c') :=
  sort_fc func163 rfl (by kernel_rfl) (fun blk off cap da w eg h1 h2 => Any.slices_Sort_int Tryz.lays189 blk off cap da w eg h1 h2) ho hne hl
theorem sortA_c (H : Heap) (v : Value) (xs : List Int) (ch : Chunk) (ho : OwnS (intE .i64) 3 H v xs ch) (hl : xs.length ≤ 1099511627776) : Fc Tryz.prog (fnv 163) [v] H [ch] (fun _ H' L' => H' = H ∧ ∃ c', L' = [c'] ∧ OwnS (intE .i64) 3 H v (sortI xs) c') := by
  by_cases hne : xs = []
  · intro w hs
    obtain ⟨A, cap, rfl, _, _⟩ := ho.shape
    subst hne
    have he := Go.Proofs.enters_of (P := Tryz.prog) func163 (by kernel_rfl) rfl #[.slice A 0 cap] w
    refine ⟨.enter 163 #[.slice A 0 cap], w, by simp [Deferred.ofValue, invoke, he], ?_⟩
    refine CallsIn.mono (callsIn_wide.2 (Go.Proofs.Any.slices_Sort_int_none Tryz.lays189 A cap w)) ?_
    rintro e' w' ⟨rfl, rfl⟩
    exact ⟨_, H, [ch], rfl, St.init hs, rfl, ch, rfl, by simpa [sortI] using ho⟩
  · exact sort_c H v xs ch ho hne hl
def k_34  : List Int → Unit → List Int
  | [], sl1 => []
  | yl1 :: ysl1, sl1 => yl1 :: (k_34 ysl1 ())
def k_4b (q0 : List Int) : List Int :=
  (k_34 q0 ()) ++ []
theorem slices_Values_int_1_c (H : Heap) (a8 : Nat) (vq0 : Value) (q0 : List Int) (hq0 : RdS (intE .i64) H vq0 q0) (hb0 : H a8 = some (.cells #[vq0] 25)) : Iter Tryz.prog (.func (.func 218) #[] ([.pointer (some ⟨a8, 0, none⟩)] : List Value).toArray) Y186 H (k_4b q0) := by
 intro l J Jx H1 Lc s1 hJ hJx hY h0
 obtain ⟨Aq0, cq0, rfl, hcq0, hdq0, hq0⟩ := hq0.shape
 refine Fc.of_body (N := 16) func218 rfl kA rfl rfl ?_
 intro w0
 refine sR (R.ldH isAgg25 rfl rfl (s1 _ _ hb0) rfl ?_)
 refine R.len underlying25 rfl rfl ?_
 refine mA ?_
 refine nN (T.block (T.loop (ι := Nat × (List Int) × Own) (fun ⟨a1, a0, a2⟩ H' L' ds' => a1 ≤ q0.length ∧ Has L' (a2) ∧ J a0 H' a2 ∧ a0 ++ k_34 (q0.drop a1) () = k_34 q0 ()) (fun ⟨a1, a0, a2⟩ => [(7, .int .i64 (a1 : Int)), (0, yieldv l), (5, .slice Aq0 q0.length cq0), (6, .int .i64 (q0.length : Int))]) (fun ⟨a1, a0, a2⟩ => q0.length - a1) (0, [], Lc) ?_ ?_ ?_))
 exact ⟨oA, (Has.refl _), (by simpa using h0), (by rfl)⟩
 exact ⟨rfl, rfl, rfl, rfl, trivial⟩
 intro ⟨a1, a0, a2⟩ σ_l1 H_l1 L_l1 ds_l1 a5 a4
 obtain ⟨hkl1, a4⟩ := a4
 obtain ⟨hLl1, b0, a6⟩ := a4
 refine T.has hLl1 ?_
 refine sR (R.lss rfl rfl rfl ?_)
 refine nN (T.seq (T.condD rfl (fun c8 => ?_) (fun c8 => ?_)))
 have hltl1 : a1 < q0.length := by omega
 obtain ⟨a3, a7⟩ := getk (xs := q0) (k := a1) oA
 refine T.skip (Post.thnN (T.seq ?_))
 refine T.block (sR ?_)
 obtain ⟨b9, o9, i9, k9⟩ := RdS.elem (hq0.mono (s1.trans a5)) a7
 obtain ⟨l9, g9, k9⟩ := k9
 obtain rfl : l9 = [.int .i64 a3] := g9
 refine R.ixp underlying25 sizeOf3 rfl rfl rfl oA i9 ?_
 refine R.ldC isAgg3 rfl rfl (k9 0 _ rfl) ?_
 refine aA ?_
 refine nN (sR (mA ?_))
 refine mA ?_
 have a9 : (a0 ++ [a3]) <+: k_34 q0 () := by rw [← a6, k_8 a7, k_34]; exact (pf_app pf_one)
 have b1 : (a0 ++ [a3]) <+: k_4b q0 := by rw [k_4b]; exact (pf_l a9)
 have b2 : (a0 ++ [a3]) <+: k_4b q0 := by simpa [List.append_assoc] using b1
 refine TL.callT 0 rfl rfl rfl (hY a0 a3 _ H_l1 a2 a5 b2 b0 rfl) ?_
 intro v13 H13 L13 s13 q13
 rcases q13 with ⟨rfl, j13⟩ | ⟨rfl, j13⟩
 refine R.not rfl rfl ?_
 refine nN (T.condN rfl ?_)
 refine T.skip (Post.blkN ?_)
 refine id (Post.thnN (T.region ?_))
 refine R.addI rfl rfl rfl oA ?_
 refine mA ?_
 refine nN ?_
 exact ⟨(a1 + 1, (a0 ++ [a3]), L13), (a5.trans s13), ⟨oA, (Has.refl _), (by simpa [List.append_assoc] using j13), (by (rw [← a6, k_8 a7, k_34]) <;> simp)⟩, by show q0.length - (a1 + 1) < q0.length - a1; omega, rfl, rfl, rfl, rfl, trivial⟩
 refine R.not rfl rfl ?_
 refine nN (T.condY rfl ?_)
 refine T.ret (Post.blkR (Post.thnR (Post.thnR (Post.blkR ?_))))
 exact fin0L L13 rfl (List.Sublist.refl _) (.inr ⟨a0, a3, b2, j13⟩)
 refine T.exit (Post.thnE (Post.thnE (Post.blkX ?_)))
 have hEl1 : k_34 q0 () = a0 := (by rw [← a6, show a1 = q0.length by omega, List.drop_length, k_34] <;> simp)
 refine id ?_
 have hM : k_4b q0 = a0 := by rw [k_4b, hEl1] <;> simp
 exact fin0N a2 rfl (List.Sublist.refl _) (.inl (by rw [hM]; exact b0))
def k_75 (a0 : List Int) : (List Int) :=
  (k_4b a0)
theorem slices_Values_int_c (H : Heap) (va0 : Value) (a0 : List Int) (ha0 : RdS (intE .i64) H va0 a0) : Fp Tryz.prog (fnv 196) [va0] H (fun v' H' => ∃ a1, v' = .func (.func 218) #[] a1 ∧ Iter Tryz.prog (.func (.func 218) #[] a1) Y186 H' (k_75 a0)) := by
 refine Fc.of_body (N := 4) func196 rfl kA rfl rfl ?_
 intro w0
 obtain ⟨Aa0, ca0, rfl, hca0, hda0, ha0⟩ := ha0.shape
 refine sR (R.box rfl cA ?_)
 intro b1
 refine aA ?_
 refine TL.shut .hd ?_
 intro a2 a3 a4
 have a5 : a2 b1 = some (.cells #[.slice Aa0 a0.length ca0] 25) := shut1 a4
 refine nN (sR (R.mkf (cs := [_]) rfl rfl ?_))
 refine aA ?_
 refine nN (T.has Has.nil ?_)
 refine T.ret ?_
 have hM : k_75 a0 = (k_4b a0) := by rw [k_75]
 exact fin1L (v := .func (.func 218) #[] ([.pointer (some ⟨b1, 0, none⟩)] : List Value).toArray) [] rfl rfl (List.Sublist.refl _) ⟨rfl, ([.pointer (some ⟨b1, 0, none⟩)] : List Value).toArray, by first | rw [hM] | rfl, by rw [hM]; exact (slices_Values_int_1_c _ b1 _ a0 (ha0.mono a3) a5)⟩
theorem slices_Values_int_go : ∀ (l : List Int) (q : List Int), k_34 l () = l
  | [], _ => rfl
  | y :: ys, q => by rw [k_34, slices_Values_int_go ys q]
theorem slices_Values_int_eq (l : List Int) : k_75 l = l := by
  unfold k_75 k_4b
  rw [slices_Values_int_go l l, List.append_nil]
def k_36  : List Int → ((List Int)) → (List Int)
  | [], sr1 => sr1
  | yr1 :: ysr1, sr1 => k_36 ysr1 ((sr1 ++ [yr1]))
def k_5b (a1 : List Int) : (List Int) :=
  LR.seq (k_36 a1 []) (fun or1 => or1)
theorem slices_AppendSeq_int_c (H : Heap)  (ga1 : Nat) (la1 : Array Value) (a1 : List Int) (ea1 : Go.Proofs.Enters Tryz.prog ga1) (ha1 : Iter Tryz.prog (.func (.func ga1) #[] la1) Y186 H a1) (hlen : a1.length ≤ 4000000) : Fc Tryz.prog (fnv 238) [.slice none 0 0, .func (.func ga1) #[] la1] H [] (fun v' H' L' => ∃ b6 b7, v' = b6 ∧ L' = [b7] ∧ OwnS (intE .i64) 3 H' b6 (k_5b a1) b7) := by
 refine Fc.of_body (N := 13) func238 rfl kA rfl rfl ?_
 intro w0
 refine sR (R.box rfl cA ?_)
 intro b2
 refine aA ?_
 refine nN (T.seq (sR (mA ?_)))
 refine nN (T.block (T.rangeFunc (xs := a1) rfl rfl ea1 ha1 (fun _ _ _ h => by subst h; rfl) rfl (fun pre H' L' => ∃ (a4 : Value) (a0 : List Int) (a2 : Chunk), Has L' [[(b2, .cells #[a4] 25)], a2] ∧ OwnS (intE .i64) 3 H' a4 a0 a2 ∧ a0.length ≤ pre.length ∧ k_36 (a1.drop pre.length) a0 = k_36 a1 []) (fun _ _ _ _ => False) (fun pre H H' L hle ⟨a4, a0, a2, hL, a3, hB0, hQ⟩ => ⟨a4, a0, a2, hL, (a3.mono hle), hB0, hQ⟩) (fun _ _ _ _ _ _ h => h) ?_ ?_ ?_ ?_))
 exact ⟨.slice none 0 0, [], [], (Has.cons .hd (Has.none Has.nil)), OwnS.nil, bA, (by rfl)⟩
 intro lr1 rr1 wr1 b4 a7 vsr1 Hr1 Lr1 sr1 a9 a8 hYr1
 obtain ⟨a4, a0, a2, b0, a3, b8, b1⟩ := a8
 obtain ⟨a5, a6, rfl, b5, b3⟩ := OwnS.shape a3
 obtain rfl := hYr1
 refine T.has b0 ?_
 have hlpr1 : b4.length + 1 ≤ a1.length := by have h0 := a9.length_le; simpa using h0
 refine T.region (aA ?_)
 refine TL.nil (onlyN.mk ?_)
 refine T.block (T.region (R.ld isAgg25 rfl rfl .hd rfl ?_))
 refine mA ?_
 refine R.bs rfl (k_4 underlying25 sizeOf3 zeroValue3 rfl rfl) ?_
 intro b10
 have w10 := lit1 (E := (intE .i64)) (e := 3) (H := Hr1) (b := b10) (y := a7) (a := [.int .i64 a7]) rfl
 obtain ⟨k11, y11, r11⟩ := Src.ownA w10
 refine R.app (E := (intE .i64)) (e := 3) (xs := a0) (ys := [a7]) k_aa rfl rfl rfl a3 (.tl (.tl .hd)) (r11 _ .hd) y11 lA lA ?_
 intro v11 c11 w11
 obtain ⟨A11, p11, rfl, m11, n11⟩ := OwnS.shape w11
 refine TL.del (.tl .hd) ?_
 refine stY (l := [sl A11 (a0 ++ [a7]) p11]) (new := [sl A11 (a0 ++ [a7]) p11]) (.tl .hd) sizeOf25 rfl (cells1 rfl) ?_
 refine TL.nil (Post.blkN ?_)
 refine id ?_
 exact ⟨sl A11 (a0 ++ [a7]) p11, (a0 ++ [a7]), c11, (Has.cons (.tl .hd) (Has.cons .hd Has.nil)), w11, bA, (by rw [← b1, drop_pre a9, k_36])⟩
 intro Dr1 Hr1 Lr1 sr1 a8
 obtain ⟨a4, a0, a2, b0, a3, b8, b1⟩ := a8
 obtain ⟨a5, a6, rfl, b5, b3⟩ := OwnS.shape a3
 have hEr1 : k_36 a1 [] = a0 := by rw [← b1, List.drop_length, k_36]
 refine id (Post.blkN ?_)
 refine id (Post.thnN (T.has b0 ?_))
 refine sR (R.ld isAgg25 rfl rfl .hd rfl ?_)
 refine aA ?_
 refine nN (T.has (Has.cons (.tl .hd) Has.nil) ?_)
 refine T.ret ?_
 have hM : k_5b a1 = a0 := by rw [k_5b, hEr1, LR.seq_go]
 exact fin1L (v := sl a5 a0 a6) [a2] rfl rfl (List.Sublist.refl _) ⟨sl a5 a0 a6, a2, by first | rw [hM] | rfl, rfl, by rw [hM]; exact a3⟩
 intro Dr1 cr1 b4 a7 Hr1 Lr1 sr1 a9 a8
 exact a8.elim
theorem slices_AppendSeq_int_go : ∀ (l a : List Int), k_36 l a = a ++ l
  | [], a => by simp [k_36]
  | y :: ys, a => by rw [k_36, slices_AppendSeq_int_go]; simp
theorem slices_AppendSeq_int_eq (l : List Int) : k_5b l = l := by
  unfold k_5b
  rw [slices_AppendSeq_int_go]; rfl
def k_7a (a0 : List Int) : (List Int) :=
  LR.seq (k_5b a0) (fun r4 => r4)
theorem slices_Collect_int_c (H : Heap) (ga0 : Nat) (la0 : Array Value) (a0 : List Int) (ea0 : Go.Proofs.Enters Tryz.prog ga0) (ha0 : Iter Tryz.prog (.func (.func ga0) #[] la0) Y186 H a0) (hlen : a0.length ≤ 4000000) : Fc Tryz.prog (fnv 217) [.func (.func ga0) #[] la0] H [] (fun v' H' L' => ∃ a5 a6, v' = a5 ∧ L' = [a6] ∧ OwnS (intE .i64) 3 H' a5 (k_7a a0) a6) := by
 refine Fc.of_body (N := 5) func217 rfl kA rfl rfl ?_
 intro w0
 refine sR (aA ?_)
 refine nN (sR (mA ?_))
 obtain ⟨r4, er4⟩ : ∃ r, r = (k_5b a0) := ⟨_, rfl⟩
 refine TL.call [] rfl rfl rfl (slices_AppendSeq_int_c _ _ _ a0 ea0 ha0 bA) ?_
 intro v4 H4 L4 s4 q4
 rw [← er4] at q4
 obtain ⟨u4_0_0, a1, rfl, rfl, a2⟩ := q4
 obtain ⟨a3, a4, rfl, m4_0_0, n4_0_0⟩ := OwnS.shape a2
 have t4 : r4.length ≤ 4000000 := by rw [er4, slices_AppendSeq_int_eq]; omega
 refine aA ?_
 refine nN (T.has (Has.cons .hd Has.nil) ?_)
 refine T.ret ?_
 have hM : k_7a a0 = r4 := by subst er4; rw [k_7a, LR.seq_go]
 exact fin1L (v := sl a3 r4 a4) [a1] rfl rfl (List.Sublist.refl _) ⟨sl a3 r4 a4, a1, by first | rw [hM] | rfl, rfl, by rw [hM]; exact a2⟩
theorem slices_Collect_int_eq (l : List Int) : k_7a l = l := slices_AppendSeq_int_eq l
def k_70 (a0 : List Int) : (List Int) :=
  LR.seq (k_7a a0) (fun r5 => (sortI r5))
theorem slices_Sorted_int_c (H : Heap) (ga0 : Nat) (la0 : Array Value) (a0 : List Int) (ea0 : Go.Proofs.Enters Tryz.prog ga0) (ha0 : Iter Tryz.prog (.func (.func ga0) #[] la0) Y186 H a0) (hlen : a0.length ≤ 4000000) : Fc Tryz.prog (fnv 195) [.func (.func ga0) #[] la0] H [] (fun v' H' L' => ∃ a4 a5, v' = a4 ∧ L' = [a5] ∧ OwnS (intE .i64) 3 H' a4 (k_70 a0) a5) := by
 refine Fc.of_body (N := 9) func195 rfl kA rfl rfl ?_
 intro w0
 refine sR (aA ?_)
 refine nN (sR (mA ?_))
 obtain ⟨r5, er5⟩ : ∃ r, r = (k_7a a0) := ⟨_, rfl⟩
 refine TL.call [] rfl rfl rfl (slices_Collect_int_c _ _ _ a0 ea0 ha0 bA) ?_
 intro v5 H5 L5 s5 q5
 rw [← er5] at q5
 obtain ⟨u5_0_0, c5_0_0, rfl, rfl, a1⟩ := q5
 obtain ⟨a2, a3, rfl, m5_0_0, n5_0_0⟩ := OwnS.shape a1
 have t5 : r5.length ≤ 4000000 := by rw [er5, slices_Collect_int_eq]; omega
 refine aA ?_
 refine nN (sR (mA ?_))
 refine TL.call [true] rfl rfl rfl (sortA_c _ _ _ _ a1 bA) ?_
 intro v7 H7 L7 s7 q7
 obtain ⟨rfl, c7, rfl, w7⟩ := q7
 refine nN (sR (mA ?_))
 refine aA ?_
 refine nN (T.has (Has.cons .hd Has.nil) ?_)
 refine T.ret ?_
 have hM : k_70 a0 = (sortI r5) := by subst er5; rw [k_70, LR.seq_go]
 exact fin1L (v := sl a2 r5 a3) [c7] rfl rfl (List.Sublist.refl _) ⟨sl a2 r5 a3, c7, by first | rw [hM] | rfl, rfl, by rw [hM]; exact w7⟩
theorem slices_Sorted_int_eq (l : List Int) : k_70 l = sortI l := by unfold k_70; rw [slices_Collect_int_eq]; rfl
end Go.SX
namespace Go.SX
open Go
theorem within_go (a b : Int) : ∀ l : List Int, k_5f a b l true = withinB a b l
  | [] => rfl
  | y :: ys => by
    rw [k_5f]
    simp only [LR.seq, withinB, List.all_cons]
    by_cases h1 : a ≤ y
    · by_cases h2 : y ≤ b
      · simp [h1, h2, within_go a b ys, withinB]
      · simp [h1, h2]
    · simp [h1]
theorem within_eq (a b : Int) (l : List Int) : k_24 a b l = withinB a b l := by
  unfold k_24; simp only [LR.seq]; exact within_go a b l
theorem within1 {a b n : Int} : k_24 a b [n] = true ↔ a ≤ n ∧ n ≤ b := by
  rw [within_eq]; simp [withinB]
theorem within2 {a b n m : Int} : k_24 a b [n, m] = true ↔ (a ≤ n ∧ n ≤ b) ∧ (a ≤ m ∧ m ≤ b) := by
  rw [within_eq]; simp [withinB]
theorem kindG_1 {x : Int} : kindG x = 1 ↔ kbG x 1 = true := by
  unfold kindG
  constructor
  · intro h
    cases hk : kbG x 1 with
    | true => rfl
    | false =>
      rw [hk] at h
      simp only [Bool.false_eq_true, if_false] at h
      repeat' split at h
      all_goals omega
  · intro h; rw [if_pos h]
theorem kind1_parts {x : Int} (h : kindG x = 1) : k_1 x = ((k_e x).2, (k_e x).1) ∧ x = k_42 0 (k_e x).1 (k_e x).2 ∧ (1 ≤ (k_e x).2 ∧ (k_e x).2 ≤ 1048578) ∧ (0 ≤ (k_e x).1 ∧ (k_e x).1 ≤ 7) := by
  have h1 := kindG_1.1 h
  have h2 : k_99 x (k_e x).1 (k_e x).2 = true := h1
  unfold k_99 at h2
  split at h2
  · rename_i h3
    split at h2
    · rename_i h4
      refine ⟨?_, h3, within1.1 h4, within1.1 h2⟩
      unfold k_1
      simp only [LR.seq, h]
      rfl
    · cases h2
  · cases h2
theorem kind1_idx {x : Int} (h : kindG x = 1) : 1 ≤ (k_1 x).1 ∧ (k_1 x).1 ≤ 1048578 := by
  obtain ⟨h1, _, h2, _⟩ := kind1_parts h
  rw [h1]; exact h2
end Go.SX
namespace Go.SX
open Go Go.Proofs Go.Proofs.Tryz
theorem midI {i j : Int} (h0 : 0 ≤ i) (h1 : i < j) (h2 : j ≤ 2000000) : IntKind.i64.wrap (bshr .u64 (IntKind.u64.wrap (i + j)) 1) = (i + j) / 2 := by
  have e1 : IntKind.u64.wrap (i + j) = i + j := wrap_u64 ⟨by omega, by omega⟩
  have e2 : bshr .u64 (i + j) 1 = (i + j) / 2 := by
    show (i + j).fdiv (2 ^ (min (1 : Int).toNat 64)) = _
    rw [Int.fdiv_eq_ediv_of_nonneg _ (by decide)]; rfl
  rw [e1, e2, wrap_i64 (by omega) (by omega)]
def k_89 (a0 : Int) : Bool :=
  if (1 : Int) ≤ a0 then ((decide (a0 ≤ 1048578))) else false
theorem trait_index_c (H : Heap) (a0 : Int) : Fv Tryz.prog (fnv 139) [.int .i64 a0] H (.bool (k_89 a0)) := by
 refine Fc.of_body (N := 9) func139 rfl kA rfl rfl ?_
 intro w0
 refine sR (aA ?_)
 refine nN (sR (mA ?_))
 refine R.geq rfl rfl rfl ?_
 refine mA ?_
 refine TL.gsplitD 5 rfl (fun g5 => ?_) (fun g5 => ?_)
 refine mA ?_
 refine R.leq rfl rfl rfl ?_
 refine R.pkTE rfl rfl cA ?_
 refine aA ?_
 refine nN (T.has Has.nil ?_)
 refine T.ret ?_
 have hM : k_89 a0 = (decide (a0 ≤ 1048578)) := by rw [k_89, if_pos g5]
 exact fin1L (v := .bool (decide (a0 ≤ 1048578))) [] rfl rfl (List.Sublist.refl _) ⟨rfl, by first | rw [hM] | rfl⟩
 refine oF ?_
 refine oF ?_
 refine R.pkFE rfl rfl cA ?_
 refine aA ?_
 refine nN (T.has Has.nil ?_)
 refine T.ret ?_
 have hM : k_89 a0 = false := by rw [k_89, if_neg g5]
 exact fin1L (v := .bool false) [] rfl rfl (List.Sublist.refl _) ⟨rfl, by first | rw [hM] | rfl⟩
def k_63 (a0 : Int) : Bool :=
  if (0 : Int) ≤ a0 then ((decide (a0 ≤ 2))) else false
theorem trait_May_1_c (H : Heap) (a0 : Int) : Fv Tryz.prog (fnv 198) [.int .i64 a0] H (.bool (k_63 a0)) := by
 refine Fc.of_body (N := 9) func198 rfl kA rfl rfl ?_
 intro w0
 refine sR (aA ?_)
 refine nN (sR (mA ?_))
 refine R.geq rfl rfl rfl ?_
 refine mA ?_
 refine TL.gsplitD 5 rfl (fun g5 => ?_) (fun g5 => ?_)
 refine mA ?_
 refine R.leq rfl rfl rfl ?_
 refine R.pkTE rfl rfl cA ?_
 refine aA ?_
 refine nN (T.has Has.nil ?_)
 refine T.ret ?_
 have hM : k_63 a0 = (decide (a0 ≤ 2)) := by rw [k_63, if_pos g5]
 exact fin1L (v := .bool (decide (a0 ≤ 2))) [] rfl rfl (List.Sublist.refl _) ⟨rfl, by first | rw [hM] | rfl⟩
 refine oF ?_
 refine oF ?_
 refine R.pkFE rfl rfl cA ?_
 refine aA ?_
 refine nN (T.has Has.nil ?_)
 refine T.ret ?_
 have hM : k_63 a0 = false := by rw [k_63, if_neg g5]
 exact fin1L (v := .bool false) [] rfl rfl (List.Sublist.refl _) ⟨rfl, by first | rw [hM] | rfl⟩
def k_8f (a0 : Bool × Bool × Int × Int × Int) : Int :=
  LR.seq (if a0.2.2.1 < 0 then true else ((decide ((4 : Int) < a0.2.2.1))) : Bool) (fun sc1 => if sc1 = true then 231 else (LR.seq (if (!(k_63 a0.2.2.2.1)) = true then true else ((!(k_63 a0.2.2.2.2))) : Bool) (fun sc2 => if sc2 = true then 2 else 0)))
theorem trait_May_c (H : Heap) (a0 : Bool × Bool × Int × Int × Int) : Fv Tryz.prog (fnv 140) [.agg #[.bool a0.1, .bool a0.2.1, .int .i64 a0.2.2.1, .int .i64 a0.2.2.2.1, .int .i64 a0.2.2.2.2]] H (.int .i64 (k_8f a0)) := by
 refine Fc.of_body (N := 26) func140 rfl kA rfl rfl ?_
 intro w0
 refine sR (R.box rfl cA ?_)
 intro b1
 refine aA ?_
 refine TL.shut .hd ?_
 intro a9 sb1_1 b0
 have a1 : a9 b1 = some (.cells #[.bool (a0.1), .bool (a0.2.1), .int .i64 (a0.2.2.1), .int .i64 (a0.2.2.2.1), .int .i64 (a0.2.2.2.2)] 51) := shut1 b0
 refine nN (sR (aA ?_))
 refine nN (T.seq (T.block (T.seq (T.cutK (ι := Bool) (fun a5 H' L' ds' => Has L' [] ∧ (if a0.2.2.1 < 0 then true else ((decide ((4 : Int) < a0.2.2.1))) : Bool) = a5) (fun a5 => [(1, .pointer (some ⟨b1, 0, none⟩)), (3, .func (.func 198) #[] #[]), (4, .bool (a5))]) ?_ ?_))))
 refine T.region (fA underlying51 rfl sizeOf3 ?_)
 refine R.ldH isAgg3 rfl rfl a1 rfl ?_
 refine R.lss rfl rfl rfl ?_
 refine mA ?_
 refine TL.gsplitD 8 rfl (fun g8 => ?_) (fun g8 => ?_)
 refine oF ?_
 refine oF ?_
 refine oF ?_
 refine R.pkTE rfl rfl cA ?_
 refine aA ?_
 refine nN ?_
 exact ⟨true, HLe.refl _, ⟨Has.nil, (by rw [if_pos g8])⟩, rfl, rfl, rfl, trivial⟩
 refine fA underlying51 rfl sizeOf3 ?_
 refine R.ldH isAgg3 rfl rfl a1 rfl ?_
 refine R.gtr rfl rfl rfl ?_
 refine R.pkFE rfl rfl cA ?_
 refine aA ?_
 refine nN ?_
 exact ⟨(decide ((4 : Int) < a0.2.2.1)), HLe.refl _, ⟨Has.nil, (by rw [if_neg g8])⟩, rfl, rfl, rfl, trivial⟩
 intro a5 σ_c1 H_c1 L_c1 ds_c1 a8 b2
 obtain ⟨hLc1, a3⟩ := b2
 refine T.has hLc1 ?_
 refine T.cond rfl (fun c4 => ?_) (fun c4 => ?_)
 refine T.set 4 (.bool true) (congrArg Value.bool c4) ?_
 have hZ4 := a3.trans c4
 try simp only [or_f, or_t, and_f, and_t, decide_eq_true_eq, decide_eq_false_iff_not, Bool.not_eq_true'] at hZ4
 refine sR (aA ?_)
 refine nN (T.has Has.nil ?_)
 refine T.ret (Post.blkR (Post.thnR ?_))
 have hM : k_8f a0 = 231 := by rw [k_8f, a3, LR.seq_go, if_t c4]
 exact fin1L (v := .int .i64 231) [] rfl rfl (List.Sublist.refl _) ⟨rfl, by first | rw [hM] | rfl⟩
 refine T.set 4 (.bool false) (congrArg Value.bool c4) ?_
 have hZ4 := a3.trans c4
 try simp only [or_f, or_t, and_f, and_t, decide_eq_true_eq, decide_eq_false_iff_not, Bool.not_eq_true'] at hZ4
 refine T.seq (T.cutK (ι := Bool) (fun a2 H' L' ds' => Has L' [] ∧ (if (!(k_63 a0.2.2.2.1)) = true then true else ((!(k_63 a0.2.2.2.2))) : Bool) = a2) (fun a2 => [(13, .bool (a2))]) ?_ ?_)
 refine T.region (mA ?_)
 refine fA underlying51 rfl sizeOf3 ?_
 refine R.ldH isAgg3 rfl rfl (a8 _ _ a1) rfl ?_
 refine R.callv rfl rfl rfl (trait_May_1_c _ (a0.2.2.2.1)) ?_
 refine R.not rfl rfl ?_
 refine mA ?_
 refine TL.gsplit 19 rfl (fun g19 => ?_) (fun g19 => ?_)
 refine oF ?_
 refine oF ?_
 refine oF ?_
 refine oF ?_
 refine oF ?_
 refine R.pkTE rfl rfl cA ?_
 refine aA ?_
 refine nN ?_
 exact ⟨true, HLe.refl _, ⟨Has.nil, (by rw [if_t g19])⟩, rfl, trivial⟩
 refine mA ?_
 refine fA underlying51 rfl sizeOf3 ?_
 refine R.ldH isAgg3 rfl rfl (a8 _ _ a1) rfl ?_
 refine R.callv rfl rfl rfl (trait_May_1_c _ (a0.2.2.2.2)) ?_
 refine R.not rfl rfl ?_
 refine R.pkFE rfl rfl cA ?_
 refine aA ?_
 refine nN ?_
 exact ⟨(!(k_63 a0.2.2.2.2)), HLe.refl _, ⟨Has.nil, (by rw [if_f g19])⟩, rfl, trivial⟩
 intro a2 σ_c2 H_c2 L_c2 ds_c2 s_c2 b3
 obtain ⟨hLc2, a6⟩ := b3
 refine T.has hLc2 ?_
 refine T.cond rfl (fun a4 => ?_) (fun a4 => ?_)
 refine T.set 13 (.bool true) (congrArg Value.bool a4) ?_
 have a7 := a6.trans a4
 try simp only [or_f, or_t, and_f, and_t, decide_eq_true_eq, decide_eq_false_iff_not, Bool.not_eq_true'] at a7
 refine sR (aA ?_)
 refine nN (T.has Has.nil ?_)
 refine T.ret (Post.blkR (Post.thnR ?_))
 have hM : k_8f a0 = 2 := by rw [k_8f, a3, LR.seq_go, if_f c4, a6, LR.seq_go, if_t a4]
 exact fin1L (v := .int .i64 2) [] rfl rfl (List.Sublist.refl _) ⟨rfl, by first | rw [hM] | rfl⟩
 refine T.set 13 (.bool false) (congrArg Value.bool a4) ?_
 have a7 := a6.trans a4
 try simp only [or_f, or_t, and_f, and_t, decide_eq_true_eq, decide_eq_false_iff_not, Bool.not_eq_true'] at a7
 refine T.skip (Post.blkN ?_)
 refine id (Post.thnN (sR ?_))
 refine aA ?_
 refine nN (T.has Has.nil ?_)
 refine T.ret ?_
 have hM : k_8f a0 = 0 := by rw [k_8f, a3, LR.seq_go, if_f c4, a6, LR.seq_go, if_f a4]
 exact fin1L (v := .int .i64 0) [] rfl rfl (List.Sublist.refl _) ⟨rfl, by first | rw [hM] | rfl⟩
def k_33 (a1 : Int → (ZL) → Bool) : List (ZL) → Nat → Unit → LR (Bool) (Unit)
  | [], kl1, sl1 => .go ()
  | yl1 :: ysl1, kl1, sl1 => if (!(a1 ((kl1 : Int)) yl1)) = true then (.ret false) else (k_33 a1 ysl1 (kl1 + 1) ())
def k_39 (a0 : List (ZL)) (a1 : Int → (ZL) → Bool) : Bool :=
  LR.on (k_33 a1 a0 0 ()) (fun r => r) (fun ol1 => true)
theorem trait_all_Relation_c (H : Heap) (va0 : Value) (a0 : List (ZL)) (ha0 : RdS relationE H va0 a0) (a9 : Value) (a1 : Int → (ZL) → Bool) (ha1 : ∀ H', HLe H H' → ∀ (z0 : Int) (z1 : ZL), (∃ k : Nat, z0 = k ∧ a0[k]? = some z1) → Fv Tryz.prog a9 [.int .i64 z0, .agg #[.int .i64 z1.1, .bool z1.2.1, .bool z1.2.2.1, .int .i64 z1.2.2.2.1, .int .i64 z1.2.2.2.2.1, .int .i64 z1.2.2.2.2.2]] H' (.bool (a1 z0 z1))) (na1 : a9.oneCell' = true) : Fv Tryz.prog (fnv 137) [va0, a9] H (.bool (k_39 a0 a1)) := by
 refine Fc.of_body (N := 20) func137 rfl kA rfl rfl ?_
 intro w0
 obtain ⟨Aa0, ca0, rfl, hca0, hda0, ha0⟩ := ha0.shape
 refine sR (aA ?_)
 refine nN (T.seq (sR (mA ?_)))
 refine R.len underlying28 rfl rfl ?_
 refine mA ?_
 refine nN (T.block (T.loop (ι := Nat) (fun a3 H' L' ds' => a3 ≤ a0.length ∧ Has L' [] ∧ k_33 a1 (a0.drop a3) a3 () = k_33 a1 a0 0 ()) (fun a3 => [(9, .int .i64 (a3 : Int)), (1, a9), (7, .slice Aa0 a0.length ca0), (8, .int .i64 (a0.length : Int))]) (fun a3 => a0.length - a3) 0 ?_ ?_ ?_))
 exact ⟨oA, Has.nil, (by rfl)⟩
 exact ⟨rfl, rfl, rfl, rfl, trivial⟩
 intro a3 σ_l1 H_l1 L_l1 ds_l1 a7 a4
 obtain ⟨hkl1, a4⟩ := a4
 obtain ⟨hLl1, a8⟩ := a4
 refine T.has hLl1 ?_
 refine sR (R.lss rfl rfl rfl ?_)
 refine nN (T.seq (T.condD rfl (fun c10 => ?_) (fun c10 => ?_)))
 have hltl1 : a3 < a0.length := by omega
 obtain ⟨a2, a5⟩ := getk (xs := a0) (k := a3) oA
 refine T.skip (Post.thnN (T.seq ?_))
 refine T.block (sR (mA ?_))
 obtain ⟨b12, o12, i12, k12⟩ := RdS.elem (ha0.mono a7) a5
 obtain ⟨l12, g12, k12⟩ := k12
 obtain rfl : l12 = [.int .i64 (a2.1), .bool (a2.2.1), .bool (a2.2.2.1), .int .i64 (a2.2.2.2.1), .int .i64 (a2.2.2.2.2.1), .int .i64 (a2.2.2.2.2.2)] := g12
 refine R.ixp underlying28 sizeOf55 rfl rfl rfl oA i12 ?_
 refine R.ldK (l := [.int .i64 (a2.1), .bool (a2.2.1), .bool (a2.2.2.1), .int .i64 (a2.2.2.2.1), .int .i64 (a2.2.2.2.2.1), .int .i64 (a2.2.2.2.2.2)]) isAgg55 sizeOf55 rfl rfl k12 rfl ?_
 refine R.alloc zeroValue55 rfl ?_
 intro b6
 refine aA ?_
 refine stY (l := [.int .i64 (a2.1), .bool (a2.2.1), .bool (a2.2.2.1), .int .i64 (a2.2.2.2.1), .int .i64 (a2.2.2.2.2.1), .int .i64 (a2.2.2.2.2.2)]) (new := [.int .i64 (a2.1), .bool (a2.2.1), .bool (a2.2.2.1), .int .i64 (a2.2.2.2.1), .int .i64 (a2.2.2.2.2.1), .int .i64 (a2.2.2.2.2.2)]) .hd sizeOf55 rfl rfl ?_
 refine TL.shut .hd ?_
 intro b1 b0 b2
 have b3 : b1 b6 = some (.cells #[.int .i64 (a2.1), .bool (a2.2.1), .bool (a2.2.2.1), .int .i64 (a2.2.2.2.1), .int .i64 (a2.2.2.2.2.1), .int .i64 (a2.2.2.2.2.2)] 55) := shut1 b2
 refine nN (sR (mA ?_))
 refine mA ?_
 refine R.ldXH (cs := [.int .i64 (a2.1), .bool (a2.2.1), .bool (a2.2.2.1), .int .i64 (a2.2.2.2.1), .int .i64 (a2.2.2.2.2.1), .int .i64 (a2.2.2.2.2.2)]) (l := [.int .i64 (a2.1), .bool (a2.2.1), .bool (a2.2.2.1), .int .i64 (a2.2.2.2.1), .int .i64 (a2.2.2.2.2.1), .int .i64 (a2.2.2.2.2.2)]) isAgg55 sizeOf55 rfl rfl b3 rfl rfl ?_
 refine R.callv rfl rfl rfl (ha1 _ (a7.trans b0) ((a3 : Int)) a2 (by exact ⟨a3, rfl, a5⟩)) ?_
 refine R.not rfl rfl ?_
 refine nN (T.cond rfl (fun a6 => ?_) (fun a6 => ?_))
 refine T.set 18 (.bool true) (congrArg Value.bool a6) ?_
 refine sR (aA ?_)
 refine nN (T.has Has.nil ?_)
 refine T.ret (Post.blkR (Post.thnR (Post.thnR (Post.blkR (Post.thnR ?_)))))
 have hXl1 : k_33 a1 a0 0 () = .ret false := by rw [← a8, k_8 a5, k_33]; rw [if_t a6]
 have hM : k_39 a0 a1 = false := by rw [k_39, hXl1, LR.on_ret]
 exact fin1L (v := .bool false) [] rfl rfl (List.Sublist.refl _) ⟨rfl, by first | rw [hM] | rfl⟩
 refine T.set 18 (.bool false) (congrArg Value.bool a6) ?_
 refine T.skip (Post.blkN ?_)
 refine id (Post.thnN (T.region ?_))
 refine R.addI rfl rfl rfl oA ?_
 refine mA ?_
 refine nN ?_
 exact ⟨a3 + 1, (a7.trans b0), ⟨oA, Has.nil, (by rw [← a8, k_8 a5, k_33]; rw [if_f a6])⟩, by show a0.length - (a3 + 1) < a0.length - a3; omega, rfl, rfl, rfl, rfl, trivial⟩
 refine T.exit (Post.thnE (Post.thnE (Post.blkX ?_)))
 have hEl1 : k_33 a1 a0 0 () = .go () := (a8.symm.trans (by rw [show a3 = a0.length by omega, List.drop_length, k_33]))
 refine id (Post.thnN (sR ?_))
 refine aA ?_
 refine nN (T.has Has.nil ?_)
 refine T.ret ?_
 have hM : k_39 a0 a1 = true := by rw [k_39, hEl1, LR.on_go]
 exact fin1L (v := .bool true) [] rfl rfl (List.Sublist.refl _) ⟨rfl, by first | rw [hM] | rfl⟩
def k_19 (q0 : List (ZL)) (a0 : Int) (a1 : ZL) : Bool :=
  if (2 : Int) ≤ a0 then (if (k_89 a1.1) = true then (if ((k_8f a1.2) : Int) = 0 then (if a0 = 0 then true else ((decide ((q0.getD (((a0 - 1)).toNat) (((0, (false, false, 0, 0, 0)) : ZL) : ZL)).1 < a1.1)))) else false) else false) else (if (a1 : ZL) = (([((1, (true, true, 0, 1, 2)) : ZL), ((2, (true, false, 0, 0, 2)) : ZL)] : List (ZL)).getD a0.toNat (((0, (false, false, 0, 0, 0)) : ZL) : ZL)) then (if (k_89 a1.1) = true then (if ((k_8f a1.2) : Int) = 0 then (if a0 = 0 then true else ((decide ((q0.getD (((a0 - 1)).toNat) (((0, (false, false, 0, 0, 0)) : ZL) : ZL)).1 < a1.1)))) else false) else false) else false)
theorem trait_Check_1_c (H : Heap) {tG0 : TypeId} (hG0 : gF H 0 tG0) (b3 : Nat) (vq0 : Value) (q0 : List (ZL)) (b5 : RdS relationE H vq0 q0) (hb0 : H b3 = some (.cells #[vq0] 28)) (a0 : Int) (a1 : ZL) (h0 : 0 ≤ a0) (h1 : a0 < (q0.length : Int)) : Fv Tryz.prog (.func (.func 138) #[] ([.pointer (some ⟨b3, 0, none⟩)] : List Value).toArray) [.int .i64 a0, .agg #[.int .i64 a1.1, .bool a1.2.1, .bool a1.2.2.1, .int .i64 a1.2.2.2.1, .int .i64 a1.2.2.2.2.1, .int .i64 a1.2.2.2.2.2]] H (.bool (k_19 q0 a0 a1)) := by
 refine Fc.of_body (N := 41) func138 rfl kA rfl rfl ?_
 intro w0
 obtain ⟨Aq0, cq0, rfl, hcq0, hdq0, b5⟩ := b5.shape
 refine sR (R.box rfl cA ?_)
 intro b4
 refine aA ?_
 refine TL.shut .hd ?_
 intro b6 a6 b7
 have a3 : b6 b4 = some (.cells #[.int .i64 (a1.1), .bool (a1.2.1), .bool (a1.2.2.1), .int .i64 (a1.2.2.2.1), .int .i64 (a1.2.2.2.2.1), .int .i64 (a1.2.2.2.2.2)] 55) := shut1 b7
 refine nN (T.seq (T.draw k_2f kA ?_))
 refine vM 0 [1, 2, 3, 4, 5, 6, 7, 8, 9, 10, 11, 12, 13, 14, 15, 16, 17, 18, 19, 20, 21, 22, 23, 24, 25, 26, 27, 28, 29, 30, 31, 32, 33, 34, 35] rfl rfl cA ?_
 refine vA 1 [2, 3, 4, 5, 6, 7, 8, 9, 10, 11, 12, 13, 14, 15, 16, 17, 18, 19, 20, 21, 22, 23, 24, 25, 26, 27, 28, 29, 30, 31, 32, 33, 34, 35] rfl (fun _ _ h_ => R.geq rfl rfl rfl (TL.nil h_)) ?_
 refine vM 2 [3, 4, 5, 6, 7, 8, 9, 10, 11, 12, 13, 14, 15, 16, 17, 18, 19, 20, 21, 22, 23, 24, 25, 26, 27, 28, 29, 30, 31, 32, 33, 34, 35] rfl rfl cA ?_
 refine Plan.gsplitD 8 rfl (fun g8 => ?_) (fun g8 => ?_)
 refine vO 3 [4, 5, 6, 7, 8, 9, 10, 11, 12, 13, 14, 15, 16, 17, 18, 19, 20, 21, 22, 23, 24, 25, 26, 27, 28, 29, 30, 31, 32, 33, 34, 35] rfl rfl rfl rfl ?_
 refine vO 4 [5, 6, 7, 8, 9, 10, 11, 12, 13, 14, 15, 16, 17, 18, 19, 20, 21, 22, 23, 24, 25, 26, 27, 28, 29, 30, 31, 32, 33, 34, 35] rfl rfl rfl rfl ?_
 refine vO 5 [6, 7, 8, 9, 10, 11, 12, 13, 14, 15, 16, 17, 18, 19, 20, 21, 22, 23, 24, 25, 26, 27, 28, 29, 30, 31, 32, 33, 34, 35] rfl rfl rfl rfl ?_
 refine vO 6 [7, 8, 9, 10, 11, 12, 13, 14, 15, 16, 17, 18, 19, 20, 21, 22, 23, 24, 25, 26, 27, 28, 29, 30, 31, 32, 33, 34, 35] rfl rfl rfl rfl ?_
 refine vO 7 [8, 9, 10, 11, 12, 13, 14, 15, 16, 17, 18, 19, 20, 21, 22, 23, 24, 25, 26, 27, 28, 29, 30, 31, 32, 33, 34, 35] rfl rfl rfl rfl ?_
 refine vA 8 [9, 10, 11, 12, 13, 14, 15, 16, 17, 18, 19, 20, 21, 22, 23, 24, 25, 26, 27, 28, 29, 30, 31, 32, 33, 34, 35] rfl (fun _ _ h_ => R.pkTE rfl rfl cA (TL.nil h_)) ?_
 refine vM 9 [10, 11, 12, 13, 14, 15, 16, 17, 18, 19, 20, 21, 22, 23, 24, 25, 26, 27, 28, 29, 30, 31, 32, 33, 34, 35] rfl rfl cA ?_
 refine vP 10 [11, 12, 13, 14, 15, 16, 17, 18, 19, 20, 21, 22, 23, 24, 25, 26, 27, 28, 29, 30, 31, 32, 33, 34, 35] rfl underlying55 rfl sizeOf3 ?_
 refine vA 11 [12, 13, 14, 15, 16, 17, 18, 19, 20, 21, 22, 23, 24, 25, 26, 27, 28, 29, 30, 31, 32, 33, 34, 35] rfl (fun _ _ h_ => R.ldH isAgg3 rfl rfl a3 rfl (TL.nil h_)) ?_
 refine vA 12 [13, 14, 15, 16, 17, 18, 19, 20, 21, 22, 23, 24, 25, 26, 27, 28, 29, 30, 31, 32, 33, 34, 35] rfl (fun _ _ h_ => R.callv rfl rfl rfl (trait_index_c _ (a1.1)) (TL.nil h_)) ?_
 refine vA 13 [14, 15, 16, 17, 18, 19, 20, 21, 22, 23, 24, 25, 26, 27, 28, 29, 30, 31, 32, 33, 34, 35] rfl (fun _ _ h_ => R.pkTE rfl rfl cA (TL.nil h_)) ?_
 refine vM 14 [15, 16, 17, 18, 19, 20, 21, 22, 23, 24, 25, 26, 27, 28, 29, 30, 31, 32, 33, 34, 35] rfl rfl cA ?_
 refine Plan.gsplit 20 rfl (fun a4 => ?_) (fun a4 => ?_)
 refine vP 15 [16, 17, 18, 19, 20, 21, 22, 23, 24, 25, 26, 27, 28, 29, 30, 31, 32, 33, 34, 35] rfl underlying55 rfl sizeOf51 ?_
 refine vA 16 [17, 18, 19, 20, 21, 22, 23, 24, 25, 26, 27, 28, 29, 30, 31, 32, 33, 34, 35] rfl (fun _ _ h_ => R.ldXH (cs := [.int .i64 (a1.1), .bool (a1.2.1), .bool (a1.2.2.1), .int .i64 (a1.2.2.2.1), .int .i64 (a1.2.2.2.2.1), .int .i64 (a1.2.2.2.2.2)]) (l := [.bool (a1.2.1), .bool (a1.2.2.1), .int .i64 (a1.2.2.2.1), .int .i64 (a1.2.2.2.2.1), .int .i64 (a1.2.2.2.2.2)]) isAgg51 sizeOf51 rfl rfl a3 rfl rfl (TL.nil h_)) ?_
 refine vA 17 [18, 19, 20, 21, 22, 23, 24, 25, 26, 27, 28, 29, 30, 31, 32, 33, 34, 35] rfl (fun _ _ h_ => R.callv rfl rfl rfl (trait_May_c _ a1.2) (TL.nil h_)) ?_
 refine vA 18 [19, 20, 21, 22, 23, 24, 25, 26, 27, 28, 29, 30, 31, 32, 33, 34, 35] rfl (fun _ _ h_ => R.eql rfl rfl rfl (TL.nil h_)) ?_
 refine vA 19 [20, 21, 22, 23, 24, 25, 26, 27, 28, 29, 30, 31, 32, 33, 34, 35] rfl (fun _ _ h_ => R.pkTE rfl rfl cA (TL.nil h_)) ?_
 refine vM 20 [21, 22, 23, 24, 25, 26, 27, 28, 29, 30, 31, 32, 33, 34, 35] rfl rfl cA ?_
 refine Plan.gsplitD 26 rfl (fun a7 => ?_) (fun a7 => ?_)
 refine vM 21 [22, 23, 24, 25, 26, 27, 28, 29, 30, 31, 32, 33, 34, 35] rfl rfl cA ?_
 refine vA 22 [23, 24, 25, 26, 27, 28, 29, 30, 31, 32, 33, 34, 35] rfl (fun _ _ h_ => R.eql rfl rfl rfl (TL.nil h_)) ?_
 refine vM 23 [24, 25, 26, 27, 28, 29, 30, 31, 32, 33, 34, 35] rfl rfl cA ?_
 refine Plan.gsplitD 29 rfl (fun a9 => ?_) (fun a9 => ?_)
 refine vO 24 [25, 26, 27, 28, 29, 30, 31, 32, 33, 34, 35] rfl rfl rfl rfl ?_
 refine vO 25 [26, 27, 28, 29, 30, 31, 32, 33, 34, 35] rfl rfl rfl rfl ?_
 refine vO 26 [27, 28, 29, 30, 31, 32, 33, 34, 35] rfl rfl rfl rfl ?_
 refine vO 27 [28, 29, 30, 31, 32, 33, 34, 35] rfl rfl rfl rfl ?_
 refine vO 28 [29, 30, 31, 32, 33, 34, 35] rfl rfl rfl rfl ?_
 refine vO 29 [30, 31, 32, 33, 34, 35] rfl rfl rfl rfl ?_
 refine vO 30 [31, 32, 33, 34, 35] rfl rfl rfl rfl ?_
 refine vO 31 [32, 33, 34, 35] rfl rfl rfl rfl ?_
 refine vO 32 [33, 34, 35] rfl rfl rfl rfl ?_
 refine vA 33 [34, 35] rfl (fun _ _ h_ => R.pkTE rfl rfl cA (TL.nil h_)) ?_
 refine vA 34 [35] rfl (fun _ _ h_ => R.pkTE rfl rfl cA (TL.nil h_)) ?_
 refine vA 35 [] rfl (fun _ _ h_ => aA (TL.nil h_)) ?_
 refine Plan.done (Post.thnN ?_)
 refine T.has Has.nil ?_
 refine T.ret ?_
 have hM : k_19 q0 a0 a1 = true := by rw [k_19, if_pos g8, if_t a4, if_pos a7, if_pos a9]
 exact fin1L (v := .bool true) [] rfl rfl (List.Sublist.refl _) ⟨rfl, by first | rw [hM] | rfl⟩
 refine vA 24 [25, 26, 27, 28, 29, 30, 31, 32, 33, 34, 35] rfl (fun _ _ h_ => R.ldH isAgg28 rfl rfl (a6 _ _ hb0) rfl (TL.nil h_)) ?_
 refine vM 25 [26, 27, 28, 29, 30, 31, 32, 33, 34, 35] rfl rfl cA ?_
 refine vA 26 [27, 28, 29, 30, 31, 32, 33, 34, 35] rfl (fun _ _ h_ => R.subI rfl rfl rfl oA (TL.nil h_)) ?_
 have a5 : ((a0 - 1)).toNat < q0.length := bA
 obtain ⟨a2, e33, h33⟩ : ∃ y, y = (q0.getD (((a0 - 1)).toNat) (((0, (false, false, 0, 0, 0)) : ZL) : ZL)) ∧ q0[((a0 - 1)).toNat]? = some y := ⟨_, rfl, k_46 (by first | exact a5 | simpa using a5 | (simp only [List.length_set]; omega) | omega | (rw [(k_26 _).length_eq]; exact a5))⟩
 obtain ⟨b33, o33, i33, b0⟩ := RdS.elem (b5.mono a6) h33
 obtain ⟨l33, g33, b0⟩ := b0
 obtain rfl : l33 = [.int .i64 (a2.1), .bool (a2.2.1), .bool (a2.2.2.1), .int .i64 (a2.2.2.2.1), .int .i64 (a2.2.2.2.2.1), .int .i64 (a2.2.2.2.2.2)] := g33
 refine vA 27 [28, 29, 30, 31, 32, 33, 34, 35] rfl (fun _ _ h_ => R.ixp underlying28 sizeOf55 rfl rfl rfl bA i33 (TL.nil h_)) ?_
 refine vP 28 [29, 30, 31, 32, 33, 34, 35] rfl underlying55 rfl sizeOf3 ?_
 refine vA 29 [30, 31, 32, 33, 34, 35] rfl (fun _ _ h_ => R.ldC isAgg3 rfl rfl (b0 0 _ rfl) (TL.nil h_)) ?_
 refine vP 30 [31, 32, 33, 34, 35] rfl underlying55 rfl sizeOf3 ?_
 refine vA 31 [32, 33, 34, 35] rfl (fun _ _ h_ => R.ldH isAgg3 rfl rfl a3 rfl (TL.nil h_)) ?_
 refine vA 32 [33, 34, 35] rfl (fun _ _ h_ => R.lss rfl rfl rfl (TL.nil h_)) ?_
 refine vA 33 [34, 35] rfl (fun _ _ h_ => R.pkFE rfl rfl cA (TL.nil h_)) ?_
 refine vA 34 [35] rfl (fun _ _ h_ => R.pkTE rfl rfl cA (TL.nil h_)) ?_
 refine vA 35 [] rfl (fun _ _ h_ => aA (TL.nil h_)) ?_
 refine Plan.done (Post.thnN ?_)
 refine T.has Has.nil ?_
 refine T.ret ?_
 have hM : k_19 q0 a0 a1 = (decide (a2.1 < a1.1)) := by subst e33; rw [k_19, if_pos g8, if_t a4, if_pos a7, if_neg a9]
 exact fin1L (v := .bool (decide (a2.1 < a1.1))) [] rfl rfl (List.Sublist.refl _) ⟨rfl, by first | rw [hM] | rfl⟩
 refine vO 21 [22, 23, 24, 25, 26, 27, 28, 29, 30, 31, 32, 33, 34, 35] rfl rfl rfl rfl ?_
 refine vO 22 [23, 24, 25, 26, 27, 28, 29, 30, 31, 32, 33, 34, 35] rfl rfl rfl rfl ?_
 refine vO 23 [24, 25, 26, 27, 28, 29, 30, 31, 32, 33, 34, 35] rfl rfl rfl rfl ?_
 refine vA 24 [25, 26, 27, 28, 29, 30, 31, 32, 33, 34, 35] rfl (fun _ _ h_ => TL.offU rfl rfl (TL.nil h_)) ?_
 refine vA 25 [26, 27, 28, 29, 30, 31, 32, 33, 34, 35] rfl (fun _ _ h_ => TL.offU rfl rfl (TL.nil h_)) ?_
 refine vA 26 [27, 28, 29, 30, 31, 32, 33, 34, 35] rfl (fun _ _ h_ => TL.offU rfl rfl (TL.nil h_)) ?_
 refine vA 27 [28, 29, 30, 31, 32, 33, 34, 35] rfl (fun _ _ h_ => TL.offU rfl rfl (TL.nil h_)) ?_
 refine vA 28 [29, 30, 31, 32, 33, 34, 35] rfl (fun _ _ h_ => TL.offU rfl rfl (TL.nil h_)) ?_
 refine vA 29 [30, 31, 32, 33, 34, 35] rfl (fun _ _ h_ => TL.offU rfl rfl (TL.nil h_)) ?_
 refine vA 30 [31, 32, 33, 34, 35] rfl (fun _ _ h_ => TL.offU rfl rfl (TL.nil h_)) ?_
 refine vA 31 [32, 33, 34, 35] rfl (fun _ _ h_ => TL.offU rfl rfl (TL.nil h_)) ?_
 refine vA 32 [33, 34, 35] rfl (fun _ _ h_ => TL.offU rfl rfl (TL.nil h_)) ?_
 refine vO 33 [34, 35] rfl rfl rfl rfl ?_
 refine vA 34 [35] rfl (fun _ _ h_ => R.pkFE rfl rfl cA (TL.nil h_)) ?_
 refine vA 35 [] rfl (fun _ _ h_ => aA (TL.nil h_)) ?_
 refine Plan.done (Post.thnN ?_)
 refine T.has Has.nil ?_
 refine T.ret ?_
 have hM : k_19 q0 a0 a1 = false := by rw [k_19, if_pos g8, if_t a4, if_neg a7]
 rotate_left
 refine vO 15 [16, 17, 18, 19, 20, 21, 22, 23, 24, 25, 26, 27, 28, 29, 30, 31, 32, 33, 34, 35] rfl rfl rfl rfl ?_
 refine vO 16 [17, 18, 19, 20, 21, 22, 23, 24, 25, 26, 27, 28, 29, 30, 31, 32, 33, 34, 35] rfl rfl rfl rfl ?_
 refine vO 17 [18, 19, 20, 21, 22, 23, 24, 25, 26, 27, 28, 29, 30, 31, 32, 33, 34, 35] rfl rfl rfl rfl ?_
 refine vO 18 [19, 20, 21, 22, 23, 24, 25, 26, 27, 28, 29, 30, 31, 32, 33, 34, 35] rfl rfl rfl rfl ?_
 refine vA 19 [20, 21, 22, 23, 24, 25, 26, 27, 28, 29, 30, 31, 32, 33, 34, 35] rfl (fun _ _ h_ => R.pkFE rfl rfl cA (TL.nil h_)) ?_
 refine vM 20 [21, 22, 23, 24, 25, 26, 27, 28, 29, 30, 31, 32, 33, 34, 35] rfl rfl cA ?_
 refine vO 21 [22, 23, 24, 25, 26, 27, 28, 29, 30, 31, 32, 33, 34, 35] rfl rfl rfl rfl ?_
 refine vO 22 [23, 24, 25, 26, 27, 28, 29, 30, 31, 32, 33, 34, 35] rfl rfl rfl rfl ?_
 refine vO 23 [24, 25, 26, 27, 28, 29, 30, 31, 32, 33, 34, 35] rfl rfl rfl rfl ?_
 refine vA 24 [25, 26, 27, 28, 29, 30, 31, 32, 33, 34, 35] rfl (fun _ _ h_ => TL.offU rfl rfl (TL.nil h_)) ?_
 refine vA 25 [26, 27, 28, 29, 30, 31, 32, 33, 34, 35] rfl (fun _ _ h_ => TL.offU rfl rfl (TL.nil h_)) ?_
 refine vA 26 [27, 28, 29, 30, 31, 32, 33, 34, 35] rfl (fun _ _ h_ => TL.offU rfl rfl (TL.nil h_)) ?_
 refine vA 27 [28, 29, 30, 31, 32, 33, 34, 35] rfl (fun _ _ h_ => TL.offU rfl rfl (TL.nil h_)) ?_
 refine vA 28 [29, 30, 31, 32, 33, 34, 35] rfl (fun _ _ h_ => TL.offU rfl rfl (TL.nil h_)) ?_
 refine vA 29 [30, 31, 32, 33, 34, 35] rfl (fun _ _ h_ => TL.offU rfl rfl (TL.nil h_)) ?_
 refine vA 30 [31, 32, 33, 34, 35] rfl (fun _ _ h_ => TL.offU rfl rfl (TL.nil h_)) ?_
 refine vA 31 [32, 33, 34, 35] rfl (fun _ _ h_ => TL.offU rfl rfl (TL.nil h_)) ?_
 refine vA 32 [33, 34, 35] rfl (fun _ _ h_ => TL.offU rfl rfl (TL.nil h_)) ?_
 refine vO 33 [34, 35] rfl rfl rfl rfl ?_
 refine vA 34 [35] rfl (fun _ _ h_ => R.pkFE rfl rfl cA (TL.nil h_)) ?_
 refine vA 35 [] rfl (fun _ _ h_ => aA (TL.nil h_)) ?_
 refine Plan.done (Post.thnN ?_)
 refine T.has Has.nil ?_
 refine T.ret ?_
 have hM : k_19 q0 a0 a1 = false := by rw [k_19, if_pos g8, if_f a4]
 rotate_left
 refine vA 3 [4, 5, 6, 7, 8, 9, 10, 11, 12, 13, 14, 15, 16, 17, 18, 19, 20, 21, 22, 23, 24, 25, 26, 27, 28, 29, 30, 31, 32, 33, 34, 35] rfl (fun _ _ h_ => R.ldXH (cs := [.int .i64 (a1.1), .bool (a1.2.1), .bool (a1.2.2.1), .int .i64 (a1.2.2.2.1), .int .i64 (a1.2.2.2.2.1), .int .i64 (a1.2.2.2.2.2)]) (l := [.int .i64 (a1.1), .bool (a1.2.1), .bool (a1.2.2.1), .int .i64 (a1.2.2.2.1), .int .i64 (a1.2.2.2.2.1), .int .i64 (a1.2.2.2.2.2)]) isAgg55 sizeOf55 rfl rfl a3 rfl rfl (TL.nil h_)) ?_
 refine vM 4 [5, 6, 7, 8, 9, 10, 11, 12, 13, 14, 15, 16, 17, 18, 19, 20, 21, 22, 23, 24, 25, 26, 27, 28, 29, 30, 31, 32, 33, 34, 35] rfl rfl cA ?_
 refine vA 5 [6, 7, 8, 9, 10, 11, 12, 13, 14, 15, 16, 17, 18, 19, 20, 21, 22, 23, 24, 25, 26, 27, 28, 29, 30, 31, 32, 33, 34, 35] rfl (fun _ _ h_ => R.ixA underlying185 sizeOf55 rfl rfl rfl bA bA (TL.nil h_)) ?_
 obtain ⟨a8, b1⟩ : ∃ y, y = (([((1, (true, true, 0, 1, 2)) : ZL), ((2, (true, false, 0, 0, 2)) : ZL)] : List (ZL)).getD a0.toNat (((0, (false, false, 0, 0, 0)) : ZL) : ZL)) := ⟨_, rfl⟩
 refine vA 6 [7, 8, 9, 10, 11, 12, 13, 14, 15, 16, 17, 18, 19, 20, 21, 22, 23, 24, 25, 26, 27, 28, 29, 30, 31, 32, 33, 34, 35] rfl (fun _ _ h_ => R.ldXH (cs := [.int .i64 1, .bool true, .bool true, .int .i64 0, .int .i64 1, .int .i64 2, .int .i64 2, .bool true, .bool false, .int .i64 0, .int .i64 0, .int .i64 2]) (l := [.int .i64 (a8.1), .bool (a8.2.1), .bool (a8.2.2.1), .int .i64 (a8.2.2.2.1), .int .i64 (a8.2.2.2.2.1), .int .i64 (a8.2.2.2.2.2)]) isAgg55 sizeOf55 rfl rfl (a6 _ _ hG0) (by rw [b1]; rcases (show a0 = 0 ∨ a0 = 1 by omega) with h | h <;> rw [h] <;> rfl) rfl (TL.nil h_)) ?_
 refine vA 7 [8, 9, 10, 11, 12, 13, 14, 15, 16, 17, 18, 19, 20, 21, 22, 23, 24, 25, 26, 27, 28, 29, 30, 31, 32, 33, 34, 35] rfl (fun _ _ h_ => R.eqG (a := (a1 : ZL)) (b := (a8 : ZL)) (eqT55 9997 a1 a8) eqG55 rfl rfl rfl (TL.nil h_)) ?_
 refine vA 8 [9, 10, 11, 12, 13, 14, 15, 16, 17, 18, 19, 20, 21, 22, 23, 24, 25, 26, 27, 28, 29, 30, 31, 32, 33, 34, 35] rfl (fun _ _ h_ => R.pkFE rfl rfl cA (TL.nil h_)) ?_
 refine vM 9 [10, 11, 12, 13, 14, 15, 16, 17, 18, 19, 20, 21, 22, 23, 24, 25, 26, 27, 28, 29, 30, 31, 32, 33, 34, 35] rfl rfl cA ?_
 refine Plan.gsplitD 15 rfl (fun b2 => ?_) (fun b2 => ?_)
 refine vP 10 [11, 12, 13, 14, 15, 16, 17, 18, 19, 20, 21, 22, 23, 24, 25, 26, 27, 28, 29, 30, 31, 32, 33, 34, 35] rfl underlying55 rfl sizeOf3 ?_
 refine vA 11 [12, 13, 14, 15, 16, 17, 18, 19, 20, 21, 22, 23, 24, 25, 26, 27, 28, 29, 30, 31, 32, 33, 34, 35] rfl (fun _ _ h_ => R.ldH isAgg3 rfl rfl a3 rfl (TL.nil h_)) ?_
 refine vA 12 [13, 14, 15, 16, 17, 18, 19, 20, 21, 22, 23, 24, 25, 26, 27, 28, 29, 30, 31, 32, 33, 34, 35] rfl (fun _ _ h_ => R.callv rfl rfl rfl (trait_index_c _ (a1.1)) (TL.nil h_)) ?_
 refine vA 13 [14, 15, 16, 17, 18, 19, 20, 21, 22, 23, 24, 25, 26, 27, 28, 29, 30, 31, 32, 33, 34, 35] rfl (fun _ _ h_ => R.pkTE rfl rfl cA (TL.nil h_)) ?_
 refine vM 14 [15, 16, 17, 18, 19, 20, 21, 22, 23, 24, 25, 26, 27, 28, 29, 30, 31, 32, 33, 34, 35] rfl rfl cA ?_
 refine Plan.gsplit 20 rfl (fun a4 => ?_) (fun a4 => ?_)
 refine vP 15 [16, 17, 18, 19, 20, 21, 22, 23, 24, 25, 26, 27, 28, 29, 30, 31, 32, 33, 34, 35] rfl underlying55 rfl sizeOf51 ?_
 refine vA 16 [17, 18, 19, 20, 21, 22, 23, 24, 25, 26, 27, 28, 29, 30, 31, 32, 33, 34, 35] rfl (fun _ _ h_ => R.ldXH (cs := [.int .i64 (a1.1), .bool (a1.2.1), .bool (a1.2.2.1), .int .i64 (a1.2.2.2.1), .int .i64 (a1.2.2.2.2.1), .int .i64 (a1.2.2.2.2.2)]) (l := [.bool (a1.2.1), .bool (a1.2.2.1), .int .i64 (a1.2.2.2.1), .int .i64 (a1.2.2.2.2.1), .int .i64 (a1.2.2.2.2.2)]) isAgg51 sizeOf51 rfl rfl a3 rfl rfl (TL.nil h_)) ?_
 refine vA 17 [18, 19, 20, 21, 22, 23, 24, 25, 26, 27, 28, 29, 30, 31, 32, 33, 34, 35] rfl (fun _ _ h_ => R.callv rfl rfl rfl (trait_May_c _ a1.2) (TL.nil h_)) ?_
 refine vA 18 [19, 20, 21, 22, 23, 24, 25, 26, 27, 28, 29, 30, 31, 32, 33, 34, 35] rfl (fun _ _ h_ => R.eql rfl rfl rfl (TL.nil h_)) ?_
 refine vA 19 [20, 21, 22, 23, 24, 25, 26, 27, 28, 29, 30, 31, 32, 33, 34, 35] rfl (fun _ _ h_ => R.pkTE rfl rfl cA (TL.nil h_)) ?_
 refine vM 20 [21, 22, 23, 24, 25, 26, 27, 28, 29, 30, 31, 32, 33, 34, 35] rfl rfl cA ?_
 refine Plan.gsplitD 26 rfl (fun a7 => ?_) (fun a7 => ?_)
 refine vM 21 [22, 23, 24, 25, 26, 27, 28, 29, 30, 31, 32, 33, 34, 35] rfl rfl cA ?_
 refine vA 22 [23, 24, 25, 26, 27, 28, 29, 30, 31, 32, 33, 34, 35] rfl (fun _ _ h_ => R.eql rfl rfl rfl (TL.nil h_)) ?_
 refine vM 23 [24, 25, 26, 27, 28, 29, 30, 31, 32, 33, 34, 35] rfl rfl cA ?_
 refine Plan.gsplitD 29 rfl (fun a9 => ?_) (fun a9 => ?_)
 refine vO 24 [25, 26, 27, 28, 29, 30, 31, 32, 33, 34, 35] rfl rfl rfl rfl ?_
 refine vO 25 [26, 27, 28, 29, 30, 31, 32, 33, 34, 35] rfl rfl rfl rfl ?_
 refine vO 26 [27, 28, 29, 30, 31, 32, 33, 34, 35] rfl rfl rfl rfl ?_
 refine vO 27 [28, 29, 30, 31, 32, 33, 34, 35] rfl rfl rfl rfl ?_
 refine vO 28 [29, 30, 31, 32, 33, 34, 35] rfl rfl rfl rfl ?_
 refine vO 29 [30, 31, 32, 33, 34, 35] rfl rfl rfl rfl ?_
 refine vO 30 [31, 32, 33, 34, 35] rfl rfl rfl rfl ?_
 refine vO 31 [32, 33, 34, 35] rfl rfl rfl rfl ?_
 refine vO 32 [33, 34, 35] rfl rfl rfl rfl ?_
 refine vA 33 [34, 35] rfl (fun _ _ h_ => R.pkTE rfl rfl cA (TL.nil h_)) ?_
 refine vA 34 [35] rfl (fun _ _ h_ => R.pkTE rfl rfl cA (TL.nil h_)) ?_
 refine vA 35 [] rfl (fun _ _ h_ => aA (TL.nil h_)) ?_
 refine Plan.done (Post.thnN ?_)
 refine T.has Has.nil ?_
 refine T.ret ?_
 have hM : k_19 q0 a0 a1 = true := by subst b1; rw [k_19, if_neg g8, if_pos b2, if_t a4, if_pos a7, if_pos a9]
 exact fin1L (v := .bool true) [] rfl rfl (List.Sublist.refl _) ⟨rfl, by first | rw [hM] | rfl⟩
 refine vA 24 [25, 26, 27, 28, 29, 30, 31, 32, 33, 34, 35] rfl (fun _ _ h_ => R.ldH isAgg28 rfl rfl (a6 _ _ hb0) rfl (TL.nil h_)) ?_
 refine vM 25 [26, 27, 28, 29, 30, 31, 32, 33, 34, 35] rfl rfl cA ?_
 refine vA 26 [27, 28, 29, 30, 31, 32, 33, 34, 35] rfl (fun _ _ h_ => R.subI rfl rfl rfl oA (TL.nil h_)) ?_
 have a5 : ((a0 - 1)).toNat < q0.length := bA
 obtain ⟨a2, e33, h33⟩ : ∃ y, y = (q0.getD (((a0 - 1)).toNat) (((0, (false, false, 0, 0, 0)) : ZL) : ZL)) ∧ q0[((a0 - 1)).toNat]? = some y := ⟨_, rfl, k_46 (by first | exact a5 | simpa using a5 | (simp only [List.length_set]; omega) | omega | (rw [(k_26 _).length_eq]; exact a5))⟩
 obtain ⟨b33, o33, i33, b0⟩ := RdS.elem (b5.mono a6) h33
 obtain ⟨l33, g33, b0⟩ := b0
 obtain rfl : l33 = [.int .i64 (a2.1), .bool (a2.2.1), .bool (a2.2.2.1), .int .i64 (a2.2.2.2.1), .int .i64 (a2.2.2.2.2.1), .int .i64 (a2.2.2.2.2.2)] := g33
 refine vA 27 [28, 29, 30, 31, 32, 33, 34, 35] rfl (fun _ _ h_ => R.ixp underlying28 sizeOf55 rfl rfl rfl bA i33 (TL.nil h_)) ?_
 refine vP 28 [29, 30, 31, 32, 33, 34, 35] rfl underlying55 rfl sizeOf3 ?_
 refine vA 29 [30, 31, 32, 33, 34, 35] rfl (fun _ _ h_ => R.ldC isAgg3 rfl rfl (b0 0 _ rfl) (TL.nil h_)) ?_
 refine vP 30 [31, 32, 33, 34, 35] rfl underlying55 rfl sizeOf3 ?_
 refine vA 31 [32, 33, 34, 35] rfl (fun _ _ h_ => R.ldH isAgg3 rfl rfl a3 rfl (TL.nil h_)) ?_
 refine vA 32 [33, 34, 35] rfl (fun _ _ h_ => R.lss rfl rfl rfl (TL.nil h_)) ?_
 refine vA 33 [34, 35] rfl (fun _ _ h_ => R.pkFE rfl rfl cA (TL.nil h_)) ?_
 refine vA 34 [35] rfl (fun _ _ h_ => R.pkTE rfl rfl cA (TL.nil h_)) ?_
 refine vA 35 [] rfl (fun _ _ h_ => aA (TL.nil h_)) ?_
 refine Plan.done (Post.thnN ?_)
 refine T.has Has.nil ?_
 refine T.ret ?_
 have hM : k_19 q0 a0 a1 = (decide (a2.1 < a1.1)) := by subst e33; subst b1; rw [k_19, if_neg g8, if_pos b2, if_t a4, if_pos a7, if_neg a9]
 exact fin1L (v := .bool (decide (a2.1 < a1.1))) [] rfl rfl (List.Sublist.refl _) ⟨rfl, by first | rw [hM] | rfl⟩
 refine vO 21 [22, 23, 24, 25, 26, 27, 28, 29, 30, 31, 32, 33, 34, 35] rfl rfl rfl rfl ?_
 refine vO 22 [23, 24, 25, 26, 27, 28, 29, 30, 31, 32, 33, 34, 35] rfl rfl rfl rfl ?_
 refine vO 23 [24, 25, 26, 27, 28, 29, 30, 31, 32, 33, 34, 35] rfl rfl rfl rfl ?_
 refine vA 24 [25, 26, 27, 28, 29, 30, 31, 32, 33, 34, 35] rfl (fun _ _ h_ => TL.offU rfl rfl (TL.nil h_)) ?_
 refine vA 25 [26, 27, 28, 29, 30, 31, 32, 33, 34, 35] rfl (fun _ _ h_ => TL.offU rfl rfl (TL.nil h_)) ?_
 refine vA 26 [27, 28, 29, 30, 31, 32, 33, 34, 35] rfl (fun _ _ h_ => TL.offU rfl rfl (TL.nil h_)) ?_
 refine vA 27 [28, 29, 30, 31, 32, 33, 34, 35] rfl (fun _ _ h_ => TL.offU rfl rfl (TL.nil h_)) ?_
 refine vA 28 [29, 30, 31, 32, 33, 34, 35] rfl (fun _ _ h_ => TL.offU rfl rfl (TL.nil h_)) ?_
 refine vA 29 [30, 31, 32, 33, 34, 35] rfl (fun _ _ h_ => TL.offU rfl rfl (TL.nil h_)) ?_
 refine vA 30 [31, 32, 33, 34, 35] rfl (fun _ _ h_ => TL.offU rfl rfl (TL.nil h_)) ?_
 refine vA 31 [32, 33, 34, 35] rfl (fun _ _ h_ => TL.offU rfl rfl (TL.nil h_)) ?_
 refine vA 32 [33, 34, 35] rfl (fun _ _ h_ => TL.offU rfl rfl (TL.nil h_)) ?_
 refine vO 33 [34, 35] rfl rfl rfl rfl ?_
 refine vA 34 [35] rfl (fun _ _ h_ => R.pkFE rfl rfl cA (TL.nil h_)) ?_
 refine vA 35 [] rfl (fun _ _ h_ => aA (TL.nil h_)) ?_
 refine Plan.done (Post.thnN ?_)
 refine T.has Has.nil ?_
 refine T.ret ?_
 have hM : k_19 q0 a0 a1 = false := by subst b1; rw [k_19, if_neg g8, if_pos b2, if_t a4, if_neg a7]
 rotate_left
 refine vO 15 [16, 17, 18, 19, 20, 21, 22, 23, 24, 25, 26, 27, 28, 29, 30, 31, 32, 33, 34, 35] rfl rfl rfl rfl ?_
 refine vO 16 [17, 18, 19, 20, 21, 22, 23, 24, 25, 26, 27, 28, 29, 30, 31, 32, 33, 34, 35] rfl rfl rfl rfl ?_
 refine vO 17 [18, 19, 20, 21, 22, 23, 24, 25, 26, 27, 28, 29, 30, 31, 32, 33, 34, 35] rfl rfl rfl rfl ?_
 refine vO 18 [19, 20, 21, 22, 23, 24, 25, 26, 27, 28, 29, 30, 31, 32, 33, 34, 35] rfl rfl rfl rfl ?_
 refine vA 19 [20, 21, 22, 23, 24, 25, 26, 27, 28, 29, 30, 31, 32, 33, 34, 35] rfl (fun _ _ h_ => R.pkFE rfl rfl cA (TL.nil h_)) ?_
 refine vM 20 [21, 22, 23, 24, 25, 26, 27, 28, 29, 30, 31, 32, 33, 34, 35] rfl rfl cA ?_
 refine vO 21 [22, 23, 24, 25, 26, 27, 28, 29, 30, 31, 32, 33, 34, 35] rfl rfl rfl rfl ?_
 refine vO 22 [23, 24, 25, 26, 27, 28, 29, 30, 31, 32, 33, 34, 35] rfl rfl rfl rfl ?_
 refine vO 23 [24, 25, 26, 27, 28, 29, 30, 31, 32, 33, 34, 35] rfl rfl rfl rfl ?_
 refine vA 24 [25, 26, 27, 28, 29, 30, 31, 32, 33, 34, 35] rfl (fun _ _ h_ => TL.offU rfl rfl (TL.nil h_)) ?_
 refine vA 25 [26, 27, 28, 29, 30, 31, 32, 33, 34, 35] rfl (fun _ _ h_ => TL.offU rfl rfl (TL.nil h_)) ?_
 refine vA 26 [27, 28, 29, 30, 31, 32, 33, 34, 35] rfl (fun _ _ h_ => TL.offU rfl rfl (TL.nil h_)) ?_
 refine vA 27 [28, 29, 30, 31, 32, 33, 34, 35] rfl (fun _ _ h_ => TL.offU rfl rfl (TL.nil h_)) ?_
 refine vA 28 [29, 30, 31, 32, 33, 34, 35] rfl (fun _ _ h_ => TL.offU rfl rfl (TL.nil h_)) ?_
 refine vA 29 [30, 31, 32, 33, 34, 35] rfl (fun _ _ h_ => TL.offU rfl rfl (TL.nil h_)) ?_
 refine vA 30 [31, 32, 33, 34, 35] rfl (fun _ _ h_ => TL.offU rfl rfl (TL.nil h_)) ?_
 refine vA 31 [32, 33, 34, 35] rfl (fun _ _ h_ => TL.offU rfl rfl (TL.nil h_)) ?_
 refine vA 32 [33, 34, 35] rfl (fun _ _ h_ => TL.offU rfl rfl (TL.nil h_)) ?_
 refine vO 33 [34, 35] rfl rfl rfl rfl ?_
 refine vA 34 [35] rfl (fun _ _ h_ => R.pkFE rfl rfl cA (TL.nil h_)) ?_
 refine vA 35 [] rfl (fun _ _ h_ => aA (TL.nil h_)) ?_
 refine Plan.done (Post.thnN ?_)
 refine T.has Has.nil ?_
 refine T.ret ?_
 have hM : k_19 q0 a0 a1 = false := by subst b1; rw [k_19, if_neg g8, if_pos b2, if_f a4]
 rotate_left
 refine vO 10 [11, 12, 13, 14, 15, 16, 17, 18, 19, 20, 21, 22, 23, 24, 25, 26, 27, 28, 29, 30, 31, 32, 33, 34, 35] rfl rfl rfl rfl ?_
 refine vO 11 [12, 13, 14, 15, 16, 17, 18, 19, 20, 21, 22, 23, 24, 25, 26, 27, 28, 29, 30, 31, 32, 33, 34, 35] rfl rfl rfl rfl ?_
 refine vO 12 [13, 14, 15, 16, 17, 18, 19, 20, 21, 22, 23, 24, 25, 26, 27, 28, 29, 30, 31, 32, 33, 34, 35] rfl rfl rfl rfl ?_
 refine vA 13 [14, 15, 16, 17, 18, 19, 20, 21, 22, 23, 24, 25, 26, 27, 28, 29, 30, 31, 32, 33, 34, 35] rfl (fun _ _ h_ => R.pkFE rfl rfl cA (TL.nil h_)) ?_
 refine vM 14 [15, 16, 17, 18, 19, 20, 21, 22, 23, 24, 25, 26, 27, 28, 29, 30, 31, 32, 33, 34, 35] rfl rfl cA ?_
 refine vO 15 [16, 17, 18, 19, 20, 21, 22, 23, 24, 25, 26, 27, 28, 29, 30, 31, 32, 33, 34, 35] rfl rfl rfl rfl ?_
 refine vO 16 [17, 18, 19, 20, 21, 22, 23, 24, 25, 26, 27, 28, 29, 30, 31, 32, 33, 34, 35] rfl rfl rfl rfl ?_
 refine vO 17 [18, 19, 20, 21, 22, 23, 24, 25, 26, 27, 28, 29, 30, 31, 32, 33, 34, 35] rfl rfl rfl rfl ?_
 refine vO 18 [19, 20, 21, 22, 23, 24, 25, 26, 27, 28, 29, 30, 31, 32, 33, 34, 35] rfl rfl rfl rfl ?_
 refine vA 19 [20, 21, 22, 23, 24, 25, 26, 27, 28, 29, 30, 31, 32, 33, 34, 35] rfl (fun _ _ h_ => R.pkFE rfl rfl cA (TL.nil h_)) ?_
 refine vM 20 [21, 22, 23, 24, 25, 26, 27, 28, 29, 30, 31, 32, 33, 34, 35] rfl rfl cA ?_
 refine vO 21 [22, 23, 24, 25, 26, 27, 28, 29, 30, 31, 32, 33, 34, 35] rfl rfl rfl rfl ?_
 refine vO 22 [23, 24, 25, 26, 27, 28, 29, 30, 31, 32, 33, 34, 35] rfl rfl rfl rfl ?_
 refine vO 23 [24, 25, 26, 27, 28, 29, 30, 31, 32, 33, 34, 35] rfl rfl rfl rfl ?_
 refine vA 24 [25, 26, 27, 28, 29, 30, 31, 32, 33, 34, 35] rfl (fun _ _ h_ => TL.offU rfl rfl (TL.nil h_)) ?_
 refine vA 25 [26, 27, 28, 29, 30, 31, 32, 33, 34, 35] rfl (fun _ _ h_ => TL.offU rfl rfl (TL.nil h_)) ?_
 refine vA 26 [27, 28, 29, 30, 31, 32, 33, 34, 35] rfl (fun _ _ h_ => TL.offU rfl rfl (TL.nil h_)) ?_
 refine vA 27 [28, 29, 30, 31, 32, 33, 34, 35] rfl (fun _ _ h_ => TL.offU rfl rfl (TL.nil h_)) ?_
 refine vA 28 [29, 30, 31, 32, 33, 34, 35] rfl (fun _ _ h_ => TL.offU rfl rfl (TL.nil h_)) ?_
 refine vA 29 [30, 31, 32, 33, 34, 35] rfl (fun _ _ h_ => TL.offU rfl rfl (TL.nil h_)) ?_
 refine vA 30 [31, 32, 33, 34, 35] rfl (fun _ _ h_ => TL.offU rfl rfl (TL.nil h_)) ?_
 refine vA 31 [32, 33, 34, 35] rfl (fun _ _ h_ => TL.offU rfl rfl (TL.nil h_)) ?_
 refine vA 32 [33, 34, 35] rfl (fun _ _ h_ => TL.offU rfl rfl (TL.nil h_)) ?_
 refine vO 33 [34, 35] rfl rfl rfl rfl ?_
 refine vA 34 [35] rfl (fun _ _ h_ => R.pkFE rfl rfl cA (TL.nil h_)) ?_
 refine vA 35 [] rfl (fun _ _ h_ => aA (TL.nil h_)) ?_
 refine Plan.done (Post.thnN ?_)
 refine T.has Has.nil ?_
 refine T.ret ?_
 have hM : k_19 q0 a0 a1 = false := by subst b1; rw [k_19, if_neg g8, if_neg b2]
 rotate_left
 all_goals (
  exact fin1L (v := .bool false) [] rfl rfl (List.Sublist.refl _) ⟨rfl, by first | rw [hM] | rfl⟩)
def k_35 (a0 : List (ZL)) : Int :=
  LR.seq (if (2 : Int) ≤ (a0.length : Int) then (if (a0.length : Int) ≤ 200 then ((k_39 a0 ((fun z0 z1 => k_19 a0 z0 z1)))) else false) else false : Bool) (fun sc1 => if (!sc1) = true then 230 else 0)
theorem trait_Check_c (H : Heap) {tG0 : TypeId} (hG0 : gF H 0 tG0) (va0 : Value) (a0 : List (ZL)) (a5 : RdS relationE H va0 a0) : Fv Tryz.prog (fnv 60) [va0] H (.int .i64 (k_35 a0)) := by
 refine Fc.of_body (N := 19) func60 rfl kA rfl rfl ?_
 intro w0
 obtain ⟨Aa0, ca0, rfl, hca0, hda0, a5⟩ := a5.shape
 refine sR (R.box rfl cA ?_)
 intro b1
 refine aA ?_
 refine TL.shut .hd ?_
 intro a7 a2 a8
 have a1 : a7 b1 = some (.cells #[.slice Aa0 a0.length ca0] 28) := shut1 a8
 refine nN (T.seq (T.cutK (ι := Bool) (fun a3 H' L' ds' => Has L' [] ∧ (if (2 : Int) ≤ (a0.length : Int) then (if (a0.length : Int) ≤ 200 then ((k_39 a0 ((fun z0 z1 => k_19 a0 z0 z1)))) else false) else false : Bool) = a3) (fun a3 => [(3, .bool (a3))]) ?_ ?_))
 refine T.region (R.ldH isAgg28 rfl rfl a1 rfl ?_)
 refine R.len underlying28 rfl rfl ?_
 refine R.geq rfl rfl rfl ?_
 refine mA ?_
 refine TL.gsplitD 7 rfl (fun g7 => ?_) (fun g7 => ?_)
 refine R.ldH isAgg28 rfl rfl a1 rfl ?_
 refine R.len underlying28 rfl rfl ?_
 refine R.leq rfl rfl rfl ?_
 refine R.pkTE rfl rfl cA ?_
 refine mA ?_
 refine TL.gsplitD 12 rfl (fun g12 => ?_) (fun g12 => ?_)
 refine R.ldH isAgg28 rfl rfl a1 rfl ?_
 refine R.mkf (cs := [_]) rfl rfl ?_
 refine R.callv rfl rfl rfl (trait_all_Relation_c _ _ a0 (a5.mono a2) _ (fun z0 z1 => k_19 a0 z0 z1) (fun H2 h2 z0 z1 hpre => trait_Check_1_c H2 (h2 _ _ (a2 _ _ hG0)) b1 _ a0 ((a5.mono a2).mono h2) (h2 _ _ a1) z0 z1 (by obtain ⟨k_, rfl, hk_⟩ := hpre; have := (List.getElem?_eq_some_iff.1 hk_).1; omega) (by obtain ⟨k_, rfl, hk_⟩ := hpre; have := (List.getElem?_eq_some_iff.1 hk_).1; omega)) rfl) ?_
 refine R.pkTE rfl rfl cA ?_
 refine aA ?_
 refine nN ?_
 exact ⟨(k_39 a0 ((fun z0 z1 => k_19 a0 z0 z1))), HLe.refl _, ⟨Has.nil, (by rw [if_pos g7, if_pos g12])⟩, rfl, trivial⟩
 refine oF ?_
 refine oF ?_
 refine oF ?_
 refine R.pkFE rfl rfl cA ?_
 refine aA ?_
 refine nN ?_
 exact ⟨false, HLe.refl _, ⟨Has.nil, (by rw [if_pos g7, if_neg g12])⟩, rfl, trivial⟩
 refine oF ?_
 refine oF ?_
 refine oF ?_
 refine R.pkFE rfl rfl cA ?_
 refine mA ?_
 refine oF ?_
 refine oF ?_
 refine oF ?_
 refine R.pkFE rfl rfl cA ?_
 refine aA ?_
 refine nN ?_
 exact ⟨false, HLe.refl _, ⟨Has.nil, (by rw [if_neg g7])⟩, rfl, trivial⟩
 intro a3 σ_c1 H_c1 L_c1 ds_c1 s_c1 a9
 obtain ⟨hLc1, a6⟩ := a9
 refine T.has hLc1 ?_
 refine T.seq (sR (mA ?_))
 refine R.not rfl rfl ?_
 refine nN (T.cond rfl (fun a4 => ?_) (fun a4 => ?_))
 refine T.set 18 (.bool true) (congrArg Value.bool a4) ?_
 refine sR (aA ?_)
 refine nN (T.has Has.nil ?_)
 refine T.ret (Post.thnR ?_)
 have hM : k_35 a0 = 230 := by rw [k_35, a6, LR.seq_go, if_t a4]
 exact fin1L (v := .int .i64 230) [] rfl rfl (List.Sublist.refl _) ⟨rfl, by first | rw [hM] | rfl⟩
 refine T.set 18 (.bool false) (congrArg Value.bool a4) ?_
 refine T.skip (Post.thnN (sR ?_))
 refine aA ?_
 refine nN (T.has Has.nil ?_)
 refine T.ret ?_
 have hM : k_35 a0 = 0 := by rw [k_35, a6, LR.seq_go, if_f a4]
 exact fin1L (v := .int .i64 0) [] rfl rfl (List.Sublist.refl _) ⟨rfl, by first | rw [hM] | rfl⟩
def k_9 (a0 : List (ZL)) (a1 : Int) (a2 : (ZL) → Int → Int) : Nat → (Int × Int) → Int × Int
  | 0, _ => default
  | ml1 + 1, sl1 => if sl1.1 < sl1.2 then (if ((a2 (a0.getD (((IntKind.i64.wrap (bshr .u64 (IntKind.u64.wrap (sl1.1 + sl1.2)) 1))).toNat) (((0, (false, false, 0, 0, 0)) : ZL) : ZL)) a1) : Int) < 0 then (k_9 a0 a1 a2 ml1 ((((IntKind.i64.wrap (bshr .u64 (IntKind.u64.wrap (sl1.1 + sl1.2)) 1)) + 1), sl1.2))) else (k_9 a0 a1 a2 ml1 ((sl1.1, (IntKind.i64.wrap (bshr .u64 (IntKind.u64.wrap (sl1.1 + sl1.2)) 1)))))) else ((sl1.1, sl1.2))
def k_11 (a0 : List (ZL)) (a1 : Int) (a2 : (ZL) → Int → Int) : Int × Bool :=
  LR.seq (k_9 a0 a1 a2 ((((a0.length : Int)) - 0).toNat + 1) ((0, (a0.length : Int)))) (fun ol1 => if ol1.1 < (a0.length : Int) then ((ol1.1, (decide (((a2 (a0.getD ol1.1.toNat (((0, (false, false, 0, 0, 0)) : ZL) : ZL)) a1) : Int) = 0)))) else ((ol1.1, false)))
theorem k_ae (H : Heap) (va0 : Value) (a0 : List (ZL)) (b6 : RdS relationE H va0 a0) (a1 : Int) (b7 : Value) (a2 : (ZL) → Int → Int) (ha2 : ∀ H', HLe H H' → ∀ (z0 : ZL) (z1 : Int), Fv Tryz.prog b7 [.agg #[.int .i64 z0.1, .bool z0.2.1, .bool z0.2.2.1, .int .i64 z0.2.2.2.1, .int .i64 z0.2.2.2.2.1, .int .i64 z0.2.2.2.2.2], .int .i64 z1] H' (.int .i64 (a2 z0 z1))) (na2 : b7.oneCell' = true) (hl : a0.length ≤ 2000000) : Fv Tryz.prog (fnv 135) [va0, .int .i64 a1, b7] H (.tuple #[.int .i64 (k_11 a0 a1 a2).1, .bool (k_11 a0 a1 a2).2]) := by
 refine Fc.of_body (N := 49) func135 rfl kA rfl rfl ?_
 intro w0
 obtain ⟨Aa0, ca0, rfl, hca0, hda0, b6⟩ := b6.shape
 refine sR (aA ?_)
 refine aA ?_
 refine nN (sR (mA ?_))
 refine R.len underlying28 rfl rfl ?_
 refine aA ?_
 refine nN (sR (mA ?_))
 refine aA ?_
 refine aA ?_
 refine nN (T.seq (T.block (T.loop (ι := Nat × Int × Int) (fun ⟨a8, a3, a4⟩ H' L' ds' => (a4 - a3).toNat < a8 ∧ Has L' [] ∧ 0 ≤ a3 ∧ a3 ≤ a4 ∧ a4 ≤ (a0.length : Int) ∧ k_9 a0 a1 a2 a8 ((a3, a4)) = k_9 a0 a1 a2 ((((a0.length : Int)) - 0).toNat + 1) ((0, (a0.length : Int)))) (fun ⟨a8, a3, a4⟩ => [(0, .slice Aa0 a0.length ca0), (1, .int .i64 a1), (2, b7), (8, .int .i64 (a0.length : Int)), (9, .int .i64 a3), (10, .int .i64 a4)]) (fun ⟨a8, a3, a4⟩ => a8) (((((a0.length : Int)) - 0).toNat + 1), 0, (a0.length : Int)) ?_ ?_ ?_)))
 exact ⟨oA, Has.nil, bA, bA, bA, (by rfl)⟩
 exact ⟨rfl, rfl, rfl, rfl, rfl, rfl, trivial⟩
 intro ⟨a8, a3, a4⟩ σ_l1 H_l1 L_l1 ds_l1 a7 b1
 obtain ⟨hkl1, b1⟩ := b1
 obtain ⟨a9, rfl⟩ : ∃ m, a8 = m + 1 := ⟨a8 - 1, by omega⟩
 obtain ⟨hLl1, hBl1_0, hBl1_1, hBl1_2, b3⟩ := b1
 refine T.has hLl1 ?_
 refine T.seq (sR (mA ?_))
 refine mA ?_
 refine R.lss rfl rfl rfl ?_
 refine nN (T.condD rfl (fun b0 => ?_) (fun b0 => ?_))
 refine T.set 17 (.bool true) (congrArg Value.bool (decide_eq_true b0)) ?_
 refine T.skip (Post.thnN (T.block ?_))
 refine sR (mA ?_)
 refine mA ?_
 refine R.addI rfl rfl rfl oA ?_
 refine R.conv underlying3 underlying161 rfl rfl ?_
 refine R.shr rfl rfl rfl oA ?_
 refine R.conv underlying161 underlying3 rfl rfl ?_
 refine aA ?_
 refine nN (T.seq ?_)
 have hmid := midI (i := a3) (j := a4) oA oA oA
 refine T.region (mA ?_)
 refine mA ?_
 refine mA ?_
 have b4 : ((IntKind.i64.wrap (bshr .u64 (IntKind.u64.wrap (a3 + a4)) 1))).toNat < a0.length := bA
 obtain ⟨a6, e27, h27⟩ : ∃ y, y = (a0.getD (((IntKind.i64.wrap (bshr .u64 (IntKind.u64.wrap (a3 + a4)) 1))).toNat) (((0, (false, false, 0, 0, 0)) : ZL) : ZL)) ∧ a0[((IntKind.i64.wrap (bshr .u64 (IntKind.u64.wrap (a3 + a4)) 1))).toNat]? = some y := ⟨_, rfl, k_46 (by first | exact b4 | simpa using b4 | (simp only [List.length_set]; omega) | omega | (rw [(k_26 _).length_eq]; exact b4))⟩
 obtain ⟨b27, o27, i27, k27⟩ := RdS.elem (b6.mono a7) h27
 obtain ⟨l27, g27, k27⟩ := k27
 obtain rfl : l27 = [.int .i64 (a6.1), .bool (a6.2.1), .bool (a6.2.2.1), .int .i64 (a6.2.2.2.1), .int .i64 (a6.2.2.2.2.1), .int .i64 (a6.2.2.2.2.2)] := g27
 refine R.ixp underlying28 sizeOf55 rfl rfl rfl bA i27 ?_
 refine R.ldK (l := [.int .i64 (a6.1), .bool (a6.2.1), .bool (a6.2.2.1), .int .i64 (a6.2.2.2.1), .int .i64 (a6.2.2.2.2.1), .int .i64 (a6.2.2.2.2.2)]) isAgg55 sizeOf55 rfl rfl k27 rfl ?_
 refine mA ?_
 refine R.callv rfl rfl rfl (ha2 _ a7 a6 (a1)) ?_
 refine R.lss rfl rfl rfl ?_
 refine nN (T.condD rfl (fun b2 => ?_) (fun b2 => ?_))
 refine T.set 31 (.bool true) (congrArg Value.bool (decide_eq_true b2)) ?_
 refine T.region (mA ?_)
 refine R.addI rfl rfl rfl oA ?_
 refine aA ?_
 refine TL.nil (Post.blkN ?_)
 refine id (Post.thnN ?_)
 exact ⟨(a9, ((IntKind.i64.wrap (bshr .u64 (IntKind.u64.wrap (a3 + a4)) 1)) + 1), a4), a7, ⟨(by first | omega | (simp; omega) | (simp at *; omega)), Has.nil, bA, bA, bA, (by subst e27; rw [← b3, k_9]; rw [if_pos b0, if_pos b2])⟩, by show a9 < a9 + 1; omega, rfl, rfl, rfl, rfl, rfl, rfl, trivial⟩
 refine T.set 31 (.bool false) (congrArg Value.bool (decide_eq_false b2)) ?_
 refine T.region (mA ?_)
 refine aA ?_
 refine TL.nil (Post.blkN ?_)
 refine id (Post.thnN ?_)
 exact ⟨(a9, a3, (IntKind.i64.wrap (bshr .u64 (IntKind.u64.wrap (a3 + a4)) 1))), a7, ⟨(by first | omega | (simp; omega) | (simp at *; omega)), Has.nil, bA, bA, bA, (by subst e27; rw [← b3, k_9]; rw [if_pos b0, if_neg b2])⟩, by show a9 < a9 + 1; omega, rfl, rfl, rfl, rfl, rfl, rfl, trivial⟩
 refine T.set 17 (.bool false) (congrArg Value.bool (decide_eq_false b0)) ?_
 refine T.exit (Post.thnE (Post.thnE (Post.blkX ?_)))
 have b8 : k_9 a0 a1 a2 ((((a0.length : Int)) - 0).toNat + 1) ((0, (a0.length : Int))) = (a3, a4) := (by rw [← b3, k_9]; rw [if_neg b0])
 refine id (Post.thnN (sR ?_))
 refine mA ?_
 refine mA ?_
 refine mA ?_
 refine R.lss rfl rfl rfl ?_
 refine mA ?_
 refine TL.gsplitD 39 rfl (fun g39 => ?_) (fun g39 => ?_)
 refine mA ?_
 refine mA ?_
 refine mA ?_
 have b5 : a3.toNat < a0.length := bA
 obtain ⟨a5, e43, h43⟩ : ∃ y, y = (a0.getD a3.toNat (((0, (false, false, 0, 0, 0)) : ZL) : ZL)) ∧ a0[a3.toNat]? = some y := ⟨_, rfl, k_46 (by first | exact b5 | simpa using b5 | (simp only [List.length_set]; omega) | omega | (rw [(k_26 _).length_eq]; exact b5))⟩
 obtain ⟨b43, o43, i43, k43⟩ := RdS.elem (b6.mono a7) h43
 obtain ⟨l43, g43, k43⟩ := k43
 obtain rfl : l43 = [.int .i64 (a5.1), .bool (a5.2.1), .bool (a5.2.2.1), .int .i64 (a5.2.2.2.1), .int .i64 (a5.2.2.2.2.1), .int .i64 (a5.2.2.2.2.2)] := g43
 refine R.ixp underlying28 sizeOf55 rfl rfl rfl bA i43 ?_
 refine R.ldK (l := [.int .i64 (a5.1), .bool (a5.2.1), .bool (a5.2.2.1), .int .i64 (a5.2.2.2.1), .int .i64 (a5.2.2.2.2.1), .int .i64 (a5.2.2.2.2.2)]) isAgg55 sizeOf55 rfl rfl k43 rfl ?_
 refine mA ?_
 refine R.callv rfl rfl rfl (ha2 _ a7 a5 (a1)) ?_
 refine R.eql rfl rfl rfl ?_
 refine R.pkTE rfl rfl cA ?_
 refine aA ?_
 refine aA ?_
 refine nN (T.has Has.nil ?_)
 refine T.ret ?_
 have hM : k_11 a0 a1 a2 = (a3, (decide (((a2 a5 a1) : Int) = 0))) := by subst e43; rw [k_11, b8, LR.seq_go, if_pos g39]
 exact fin2L (v := .int .i64 a3) (v' := .bool (decide (((a2 a5 a1) : Int) = 0))) [] rfl rfl rfl (List.Sublist.refl _) ⟨rfl, by first | rw [hM] | rfl⟩
 refine oF ?_
 refine oF ?_
 refine oF ?_
 refine oF ?_
 refine oF ?_
 refine oF ?_
 refine oF ?_
 refine oF ?_
 refine R.pkFE rfl rfl cA ?_
 refine aA ?_
 refine aA ?_
 refine nN (T.has Has.nil ?_)
 refine T.ret ?_
 have hM : k_11 a0 a1 a2 = (a3, false) := by rw [k_11, b8, LR.seq_go, if_neg g39]
 exact fin2L (v := .int .i64 a3) (v' := .bool false) [] rfl rfl rfl (List.Sublist.refl _) ⟨rfl, by first | rw [hM] | rfl⟩
def k_41 (a0 : ZL) (a1 : Int) : Int :=
  (IntKind.i64.wrap (a0.1 - a1))
theorem trait_find_1_c (H : Heap) (a0 : ZL) (a1 : Int) : Fv Tryz.prog (fnv 136) [.agg #[.int .i64 a0.1, .bool a0.2.1, .bool a0.2.2.1, .int .i64 a0.2.2.2.1, .int .i64 a0.2.2.2.2.1, .int .i64 a0.2.2.2.2.2], .int .i64 a1] H (.int .i64 (k_41 a0 a1)) := by
 refine Fc.of_body (N := 9) func136 rfl kA rfl rfl ?_
 intro w0
 refine sR (R.box rfl cA ?_)
 intro b2
 refine aA ?_
 refine TL.shut .hd ?_
 intro a2 sb2_1 a3
 have a4 : a2 b2 = some (.cells #[.int .i64 (a0.1), .bool (a0.2.1), .bool (a0.2.2.1), .int .i64 (a0.2.2.2.1), .int .i64 (a0.2.2.2.2.1), .int .i64 (a0.2.2.2.2.2)] 55) := shut1 a3
 refine nN (sR (fA underlying55 rfl sizeOf3 ?_))
 refine R.ldH isAgg3 rfl rfl a4 rfl ?_
 refine mA ?_
 refine R.sub rfl rfl rfl ?_
 refine aA ?_
 refine nN (T.has Has.nil ?_)
 refine T.ret ?_
 have hM : k_41 a0 a1 = (IntKind.i64.wrap (a0.1 - a1)) := by rw [k_41]
 exact fin1L (v := .int .i64 (IntKind.i64.wrap (a0.1 - a1))) [] rfl rfl (List.Sublist.refl _) ⟨rfl, by first | rw [hM] | rfl⟩
def k_62 (a0 : List (ZL)) (a1 : Int) : Int × Bool :=
  LR.seq (k_11 a0 a1 ((fun z0 z1 => k_41 z0 z1))) (fun r8 => (r8.1, r8.2))
theorem trait_find_c (H : Heap) (va0 : Value) (a0 : List (ZL)) (ha0 : RdS relationE H va0 a0) (a1 : Int) (hl : a0.length ≤ 2000000) : Fv Tryz.prog (fnv 59) [va0, .int .i64 a1] H (.tuple #[.int .i64 (k_62 a0 a1).1, .bool (k_62 a0 a1).2]) := by
 refine Fc.of_body (N := 11) func59 rfl kA rfl rfl ?_
 intro w0
 obtain ⟨Aa0, ca0, rfl, hca0, hda0, ha0⟩ := ha0.shape
 refine sR (aA ?_)
 refine aA ?_
 refine nN (sR (mA ?_))
 refine mA ?_
 obtain ⟨r8, er8⟩ : ∃ r, r = (k_11 a0 a1 ((fun z0 z1 => k_41 z0 z1))) := ⟨_, rfl⟩
 refine R.callv (v := .tuple #[.int .i64 r8.1, .bool r8.2]) rfl rfl rfl (by rw [er8]; exact k_ae _ _ a0 ha0 (a1) _ (fun z0 z1 => k_41 z0 z1) (fun H2 h2 z0 z1 => trait_find_1_c H2 z0 z1) rfl bA) ?_
 refine R.ext rfl rfl rfl ?_
 refine R.ext rfl rfl rfl ?_
 refine aA ?_
 refine aA ?_
 refine nN (T.has Has.nil ?_)
 refine T.ret ?_
 have hM : k_62 a0 a1 = (r8.1, r8.2) := by subst er8; rw [k_62, LR.seq_go]
 exact fin2L (v := .int .i64 (r8.1)) (v' := .bool (r8.2)) [] rfl rfl rfl (List.Sublist.refl _) ⟨rfl, by first | rw [hM] | rfl⟩
end Go.SX
namespace Go.SX
open Go
abbrev Tr := Bool × Bool × Int × Int × Int
abbrev Rl := Int × Tr
abbrev rl0 : Rl := (0, (false, false, 0, 0, 0))
theorem bs_rng {a : List Rl} {n : Int} {f : Rl → Int → Int} (hl : a.length ≤ 2000000) : ∀ (m : Nat) (i j : Int), 0 ≤ i → i ≤ j → j ≤ (a.length : Int) → 0 ≤ (k_9 a n f m (i, j)).1
  | 0, i, j, _, _, _ => by rw [k_9]; exact Int.le_refl _
  | m + 1, i, j, h0, h1, h2 => by
    rw [k_9]
    simp only
    by_cases c : i < j
    · have hm := midI h0 c (by omega)
      rw [if_pos c, hm]
      split
      · exact bs_rng hl m _ j (by omega) (by omega) h2
      · exact bs_rng hl m i _ h0 (by omega) (by omega)
    · rw [if_neg c]; exact h0
theorem bs_l1 {a : List Rl} {n : Int} {f : Rl → Int → Int} (hl : a.length ≤ 2000000) (hm : ∀ p q : Nat, p ≤ q → q < a.length → f (a.getD q rl0) n < 0 → f (a.getD p rl0) n < 0) : ∀ (m : Nat) (i j : Int), 0 ≤ i → i ≤ j → j ≤ (a.length : Int) → (j - i).toNat < m →
    ∃ k : Int, k_9 a n f m (i, j) = (k, k) ∧ i ≤ k ∧ k ≤ j ∧ (∀ p : Nat, i ≤ p → (p : Int) < k → f (a.getD p rl0) n < 0) ∧ (∀ p : Nat, k ≤ p → (p : Int) < j → ¬ f (a.getD p rl0) n < 0)
  | 0, i, j, _, _, _, h3 => by omega
  | m + 1, i, j, h0, h1, h2, h3 => by
    rw [k_9]
    simp only
    by_cases c : i < j
    · have hmd := midI h0 c (by omega)
      rw [if_pos c, hmd]
      by_cases c2 : f (a.getD ((i + j) / 2).toNat rl0) n < 0
      · rw [if_pos c2]
        obtain ⟨k, e, k1, k2, k3, k4⟩ := bs_l1 hl hm m ((i + j) / 2 + 1) j (by omega) (by omega) h2 (by omega)
        refine ⟨k, e, by omega, k2, fun p hp hk => ?_, k4⟩
        by_cases c3 : (i + j) / 2 + 1 ≤ (p : Int)
        · exact k3 p c3 hk
        · exact hm p ((i + j) / 2).toNat (by omega) (by omega) c2
      · rw [if_neg c2]
        obtain ⟨k, e, k1, k2, k3, k4⟩ := bs_l1 hl hm m i ((i + j) / 2) h0 (by omega) (by omega) (by omega)
        refine ⟨k, e, k1, by omega, k3, fun p hp hk => ?_⟩
        by_cases c3 : (p : Int) < (i + j) / 2
        · exact k4 p hp c3
        · exact fun h => c2 (hm ((i + j) / 2).toNat p (by omega) (by omega) h)
    · rw [if_neg c]
      exact ⟨i, by rw [show j = i by omega], Int.le_refl _, h1, fun p h4 h5 => by omega, fun p h4 h5 => by omega⟩
theorem find_rng (a : List Rl) (n : Int) (r : Int × Bool) (e : r = k_62 a n) (hl : a.length ≤ 2000000) : r.2 = true → 0 ≤ r.1 ∧ r.1 < (a.length : Int) := by
  subst e
  intro h
  have h0 := bs_rng (a := a) (n := n) (f := fun z0 z1 => k_41 z0 z1) hl (((a.length : Int) - 0).toNat + 1) 0 a.length (by omega) (by omega) (by omega)
  unfold k_62 k_11 at h ⊢
  simp only [LR.seq] at h ⊢
  generalize k_9 a n (fun z0 z1 => k_41 z0 z1) (((a.length : Int) - 0).toNat + 1) (0, a.length) = o at *
  by_cases c : o.1 < (a.length : Int)
  · rw [if_pos c]; exact ⟨h0, c⟩
  · rw [if_neg c] at h; cases h
def MayT (t : Tr) : Prop := 0 ≤ t.2.2.1 ∧ t.2.2.1 ≤ 4 ∧ (0 ≤ t.2.2.2.1 ∧ t.2.2.2.1 ≤ 2) ∧ (0 ≤ t.2.2.2.2 ∧ t.2.2.2.2 ≤ 2)
theorem may1 (p : Int) : k_63 p = true ↔ 0 ≤ p ∧ p ≤ 2 := by
  unfold k_63
  by_cases h : 0 ≤ p
  · rw [if_pos h, decide_eq_true_eq]; exact ⟨fun k => ⟨h, k⟩, fun k => k.2⟩
  · rw [if_neg h]; exact ⟨fun k => (by cases k), fun k => absurd k.1 h⟩
theorem may_iff (t : Tr) : k_8f t = 0 ↔ MayT t := by
  unfold k_8f MayT
  simp only [LR.seq]
  by_cases h1 : t.2.2.1 < 0
  · rw [if_pos h1, if_pos rfl]; exact ⟨fun k => by omega, fun k => by omega⟩
  rw [if_neg h1]
  by_cases h2 : (4 : Int) < t.2.2.1
  · rw [decide_eq_true h2, if_pos rfl]; exact ⟨fun k => by omega, fun k => by omega⟩
  rw [decide_eq_false h2, if_neg Bool.false_ne_true]
  have e1 := may1 t.2.2.2.1
  have e2 := may1 t.2.2.2.2
  cases h3 : k_63 t.2.2.2.1 with
  | false =>
    rw [Bool.not_false, if_pos rfl, if_pos rfl]
    refine ⟨fun k => by omega, fun k => ?_⟩
    have := e1.2 k.2.2.1; rw [h3] at this; cases this
  | true =>
    rw [Bool.not_true, if_neg Bool.false_ne_true]
    cases h4 : k_63 t.2.2.2.2 with
    | false =>
      rw [Bool.not_false, if_pos rfl]
      refine ⟨fun k => by omega, fun k => ?_⟩
      have := e2.2 k.2.2.2; rw [h4] at this; cases this
    | true =>
      rw [Bool.not_true, if_neg Bool.false_ne_true]
      exact ⟨fun _ => ⟨by omega, by omega, e1.1 h3, e2.1 h4⟩, fun _ => rfl⟩
structure RelOk (a : List Rl) : Prop where
  n1 : 2 ≤ a.length
  n2 : a.length ≤ 200
  f0 : a.getD 0 rl0 = (1, (true, true, 0, 1, 2))
  f1 : a.getD 1 rl0 = (2, (true, false, 0, 0, 2))
  idx : ∀ (i : Nat) (r : Rl), a[i]? = some r → (1 ≤ r.1 ∧ r.1 ≤ 1048578) ∧ MayT r.2
  up : ∀ i : Nat, i + 1 < a.length → (a.getD i rl0).1 < (a.getD (i + 1) rl0).1
theorem all_rel (f : Int → Rl → Bool) : ∀ (l : List Rl) (k : Nat), (k_33 f l k () = .go () ∧ ∀ i s, l[i]? = some s → f ((k + i : Nat) : Int) s = true) ∨ (k_33 f l k () = .ret false ∧ ∃ i s, l[i]? = some s ∧ f ((k + i : Nat) : Int) s = false)
  | [], k => .inl ⟨rfl, fun i s h => by simp at h⟩
  | y :: ys, k => by
    rw [k_33]
    cases h : f (k : Int) y with
    | false => exact .inr ⟨by rw [Bool.not_false, if_pos rfl], 0, y, rfl, by simpa using h⟩
    | true =>
      rw [Bool.not_true, if_neg Bool.false_ne_true]
      rcases all_rel f ys (k + 1) with ⟨h1, h2⟩ | ⟨h1, i, s, h2, h3⟩
      · refine .inl ⟨h1, fun i s hs => ?_⟩
        cases i with
        | zero => simp at hs; subst hs; simpa using h
        | succ i => rw [show k + (i + 1) = k + 1 + i by omega]; exact h2 i s (by simpa using hs)
      · exact .inr ⟨h1, i + 1, s, by simpa using h2, by rw [show k + (i + 1) = k + 1 + i by omega]; exact h3⟩
theorem all_rel_m (f : Int → Rl → Bool) (l : List Rl) : k_39 l f = true ↔ ∀ i s, l[i]? = some s → f ((i : Nat) : Int) s = true := by
  unfold k_39
  rcases all_rel f l 0 with ⟨h1, h2⟩ | ⟨h1, i, s, h2, h3⟩
  · rw [h1, LR.on_go]; exact ⟨fun _ i s hs => by simpa using h2 i s hs, fun _ => rfl⟩
  · rw [h1, LR.on_ret]
    exact ⟨fun h => (by cases h), fun h => (by have := h i s h2; rw [Nat.zero_add] at h3; rw [h3] at this; cases this)⟩
theorem tindex_iff (n : Int) : k_89 n = true ↔ 1 ≤ n ∧ n ≤ 1048578 := by
  unfold k_89
  by_cases h : 1 ≤ n
  · rw [if_pos h, decide_eq_true_eq]; exact ⟨fun k => ⟨h, k⟩, fun k => k.2⟩
  · rw [if_neg h]; exact ⟨fun k => (by cases k), fun k => absurd k.1 h⟩
def relBeg (i : Int) : Rl := ([((1, (true, true, 0, 1, 2)) : Rl), ((2, (true, false, 0, 0, 2)) : Rl)] : List Rl).getD i.toNat rl0
theorem check1_iff (a : List Rl) (i : Int) (r : Rl) : k_19 a i r = true ↔ ((2 ≤ i ∨ r = relBeg i) ∧ (1 ≤ r.1 ∧ r.1 ≤ 1048578) ∧ MayT r.2 ∧ (i = 0 ∨ (a.getD (i - 1).toNat rl0).1 < r.1)) := by
  have e1 := tindex_iff r.1
  have e2 := may_iff r.2
  have hT : (if k_89 r.1 = true then (if k_8f r.2 = 0 then (if i = 0 then true else decide ((a.getD (i - 1).toNat rl0).1 < r.1)) else false) else false) = true ↔ (1 ≤ r.1 ∧ r.1 ≤ 1048578) ∧ MayT r.2 ∧ (i = 0 ∨ (a.getD (i - 1).toNat rl0).1 < r.1) := by
    rw [and_t, and_t, or_t, decide_eq_true_eq, e1, e2]
  unfold k_19
  by_cases h : 2 ≤ i
  · rw [if_pos h]
    rw [hT]; exact ⟨fun k => ⟨.inl h, k⟩, fun k => k.2⟩
  · rw [if_neg h]
    change (if r = relBeg i then _ else _) = true ↔ _
    by_cases h2 : r = relBeg i
    · rw [if_pos h2]
      rw [hT]; exact ⟨fun k => ⟨.inr h2, k⟩, fun k => k.2⟩
    · rw [if_neg h2]
      exact ⟨fun k => (by cases k), fun k => by rcases k.1 with q | q; exact absurd q h; exact absurd q h2⟩
theorem tcheck_iff (a : List Rl) : (k_35 a = 0 ↔ RelOk a) ∧ (k_35 a = 0 ∨ k_35 a = 230) := by
  unfold k_35
  simp only [LR.seq]
  by_cases h1 : (2 : Int) ≤ (a.length : Int)
  rotate_left
  · rw [if_neg h1]; exact ⟨⟨fun k => (by cases k), fun k => absurd k.n1 (by omega)⟩, .inr rfl⟩
  rw [if_pos h1]
  by_cases h2 : (a.length : Int) ≤ 200
  rotate_left
  · rw [if_neg h2]; exact ⟨⟨fun k => (by cases k), fun k => absurd k.n2 (by omega)⟩, .inr rfl⟩
  rw [if_pos h2]
  have hA := all_rel_m (fun z0 z1 => k_19 a z0 z1) a
  have hiff : k_39 a (fun z0 z1 => k_19 a z0 z1) = true ↔ RelOk a := by
    rw [hA]
    constructor
    · intro h
      have hg : ∀ (i : Nat) (r : Rl), a[i]? = some r → _ := fun i r hi => (check1_iff a i r).1 (h i r hi)
      have h00 := hg 0 _ (k_46 (z := rl0) (by omega))
      have h11 := hg 1 _ (k_46 (z := rl0) (by omega))
      refine ⟨by omega, by omega, ?_, ?_, fun i r hi => ⟨(hg i r hi).2.1, (hg i r hi).2.2.1⟩, fun i hi => ?_⟩
      · rcases h00.1 with q | q
        · omega
        · exact q
      · rcases h11.1 with q | q
        · omega
        · exact q
      · have := (hg (i + 1) _ (k_46 (z := rl0) hi)).2.2.2
        rcases this with q | q
        · omega
        · rwa [show (((i + 1 : Nat) : Int) - 1).toNat = i by omega] at q
    · intro h i r hi
      have hlt := (List.getElem?_eq_some_iff.1 hi).1
      refine (check1_iff a i r).2 ⟨?_, (h.idx i r hi).1, (h.idx i r hi).2, ?_⟩
      · match i, hi with
        | 0, hi => exact .inr (by have := h.f0; rw [List.getD_eq_getElem?_getD, hi] at this; exact this)
        | 1, hi => exact .inr (by have := h.f1; rw [List.getD_eq_getElem?_getD, hi] at this; exact this)
        | i + 2, hi => exact .inl (by omega)
      · cases i with
        | zero => exact .inl rfl
        | succ i =>
          refine .inr ?_
          rw [show (((i + 1 : Nat) : Int) - 1).toNat = i by omega]
          have := h.up i hlt
          rwa [show a.getD (i + 1) rl0 = r by rw [List.getD_eq_getElem?_getD, hi]; rfl] at this
  cases hc : k_39 a (fun z0 z1 => k_19 a z0 z1) with
  | false => exact ⟨⟨fun k => (by cases k), fun k => by have := hiff.2 k; rw [hc] at this; cases this⟩, .inr rfl⟩
  | true => exact ⟨⟨fun _ => hiff.1 hc, fun _ => rfl⟩, .inl rfl⟩
end Go.SX
namespace Go.SX
open Go Go.Proofs Go.Proofs.Tryz
def k_29 (a0 : List (ZL)) (a1 : Int) : (Bool × Bool × Int × Int × Int) × Bool :=
  LR.seq (k_62 a0 a1) (fun r11 => LR.seq (if (!r11.2) = true then true else ((decide (((k_35 a0) : Int) ≠ 0))) : Bool) (fun sc1 => if sc1 = true then ((((false, false, 0, 0, 0) : Bool × Bool × Int × Int × Int), false)) else (((a0.getD r11.1.toNat (((0, (false, false, 0, 0, 0)) : ZL) : ZL)).2, true))))
theorem trait_Find_c (H : Heap) {tG0 : TypeId} (hG0 : gF H 0 tG0) (va0 : Value) (a0 : List (ZL)) (a9 : RdS relationE H va0 a0) (a1 : Int) (hl : a0.length ≤ 2000000) : Fv Tryz.prog (fnv 15) [va0, .int .i64 a1] H (.tuple #[.agg #[.bool (k_29 a0 a1).1.1, .bool (k_29 a0 a1).1.2.1, .int .i64 (k_29 a0 a1).1.2.2.1, .int .i64 (k_29 a0 a1).1.2.2.2.1, .int .i64 (k_29 a0 a1).1.2.2.2.2], .bool (k_29 a0 a1).2]) := by
 refine Fc.of_body (N := 27) func15 rfl kA rfl rfl ?_
 intro w0
 obtain ⟨Aa0, ca0, rfl, hca0, hda0, a9⟩ := a9.shape
 refine sR (R.alloc zeroValue51 rfl ?_)
 intro b4
 refine aA ?_
 refine nN (sR (mA ?_))
 refine mA ?_
 obtain ⟨a4, a6⟩ : ∃ r, r = (k_62 a0 a1) := ⟨_, rfl⟩
 refine R.callv (v := .tuple #[.int .i64 a4.1, .bool a4.2]) rfl rfl rfl (by rw [a6]; exact trait_find_c _ _ a0 a9 (a1) bA) ?_
 have tf11 := find_rng _ _ _ a6 bA
 refine mA ?_
 refine R.ext rfl rfl rfl ?_
 refine R.ext rfl rfl rfl ?_
 refine aA ?_
 refine aA ?_
 refine nN (T.seq (T.seq (T.cutK (ι := Bool) (fun a3 H' L' ds' => Has L' [[(b4, .cells #[.bool false, .bool false, .int .i64 0, .int .i64 0, .int .i64 0] 51)]] ∧ (if (!a4.2) = true then true else ((decide (((k_35 a0) : Int) ≠ 0))) : Bool) = a3) (fun a3 => [(0, .slice Aa0 a0.length ca0), (4, .pointer (some ⟨b4, 0, none⟩)), (6, .int .i64 (a4.1)), (20, .bool (a3))]) ?_ ?_)))
 refine T.region (mA ?_)
 refine R.not rfl rfl ?_
 refine mA ?_
 refine TL.gsplit 16 rfl (fun g16 => ?_) (fun g16 => ?_)
 refine oF ?_
 refine oF ?_
 refine oF ?_
 refine R.pkTE rfl rfl cA ?_
 refine nN ?_
 exact ⟨true, HLe.refl _, ⟨(Has.cons .hd Has.nil), (by rw [if_t g16])⟩, rfl, rfl, rfl, rfl, trivial⟩
 refine mA ?_
 refine R.callv rfl rfl rfl (trait_Check_c _ hG0 _ a0 a9) ?_
 refine R.neq rfl rfl rfl ?_
 refine R.pkFE rfl rfl cA ?_
 refine nN ?_
 exact ⟨(decide (((k_35 a0) : Int) ≠ 0)), HLe.refl _, ⟨(Has.cons .hd Has.nil), (by rw [if_f g16])⟩, rfl, rfl, rfl, rfl, trivial⟩
 intro a3 σ_c1 H_c1 L_c1 ds_c1 s_c1 b1
 obtain ⟨hLc1, a7⟩ := b1
 refine T.has hLc1 ?_
 refine T.cond rfl (fun a5 => ?_) (fun a5 => ?_)
 refine T.set 20 (.bool true) (congrArg Value.bool a5) ?_
 have a8 := a7.trans a5
 try simp only [or_f, or_t, and_f, and_t, decide_eq_true_eq, decide_eq_false_iff_not, Bool.not_eq_true'] at a8
 refine sR (R.bld (cs := [.bool false, .bool false, .int .i64 0, .int .i64 0, .int .i64 0]) rfl (fun _ => by kernel_rfl) ?_)
 refine stY (l := [.bool false, .bool false, .int .i64 0, .int .i64 0, .int .i64 0]) (new := [.bool false, .bool false, .int .i64 0, .int .i64 0, .int .i64 0]) .hd sizeOf51 rfl rfl ?_
 refine aA ?_
 refine nN (T.has (Has.cons .hd Has.nil) ?_)
 refine T.ret (Post.thnR ?_)
 have hM : k_29 a0 a1 = (((false, false, 0, 0, 0) : Bool × Bool × Int × Int × Int), false) := by subst a6; rw [k_29, LR.seq_go, a7, LR.seq_go, if_t a5]
 exact finR2 (v := .agg #[.bool false, .bool false, .int .i64 0, .int .i64 0, .int .i64 0]) (v' := .bool false) [] rfl (.cellA (cs := [.bool false, .bool false, .int .i64 0, .int .i64 0, .int .i64 0]) (l := [.bool false, .bool false, .int .i64 0, .int .i64 0, .int .i64 0]) isAgg51 sizeOf51 rfl .hd rfl rfl) (.tmp rfl) (List.sublist_append_left ([] : Own) _) ⟨rfl, by first | rw [hM] | rfl⟩
 refine T.set 20 (.bool false) (congrArg Value.bool a5) ?_
 have a8 := a7.trans a5
 try simp only [or_f, or_t, and_f, and_t, decide_eq_true_eq, decide_eq_false_iff_not, Bool.not_eq_true'] at a8
 refine T.skip (Post.thnN (T.seq ?_))
 have tf := tf11 (by simpa using a8.1)
 refine T.region (mA ?_)
 refine mA ?_
 have b0 : a4.1.toNat < a0.length := bA
 obtain ⟨a2, e24, h24⟩ : ∃ y, y = (a0.getD a4.1.toNat (((0, (false, false, 0, 0, 0)) : ZL) : ZL)) ∧ a0[a4.1.toNat]? = some y := ⟨_, rfl, k_46 (by first | exact b0 | simpa using b0 | (simp only [List.length_set]; omega) | omega | (rw [(k_26 _).length_eq]; exact b0))⟩
 obtain ⟨b24, o24, i24, k24⟩ := RdS.elem (a9.mono s_c1) h24
 obtain ⟨l24, g24, k24⟩ := k24
 obtain rfl : l24 = [.int .i64 (a2.1), .bool (a2.2.1), .bool (a2.2.2.1), .int .i64 (a2.2.2.2.1), .int .i64 (a2.2.2.2.2.1), .int .i64 (a2.2.2.2.2.2)] := g24
 refine R.ixp underlying28 sizeOf55 rfl rfl rfl bA i24 ?_
 refine fA underlying55 rfl sizeOf51 ?_
 refine R.ldK (l := [.bool (a2.2.1), .bool (a2.2.2.1), .int .i64 (a2.2.2.2.1), .int .i64 (a2.2.2.2.2.1), .int .i64 (a2.2.2.2.2.2)]) isAgg51 sizeOf51 rfl rfl (cells_sub (j := 1) (n := 5) k24 rfl) rfl ?_
 refine stY (l := [.bool (a2.2.1), .bool (a2.2.2.1), .int .i64 (a2.2.2.2.1), .int .i64 (a2.2.2.2.2.1), .int .i64 (a2.2.2.2.2.2)]) (new := [.bool (a2.2.1), .bool (a2.2.2.1), .int .i64 (a2.2.2.2.1), .int .i64 (a2.2.2.2.2.1), .int .i64 (a2.2.2.2.2.2)]) .hd sizeOf51 rfl rfl ?_
 refine aA ?_
 refine nN (T.has (Has.cons .hd Has.nil) ?_)
 refine T.ret ?_
 have hM : k_29 a0 a1 = (a2.2, true) := by subst e24; subst a6; rw [k_29, LR.seq_go, a7, LR.seq_go, if_f a5]
 exact finR2 (v := .agg #[.bool (a2.2.1), .bool (a2.2.2.1), .int .i64 (a2.2.2.2.1), .int .i64 (a2.2.2.2.2.1), .int .i64 (a2.2.2.2.2.2)]) (v' := .bool true) [] rfl (.cellA (cs := [.bool (a2.2.1), .bool (a2.2.2.1), .int .i64 (a2.2.2.2.1), .int .i64 (a2.2.2.2.2.1), .int .i64 (a2.2.2.2.2.2)]) (l := [.bool (a2.2.1), .bool (a2.2.2.1), .int .i64 (a2.2.2.2.1), .int .i64 (a2.2.2.2.2.1), .int .i64 (a2.2.2.2.2.2)]) isAgg51 sizeOf51 rfl .hd rfl rfl) (.tmp rfl) (List.sublist_append_left ([] : Own) _) ⟨rfl, by first | rw [hM] | rfl⟩
end Go.SX
namespace Go.SX
open Go
attribute [local semireducible] T TL
def mlk {β : Type} (m : List (Int × β)) (k : Int) : Option β := (m.find? (fun q => q.1 == k)).map (·.2)
def mpu {β : Type} : List (Int × β) → Int → β → List (Int × β)
  | [], k, v => [(k, v)]
  | q :: m, k, v => if q.1 = k then (k, v) :: m else q :: mpu m k v
def MapV {β : Type} (ik : IntKind) (f : β → Value) (es : Array MapEntry) (m : List (Int × β)) : Prop := MapIs ik es (m.map (fun q => (q.1, f q.2)))
theorem mget_map {β : Type} (f : β → Value) : ∀ (m : List (Int × β)) (k : Int), mget (m.map (fun q => (q.1, f q.2))) k = (mlk m k).map f
  | [], k => rfl
  | q :: m, k => by
    have ih := mget_map f m k
    unfold mget mlk at *
    rw [List.map_cons]
    by_cases h : q.1 = k
    · rw [List.find?_cons_of_pos (by simpa using h), List.find?_cons_of_pos (by simpa using h)]; rfl
    · rw [List.find?_cons_of_neg (by simpa using h), List.find?_cons_of_neg (by simpa using h)]; exact ih
theorem mput_map {β : Type} (f : β → Value) : ∀ (m : List (Int × β)) (k : Int) (v : β), mput (m.map (fun q => (q.1, f q.2))) k (f v) = (mpu m k v).map (fun q => (q.1, f q.2))
  | [], k, v => rfl
  | q :: m, k, v => by
    rw [List.map_cons, mput, mpu]
    by_cases h : q.1 = k
    · rw [if_pos h, if_pos h]; rfl
    · rw [if_neg h, if_neg h, List.map_cons, mput_map f m k v]
section
variable {fr : Fr} {x : Cx} {Q : Post} {σ : Env} {H : Heap} {L : Own} {ds : List Nat} {ol rest : List Oper}
variable {d : Nat} {ty : TypeId} {p : String} {af : Array Edge} {g : Option (Nat × Bool)}
theorem R.mkmV {β : Type} (ik : IntKind) (f : β → Value) {t : TypeId} (hw : wan fr.N ol σ d g = true) (h : ∀ b, MapV ik f #[] ([] : List (Int × β)) → TL fr x ol rest Q (upd σ d (.map (some b))) H ([(b, .map #[] 0)] :: L) ds) :
    TL fr x ol (⟨some d, .makeMap t none, ty, p, af, g⟩ :: rest) Q σ H L ds := R.mkm hw (fun b => h b rfl)
theorem R.lkuV {β : Type} {f : β → Value} {t kt et : TypeId} {M K : Operand} {b clock : Nat} {es : Array MapEntry} {m : List (Int × β)} {ik : IntKind} {k : Int} {z : Value} {z0 : β} (hm : fr.P.underlying t = some (.map kt et)) (hk : fr.P.underlying kt = some (.int ik)) (hz : ∀ w, (zeroValue et).run fr.P w = .ok z w) (hz0 : z = f z0)
    (hw : wan fr.N ol σ d g = true) (hM : ev σ M = .map (some b)) (hK : ev σ K = .int ik k) (hin : In L [(b, .map es clock)]) (hi : MapV ik f es m)
    (h : TL fr x ol rest Q (upd σ d (f ((mlk m k).getD z0))) H L ds) : TL fr x ol (⟨some d, .lookup t M K false, ty, p, af, g⟩ :: rest) Q σ H L ds :=
  R.lku hm hk hz hw hM hK hin hi (by
    have e : (mget (m.map (fun q => (q.1, f q.2))) k).getD z = f ((mlk m k).getD z0) := by
      rw [mget_map, hz0]; cases mlk m k <;> rfl
    rw [e]; exact h)
theorem R.mupV {β : Type} {f : β → Value} {t kt et : TypeId} {M K X : Operand} {b clock : Nat} {es : Array MapEntry} {m : List (Int × β)} {ik : IntKind} {k : Int} {v : β} {RR : Own} (hm : fr.P.underlying t = some (.map kt et)) (hk : fr.P.underlying kt = some (.int ik))
    (hw : wants ol σ g = true) (hM : ev σ M = .map (some b)) (hK : ev σ K = .int ik k) (hX : ev σ X = f v) (hdel : Del L [(b, .map es clock)] RR) (hi : MapV ik f es m)
    (h : ∀ es' clock', MapV ik f es' (mpu m k v) → TL fr x ol rest Q σ H ([(b, .map es' clock')] :: RR) ds) : TL fr x ol (⟨none, .mapUpdate t M K X, ty, p, af, g⟩ :: rest) Q σ H L ds :=
  R.mup hm hk hw hM hK hX hdel hi (fun es' cl hi' => h es' cl (by unfold MapV; rw [← mput_map]; exact hi'))
end
def MpR {β : Type} (ik : IntKind) (f : β → Value) (H : Heap) (b : Nat) (m : List (Int × β)) : Prop := ∃ es ck, H b = some (.map es ck) ∧ MapV ik f es m
theorem MpR.mono {β : Type} {ik : IntKind} {f : β → Value} {H H' : Heap} {b : Nat} {m : List (Int × β)} (h : MpR ik f H b m) (hl : HLe H H') : MpR ik f H' b m := by
  obtain ⟨es, ck, h1, h2⟩ := h
  exact ⟨es, ck, hl _ _ h1, h2⟩
theorem MpR.of {β : Type} {ik : IntKind} {f : β → Value} {H : Heap} {b : Nat} {es : Array MapEntry} {ck : Nat} {m : List (Int × β)} (w : MapV ik f es m) (hq : ∀ q ∈ [(b, Obj.map es ck)], H q.1 = some q.2) : MpR ik f H b m := ⟨es, ck, hq _ (List.mem_singleton.2 rfl), w⟩
section
variable {fr : Fr} {x : Cx} {Q : Post} {σ : Env} {H : Heap} {L : Own} {ds : List Nat} {ol rest : List Oper}
variable {d : Nat} {ty : TypeId} {p : String} {af : Array Edge} {g : Option (Nat × Bool)}
theorem R.lkuVH {β : Type} {f : β → Value} {t kt et : TypeId} {M K : Operand} {b : Nat} {m : List (Int × β)} {ik : IntKind} {k : Int} {z : Value} {z0 : β} (hm : fr.P.underlying t = some (.map kt et)) (hk : fr.P.underlying kt = some (.int ik)) (hz : ∀ w, (zeroValue et).run fr.P w = .ok z w) (hz0 : z = f z0)
    (hw : wan fr.N ol σ d g = true) (hM : ev σ M = .map (some b)) (hK : ev σ K = .int ik k) (hi : MpR ik f H b m)
    (h : TL fr x ol rest Q (upd σ d (f ((mlk m k).getD z0))) H L ds) : TL fr x ol (⟨some d, .lookup t M K false, ty, p, af, g⟩ :: rest) Q σ H L ds := by
  obtain ⟨es, ck, h1, h2⟩ := hi
  refine R.lkuH hm hk hz hw hM hK h1 h2 ?_
  have e : (mget (m.map (fun q => (q.1, f q.2))) k).getD z = f ((mlk m k).getD z0) := by
    rw [mget_map, hz0]; cases mlk m k <;> rfl
  rw [e]; exact h
end
end Go.SX
namespace Go.SX
open Go
attribute [local semireducible] T TL
def BornOk (es : Array MapEntry) (clock : Nat) : Prop := (es.toList.map (·.born)).Pairwise (· < ·) ∧ ∀ e ∈ es.toList, e.born < clock
def MapK (ik : IntKind) (es : Array MapEntry) (clock : Nat) (m : MapL) : Prop := MapIs ik es m ∧ BornOk es clock
theorem MapK.nil (ik : IntKind) : MapK ik #[] 0 [] := ⟨mapIs_nil ik, by simp, fun e h => by simp at h⟩
theorem run_mapUpdate_k {P : Program} {w : World} {t kt et : TypeId} {ik : IntKind} {es : Array MapEntry} {clock b : Nat} {m : MapL} {k : Int} {v : Value} (hm : P.underlying t = some (.map kt et)) (hk : P.underlying kt = some (.int ik)) (hb : w.heap[b]? = some (.map es clock)) (hi : MapK ik es clock m) :
    ∃ es' clock', (Instr.mapUpdate t (.map (some b)) (.int ik k) v).run P w = .ok () (w.putObj b (.map es' clock')) ∧ MapK ik es' clock' (mput m k v) := by
  obtain ⟨hi, hbo1, hbo2⟩ := hi
  have hf := run_findKey_is (P := P) (w := w) (k := k) hk hi
  have hset : ∀ o, (setObj b o).run P w = .ok () (w.putObj b o) := fun o => by rw [MapKept.run_setObj_map o hb]; rfl
  rcases mget_idx m k with ⟨h1, h2⟩ | ⟨j, u, h1, h2, h3⟩
  · rw [h1] at hf
    refine ⟨es.push ⟨.int ik k, v, clock⟩, clock + 1, ?_, ?_, ?_, ?_⟩
    · simp [Instr.mapUpdate, run_underlying hm, run_getObj_map (w := w) b es clock hb, k_9b hk, hf, hset]
    · rw [mput_none m k v h1]
      unfold MapIs at hi ⊢
      simp [hi]
    · simp only [Array.toList_push, List.map_append, List.map_cons, List.map_nil]
      refine List.pairwise_append.2 ⟨hbo1, List.pairwise_singleton _ _, fun x hx y hy => ?_⟩
      simp at hy; subst hy
      obtain ⟨e, he, rfl⟩ := List.mem_map.1 hx
      exact hbo2 e he
    · intro e he
      simp only [Array.toList_push, List.mem_append, List.mem_singleton] at he
      rcases he with he | rfl
      · have := hbo2 e he; omega
      · exact Nat.lt_succ_self _
  · rw [h1, h2] at hf
    simp only [Option.bind_some, Option.map_some, Nat.zero_add] at hf
    have hej : (es[j]?).map (·.key) = some (.int ik k) := by
      have := congrArg (fun l => l[j]?) hi
      simp only [List.getElem?_map, h3, Option.map_some, Array.getElem?_toList] at this
      cases he : es[j]? with
      | none => rw [he] at this; cases this
      | some e => rw [he] at this; simp at this; simp [this.1]
    have hks : (Instr.keyThatStays (.int ik k) (.int ik k)).run P w = .ok (.int ik k) w := by simp [Instr.keyThatStays, Instr.sameBits]
    have hborn : (es.modify j (fun e => { e with key := .int ik k, val := v })).toList.map (·.born) = es.toList.map (·.born) := by
      refine List.ext_getElem? (fun i => ?_)
      simp only [List.getElem?_map, Array.getElem?_toList]
      rw [Array.getElem?_modify]
      by_cases e : j = i
      · subst e; rw [if_pos rfl]; cases es[j]? <;> simp
      · rw [if_neg e]
    refine ⟨es.modify j (fun e => { e with key := .int ik k, val := v }), clock, ?_, ?_, by rw [hborn]; exact hbo1, fun e he => ?_⟩
    · simp [Instr.mapUpdate, run_underlying hm, run_getObj_map (w := w) b es clock hb, k_9b hk, hf, hej, hks, hset]
    · rw [mput_some m k v j h1]
      unfold MapIs at hi ⊢
      refine List.ext_getElem? (fun i => ?_)
      have hie := congrArg (fun l => l[i]?) hi
      simp only [List.getElem?_map, Array.getElem?_toList] at hie ⊢
      rw [Array.getElem?_modify]
      by_cases e : j = i
      · subst e
        rw [if_pos rfl, List.getElem?_set_self (List.getElem?_eq_some_iff.1 h3).1]
        cases he : es[j]? with
        | none => rw [he] at hej; cases hej
        | some x => simp
      · rw [if_neg e, List.getElem?_set_ne e]
        exact hie
    · have : e.born ∈ es.toList.map (·.born) := by rw [← hborn]; exact List.mem_map.2 ⟨e, he, rfl⟩
      obtain ⟨e2, he2, h9⟩ := List.mem_map.1 this
      rw [← h9]; exact hbo2 e2 he2
section
variable {fr : Fr} {x : Cx} {Q : Post} {σ : Env} {H : Heap} {L : Own} {ds : List Nat} {ol rest : List Oper}
variable {d : Nat} {ty : TypeId} {p : String} {af : Array Edge} {g : Option (Nat × Bool)}
theorem R.mupK {t kt et : TypeId} {M K X : Operand} {b clock : Nat} {es : Array MapEntry} {m : MapL} {ik : IntKind} {k : Int} {v : Value} {R : Own} (hm : fr.P.underlying t = some (.map kt et)) (hk : fr.P.underlying kt = some (.int ik))
    (hw : wants ol σ g = true) (hM : ev σ M = .map (some b)) (hK : ev σ K = .int ik k) (hX : ev σ X = v) (hdel : Del L [(b, .map es clock)] R) (hi : MapK ik es clock m)
    (h : ∀ es' clock', MapK ik es' clock' (mput m k v) → TL fr x ol rest Q σ H ([(b, .map es' clock')] :: R) ds) : TL fr x ol (⟨none, .mapUpdate t M K X, ty, p, af, g⟩ :: rest) Q σ H L ds := by
  intro a w hs hd hst
  have hst1 : St x H ((b, .map es clock) :: (R.flatten ++ hid fr.rd ds)) w := hst.perm (by
    have := hdel.perm.append_right (hid fr.rd ds)
    simpa using this)
  have hb := hst1.sat.l (b, .map es clock) (List.mem_cons_self ..)
  simp only at hb
  obtain ⟨es', clock', hrun, hi'⟩ := run_mapUpdate_k (P := fr.P) (w := w) (k := k) (v := v) hm hk hb hi
  have hst2 : St x H ((b, .map es' clock') :: (R.flatten ++ hid fr.rd ds)) (w.putObj b (.map es' clock')) :=
    hst1.turn rfl rfl rfl (by simp [World.putObj]) (World.putObj_heap_same (heap_lt hb)) (fun c hc => World.putObj_heap_other (by first | exact hc | exact fun e => hc e.symm))
  unfold wpLo
  rw [if_pos (k_a9 hs hw)]
  refine ⟨fun f _ => fenceFn _ f, ?_⟩
  rw [k_b0 rfl, hs.eval]
  have hr : (execOp (ev σ) ⟨none, .mapUpdate t M K X, ty, p, af, g⟩).run fr.P w = .ok .skip (w.putObj b (.map es' clock')) := by
    simp [execOp, hM, hK, hX, hrun]
  rw [hr]
  exact h es' clock' hi' _ _ hs hd (by simpa using hst2)
theorem R.rng {t kt et : TypeId} {M : Operand} {b clock : Nat} {es : Array MapEntry} (hm : fr.P.underlying t = some (.map kt et)) (hw : wan fr.N ol σ d g = true) (hM : ev σ M = .map (some b)) (hin : In L [(b, .map es clock)])
    (h : ∀ bi, TL fr x ol rest Q (upd σ d (.pointer (some ⟨bi, 0, none⟩))) H ([(bi, .mapIter (some b) clock #[] clock)] :: L) ds) :
    TL fr x ol (⟨some d, .range t M, ty, p, af, g⟩ :: rest) Q σ H L ds :=
  TL.value hw rfl (fun w hst => by
    have hb := hst.sat.l (b, .map es clock) (List.mem_append_left _ (hin.mem (List.mem_singleton.2 rfl)))
    have hr := run_range_map (P := fr.P) w t kt et b es clock hm hb
    exact ⟨_, w.alloc (.mapIter (some b) clock #[] clock), H, _, by simp [execOp, hM, hr], hst.new _, h w.heap.size⟩)
theorem R.nxt {X : Operand} {b bi clock : Nat} {es : Array MapEntry} {seen : Array Nat} {R : Own} (hw : wan fr.N ol σ d g = true) (hX : ev σ X = .pointer (some ⟨bi, 0, none⟩)) (hdel : Del L [(bi, .mapIter (some b) clock seen clock)] R) (hin : In R [(b, .map es clock)]) (hbo : BornOk es clock)
    (h : ∀ v sn, ((v = .tuple #[.bool false] ∧ sn = seen ∧ ∀ e ∈ es.toList, e.born ∈ seen) ∨ (∃ e ∈ es.toList, e.born ∉ seen ∧ v = .tuple #[.bool true, e.key, e.val] ∧ sn = seen.push e.born)) → TL fr x ol rest Q (upd σ d v) H ([(bi, .mapIter (some b) clock sn clock)] :: R) ds) :
    TL fr x ol (⟨some d, .next X false, ty, p, af, g⟩ :: rest) Q σ H L ds :=
  TL.value hw rfl (fun w hst => by
    have hst1 : St x H ((bi, .mapIter (some b) clock seen clock) :: (R.flatten ++ hid fr.rd ds)) w := hst.perm (by
      have := hdel.perm.append_right (hid fr.rd ds)
      simpa using this)
    have hbi := hst1.sat.l (bi, .mapIter (some b) clock seen clock) (List.mem_cons_self ..)
    have hb := hst1.sat.l (b, .map es clock) (List.mem_cons_of_mem _ (List.mem_append_left _ (hin.mem (List.mem_singleton.2 rfl))))
    simp only at hbi hb
    rcases run_next_at (P := fr.P) w ty bi b clock clock seen es clock hbi hb hbo.2 (Nat.le_refl _) with ⟨h0, hrun⟩ | ⟨e, he, w1, hw1, hrun⟩
    · refine ⟨_, w, H, [(bi, .mapIter (some b) clock seen clock)] :: R, by simp [execOp, hX, hrun], by simpa using hst1, h _ _ (.inl ⟨rfl, rfl, fun e he => ?_⟩)⟩
      have hl : leftOf es seen = #[] := Array.eq_empty_of_size_eq_zero h0
      unfold leftOf at hl
      rw [Array.filter_eq_empty_iff] at hl
      have := hl e (by simpa using he)
      simpa using this
    · have hmem : e ∈ es.toList ∧ e.born ∉ seen := by
        unfold leftOf at he
        simp at he
        exact ⟨by simpa using he.1, he.2⟩
      have hst2 : St x H ((bi, .mapIter (some b) clock seen clock) :: (R.flatten ++ hid fr.rd ds)) w1 := by
        rcases hw1 with rfl | rfl
        · exact hst1
        · exact hst1.drew
      have hbi1 := hst2.sat.l (bi, .mapIter (some b) clock seen clock) (List.mem_cons_self ..)
      simp only at hbi1
      have hst3 := hst2.turn (w' := ChangeMaps.setBlock w1 bi (.mapIter (some b) clock (seen.push e.born) clock)) (o' := .mapIter (some b) clock (seen.push e.born) clock) rfl rfl rfl (by simp [ChangeMaps.setBlock]) (by
          simp [ChangeMaps.setBlock, heap_lt hbi1]) (fun c hc => by
          simp only [ChangeMaps.setBlock]
          rw [Array.getElem?_setIfInBounds_ne (fun e => hc e.symm)])
      exact ⟨.tuple #[.bool true, e.key, e.val], ChangeMaps.setBlock w1 bi (.mapIter (some b) clock (seen.push e.born) clock), H, [(bi, .mapIter (some b) clock (seen.push e.born) clock)] :: R, by simp [execOp, hX, hrun], by simpa using hst3, h _ _ (.inr ⟨e, hmem.1, hmem.2, rfl, rfl⟩)⟩)
theorem R.ent {X : Operand} {b bi clock : Nat} {es : Array MapEntry} {seen : Array Nat} {e : MapEntry} (hw : wan fr.N ol σ d g = true) (hX : ev σ X = .pointer (some ⟨bi, 0, none⟩)) (hin : In L [(bi, .mapIter (some b) clock (seen.push e.born) clock)]) (hin2 : In L [(b, .map es clock)]) (hbo : BornOk es clock) (he : e ∈ es.toList)
    (h : TL fr x ol rest Q (upd σ d (.tuple #[e.key, e.val])) H L ds) : TL fr x ol (⟨some d, .entry X, ty, p, af, g⟩ :: rest) Q σ H L ds :=
  TL.value hw rfl (fun w hst => by
    have hbi := hst.sat.l (bi, .mapIter (some b) clock (seen.push e.born) clock) (List.mem_append_left _ (hin.mem (List.mem_singleton.2 rfl)))
    have hb := hst.sat.l (b, .map es clock) (List.mem_append_left _ (hin2.mem (List.mem_singleton.2 rfl)))
    have hr := run_entry_at (P := fr.P) w bi b clock seen es clock e hbi hb he (hbo.1.imp (fun h => by omega))
    exact ⟨_, w, H, L, by simp [execOp, hX, hr], hst, h⟩)
end
end Go.SX
namespace Go.SX
open Go
attribute [local semireducible] T TL
theorem R.lenM {fr : Fr} {x : Cx} {Q : Post} {σ : Env} {H : Heap} {L : Own} {ds : List Nat} {ol rest : List Oper} {d : Nat} {ty : TypeId} {p : String} {af : Array Edge} {g : Option (Nat × Bool)}
    {t kt et : TypeId} {M : Operand} {b clock : Nat} {es : Array MapEntry} (hm : fr.P.underlying t = some (.map kt et)) (hw : wan fr.N ol σ d g = true) (hM : ev σ M = .map (some b)) (hin : In L [(b, .map es clock)])
    (h : TL fr x ol rest Q (upd σ d (.int .i64 es.size)) H L ds) : TL fr x ol (⟨some d, .call { callee := .builtin .len, args := #[M], argTypes := #[t] }, ty, p, af, g⟩ :: rest) Q σ H L ds :=
  TL.value hw rfl (fun w hst => by
    have hb := hst.sat.l (b, .map es clock) (List.mem_append_left _ (hin.mem (List.mem_singleton.2 rfl)))
    exact ⟨_, w, H, L, by simp [execOp, resolve, invoke, builtin, hM, Builtin.len_, Builtin.lenOf, run_underlying hm, run_getObj_map (w := w) b es clock hb, goInt], hst, h⟩)
end Go.SX
namespace Go.SX
open Go
attribute [local semireducible] T TL
section
variable {fr : Fr} {x : Cx} {Q : Post} {σ : Env} {H : Heap} {L : Own} {ds : List Nat} {ol rest : List Oper}
variable {d : Nat} {ty : TypeId} {p : String} {af : Array Edge} {g : Option (Nat × Bool)}
end
end Go.SX
namespace Go.SX
open Go
attribute [local semireducible] T TL
section
variable {fr : Fr} {x : Cx} {Q : Post} {σ : Env} {H : Heap} {L : Own} {ds : List Nat} {ol rest : List Oper}
variable {d : Nat} {ty : TypeId} {p : String} {af : Array Edge} {g : Option (Nat × Bool)}
end
end Go.SX
namespace Go.SX
open Go
theorem OwnS.len {α : Type} {E : ER α} {e : TypeId} {H : Heap} {A : Option Addr} {n c : Nat} {xs : List α} {ch : Chunk} (h : OwnS E e H (.slice A n c) xs ch) : n = xs.length := by
  obtain ⟨A', cap, h1, _, _⟩ := h.shape
  injection h1
theorem pf_cells {v : Value} (h : v.oneCell' = true) : v.cells = #[v] := cells1 h
attribute [local semireducible] T TL
section
variable {fr : Fr} {x : Cx} {Q : Post} {σ : Env} {H : Heap} {L : Own} {ds : List Nat} {ol rest : List Oper}
variable {d : Nat} {ty : TypeId} {p : String} {af : Array Edge} {g : Option (Nat × Bool)} {X Y : Operand} {xt yt : TypeId} {a b : Int} {k : IntKind}
end
end Go.SX
namespace Go.SX
open Go Go.Proofs Go.Proofs.Tryz
def Y154 : Heap → List Value → (Int) → Prop := fun H vs y => vs = [.int .u64 y]
def k_8a (a0 : Int) : Bool :=
  if ((kindG a0) : Int) = 2 then true else ((decide (((kindG a0) : Int) = 3)))
theorem types_may_c (H : Heap) (a0 : Int) : Fv Tryz.prog (fnv 186) [.int .u64 a0] H (.bool (k_8a a0)) := by
 refine Fc.of_body (N := 12) func186 rfl kA rfl rfl ?_
 intro w0
 refine sR (aA ?_)
 refine nN (sR (mA ?_))
 refine R.callv rfl rfl rfl (kindG_c _ a0) ?_
 refine aA ?_
 refine nN (sR (mA ?_))
 refine R.eql rfl rfl rfl ?_
 refine mA ?_
 refine TL.gsplitD 8 rfl (fun g8 => ?_) (fun g8 => ?_)
 refine oF ?_
 refine oF ?_
 refine R.pkTE rfl rfl cA ?_
 refine aA ?_
 refine nN (T.has Has.nil ?_)
 refine T.ret ?_
 have hM : k_8a a0 = true := by rw [k_8a, if_pos g8]
 exact fin1L (v := .bool true) [] rfl rfl (List.Sublist.refl _) ⟨rfl, by first | rw [hM] | rfl⟩
 refine mA ?_
 refine R.eql rfl rfl rfl ?_
 refine R.pkFE rfl rfl cA ?_
 refine aA ?_
 refine nN (T.has Has.nil ?_)
 refine T.ret ?_
 have hM : k_8a a0 = (decide (((kindG a0) : Int) = 3)) := by rw [k_8a, if_neg g8]
 exact fin1L (v := .bool (decide (((kindG a0) : Int) = 3))) [] rfl rfl (List.Sublist.refl _) ⟨rfl, by first | rw [hM] | rfl⟩
def k_60 (a0 : List Int) : List Int → Nat → Bool → Bool
  | [], kl2, sl2 => sl2
  | yl2 :: ysl2, kl2, sl2 => LR.seq (if sl2 = true then (if (k_8a yl2) = true then (if (kl2 : Int) = 0 then true else ((decide ((a0.getD ((((kl2 : Int) - 1)).toNat) (0 : Int)) < yl2)))) else false) else false : Bool) (fun sc3 => if (!sc3) = true then sc3 else (k_60 a0 ysl2 (kl2 + 1) sc3))
def k_52 (a0 : List Int) : Int :=
  LR.seq (LR.seq (k_60 a0 a0 0 ((decide ((a0.length : Int) ≤ 12)))) (fun ol2 => ol2) : Bool) (fun sc1 => if (!sc1) = true then 130 else 0)
theorem types_Check_c (H : Heap) (va0 : Value) (a0 : List Int) (b5 : RdS (intE .u64) H va0 a0) : Fv Tryz.prog (fnv 185) [va0] H (.int .i64 (k_52 a0)) := by
 refine Fc.of_body (N := 39) func185 rfl kA rfl rfl ?_
 intro w0
 obtain ⟨b6, b7, rfl, hca0, hda0, b5⟩ := b5.shape
 refine sR (aA ?_)
 refine nN (T.scope ?_)
 refine sR (mA ?_)
 refine R.len underlying44 rfl rfl ?_
 refine R.leq rfl rfl rfl ?_
 refine aA ?_
 refine nN (T.seq (T.label (Post.thnN ?_)))
 refine T.seq (sR (mA ?_))
 refine R.len underlying44 rfl rfl ?_
 refine mA ?_
 refine nN (T.cutK (ι := Bool) (fun a5 H' L' ds' => Has L' [] ∧ (LR.seq (k_60 a0 a0 0 ((decide ((a0.length : Int) ≤ 12)))) (fun ol2 => ol2) : Bool) = a5) (fun a5 => [(3, .bool (a5))]) ?_ ?_)
 refine T.block (T.loop (ι := Nat × Bool) (fun ⟨a1, a2⟩ H' L' ds' => a1 ≤ a0.length ∧ Has L' [] ∧ k_60 a0 (a0.drop a1) a1 a2 = k_60 a0 a0 0 ((decide ((a0.length : Int) ≤ 12)))) (fun ⟨a1, a2⟩ => [(11, .int .i64 (a1 : Int)), (0, .slice b6 a0.length b7), (3, .bool (a2)), (9, .slice b6 a0.length b7), (10, .int .i64 (a0.length : Int))]) (fun ⟨a1, a2⟩ => a0.length - a1) (0, (decide ((a0.length : Int) ≤ 12))) ?_ ?_ ?_)
 exact ⟨oA, Has.nil, (by rfl)⟩
 exact ⟨rfl, rfl, rfl, rfl, rfl, trivial⟩
 intro ⟨a1, a2⟩ σ_l2 H_l2 L_l2 ds_l2 a4 a6
 obtain ⟨hkl2, a6⟩ := a6
 obtain ⟨hLl2, b1⟩ := a6
 refine T.has hLl2 ?_
 refine sR (R.lss rfl rfl rfl ?_)
 refine nN (T.seq (T.condD rfl (fun c12 => ?_) (fun c12 => ?_)))
 have hltl2 : a1 < a0.length := by omega
 obtain ⟨a7, b2⟩ := getk (xs := a0) (k := a1) oA
 refine T.skip (Post.thnN (T.seq ?_))
 refine T.block (sR (mA ?_))
 obtain ⟨b14, o14, i14, k14⟩ := RdS.elem (b5.mono a4) b2
 obtain ⟨l14, g14, k14⟩ := k14
 obtain rfl : l14 = [.int .u64 a7] := g14
 refine R.ixp underlying44 sizeOf39 rfl rfl rfl oA i14 ?_
 refine R.ldC isAgg39 rfl rfl (k14 0 _ rfl) ?_
 refine aA ?_
 refine aA ?_
 refine nN (T.seq (T.cutK (ι := Bool) (fun a3 H' L' ds' => Has L' [] ∧ (if a2 = true then (if (k_8a a7) = true then (if (a1 : Int) = 0 then true else ((decide ((a0.getD ((((a1 : Int) - 1)).toNat) (0 : Int)) < a7)))) else false) else false : Bool) = a3) (fun a3 => [(0, .slice b6 a0.length b7), (3, .bool (a3)), (9, .slice b6 a0.length b7), (10, .int .i64 (a0.length : Int)), (11, .int .i64 (a1 : Int))]) ?_ ?_))
 refine T.region (mA ?_)
 refine mA ?_
 refine TL.gsplit 17 rfl (fun a8 => ?_) (fun a8 => ?_)
 refine mA ?_
 refine R.callv rfl rfl rfl (types_may_c _ (a7)) ?_
 refine R.pkTE rfl rfl cA ?_
 refine mA ?_
 refine TL.gsplit 21 rfl (fun b8 => ?_) (fun b8 => ?_)
 refine mA ?_
 refine R.eql rfl rfl rfl ?_
 refine mA ?_
 refine TL.gsplitD 24 rfl (fun g24 => ?_) (fun g24 => ?_)
 refine oF ?_
 refine oF ?_
 refine oF ?_
 refine oF ?_
 refine oF ?_
 refine oF ?_
 refine oF ?_
 refine R.pkTE rfl rfl cA ?_
 refine R.pkTE rfl rfl cA ?_
 refine aA ?_
 refine nN ?_
 exact ⟨true, HLe.refl _, ⟨Has.nil, (by rw [if_t a8, if_t b8, if_pos g24])⟩, rfl, rfl, rfl, rfl, rfl, trivial⟩
 refine mA ?_
 refine mA ?_
 refine R.subI rfl rfl rfl oA ?_
 have b3 : (((a1 : Int) - 1)).toNat < a0.length := bA
 obtain ⟨y28, e28, h28⟩ : ∃ y, y = (a0.getD ((((a1 : Int) - 1)).toNat) (0 : Int)) ∧ a0[(((a1 : Int) - 1)).toNat]? = some y := ⟨_, rfl, k_46 (by first | exact b3 | simpa using b3 | (simp only [List.length_set]; omega) | omega | (rw [(k_26 _).length_eq]; exact b3))⟩
 obtain ⟨b28, o28, i28, k28⟩ := RdS.elem (b5.mono a4) h28
 obtain ⟨l28, g28, k28⟩ := k28
 obtain rfl : l28 = [.int .u64 y28] := g28
 refine R.ixp underlying44 sizeOf39 rfl rfl rfl bA i28 ?_
 refine R.ldC isAgg39 rfl rfl (k28 0 _ rfl) ?_
 refine mA ?_
 refine R.lss rfl rfl rfl ?_
 refine R.pkFE rfl rfl cA ?_
 refine R.pkTE rfl rfl cA ?_
 refine aA ?_
 refine nN ?_
 exact ⟨(decide (y28 < a7)), HLe.refl _, ⟨Has.nil, (by subst e28; rw [if_t a8, if_t b8, if_neg g24])⟩, rfl, rfl, rfl, rfl, rfl, trivial⟩
 refine oF ?_
 refine oF ?_
 refine oF ?_
 refine TL.offU rfl rfl ?_
 refine TL.offU rfl rfl ?_
 refine TL.offU rfl rfl ?_
 refine TL.offU rfl rfl ?_
 refine TL.offU rfl rfl ?_
 refine TL.offU rfl rfl ?_
 refine TL.offU rfl rfl ?_
 refine oF ?_
 refine R.pkFE rfl rfl cA ?_
 refine aA ?_
 refine nN ?_
 exact ⟨false, HLe.refl _, ⟨Has.nil, (by rw [if_t a8, if_f b8])⟩, rfl, rfl, rfl, rfl, rfl, trivial⟩
 refine oF ?_
 refine oF ?_
 refine R.pkFE rfl rfl cA ?_
 refine mA ?_
 refine oF ?_
 refine oF ?_
 refine oF ?_
 refine TL.offU rfl rfl ?_
 refine TL.offU rfl rfl ?_
 refine TL.offU rfl rfl ?_
 refine TL.offU rfl rfl ?_
 refine TL.offU rfl rfl ?_
 refine TL.offU rfl rfl ?_
 refine TL.offU rfl rfl ?_
 refine oF ?_
 refine R.pkFE rfl rfl cA ?_
 refine aA ?_
 refine nN ?_
 exact ⟨false, HLe.refl _, ⟨Has.nil, (by rw [if_f a8])⟩, rfl, rfl, rfl, rfl, rfl, trivial⟩
 intro a3 σ_c3 H_c3 L_c3 ds_c3 b9 c2
 obtain ⟨hLc3, c0⟩ := c2
 refine T.has hLc3 ?_
 refine sR (mA ?_)
 refine R.not rfl rfl ?_
 refine nN (T.cond rfl (fun a9 => ?_) (fun a9 => ?_))
 refine T.set 35 (.bool true) (congrArg Value.bool a9) ?_
 refine T.exit (Post.blkE rfl (Post.thnE (Post.thnE (Post.blkX ?_))))
 have b4 : k_60 a0 a0 0 ((decide ((a0.length : Int) ≤ 12))) = a3 := (by rw [← b1, k_8 b2, k_60]; rw [c0, LR.seq_go, if_t a9])
 refine id (Post.thnN ?_)
 exact ⟨a3, (a4.trans b9), ⟨Has.nil, (by rw [b4, LR.seq_go])⟩, rfl, trivial⟩
 refine T.set 35 (.bool false) (congrArg Value.bool a9) ?_
 refine T.skip (Post.blkN ?_)
 refine id (Post.thnN (T.region ?_))
 refine R.addI rfl rfl rfl oA ?_
 refine mA ?_
 refine nN ?_
 exact ⟨(a1 + 1, a3), (a4.trans b9), ⟨oA, Has.nil, (by rw [← b1, k_8 b2, k_60]; rw [c0, LR.seq_go, if_f a9])⟩, by show a0.length - (a1 + 1) < a0.length - a1; omega, rfl, rfl, rfl, rfl, rfl, trivial⟩
 refine T.exit (Post.thnE (Post.thnE (Post.blkX ?_)))
 have b4 : k_60 a0 a0 0 ((decide ((a0.length : Int) ≤ 12))) = a2 := (b1.symm.trans (by rw [show a1 = a0.length by omega, List.drop_length, k_60]))
 refine id (Post.thnN ?_)
 exact ⟨a2, a4, ⟨Has.nil, (by rw [b4, LR.seq_go])⟩, rfl, trivial⟩
 intro a5 σ_c1 H_c1 L_c1 ds_c1 s_c1 c3
 obtain ⟨hLc1, c1⟩ := c3
 refine T.has hLc1 ?_
 refine T.seq (sR (mA ?_))
 refine R.not rfl rfl ?_
 refine nN (T.cond rfl (fun b0 => ?_) (fun b0 => ?_))
 refine T.set 38 (.bool true) (congrArg Value.bool b0) ?_
 refine sR (aA ?_)
 refine nN (T.has Has.nil ?_)
 refine T.ret (Post.thnR (Post.ngR ?_))
 have hM : k_52 a0 = 130 := by rw [k_52, c1, LR.seq_go, if_t b0]
 exact fin1L (v := .int .i64 130) [] rfl rfl (List.Sublist.refl _) ⟨rfl, by first | rw [hM] | rfl⟩
 refine T.set 38 (.bool false) (congrArg Value.bool b0) ?_
 refine T.skip (Post.thnN (sR ?_))
 refine aA ?_
 refine nN (T.has Has.nil ?_)
 refine T.ret (Post.ngR ?_)
 have hM : k_52 a0 = 0 := by rw [k_52, c1, LR.seq_go, if_f b0]
 exact fin1L (v := .int .i64 0) [] rfl rfl (List.Sublist.refl _) ⟨rfl, by first | rw [hM] | rfl⟩
def k_55 (q1 : Int → Bool) : List Int → Unit → List Int
  | [], sl1 => []
  | yl1 :: ysl1, sl1 => if (q1 yl1) = true then (yl1 :: (k_55 q1 ysl1 ())) else (k_55 q1 ysl1 ())
def k_71 (q0 : List Int) (q1 : Int → Bool) : List Int :=
  if ((k_52 q0) : Int) ≠ 0 then [] else ((k_55 q1 q0 ()) ++ [])
theorem types_some_1_c (H : Heap) (b0 : Nat) (vq0 : Value) (q0 : List Int) (b1 : RdS (intE .u64) H vq0 q0) (hb0 : H b0 = some (.cells #[vq0] 44)) (a5 : Nat) (fq1 : Value) (q1 : Int → Bool) (hq1 : ∀ H', HLe H H' → ∀ (z0 : Int), Fv Tryz.prog fq1 [.int .u64 z0] H' (.bool (q1 z0))) (nq1 : fq1.oneCell' = true) (hb1 : H a5 = some (.cells #[fq1] 154)) : Iter Tryz.prog (.func (.func 201) #[] ([.pointer (some ⟨b0, 0, none⟩), .pointer (some ⟨a5, 0, none⟩)] : List Value).toArray) Y154 H (k_71 q0 q1) := by
 intro l J Jx H1 Lc s1 hJ hJx hY h0
 obtain ⟨Aq0, cq0, rfl, hcq0, hdq0, b1⟩ := b1.shape
 refine Fc.of_body (N := 25) func201 rfl kA rfl rfl ?_
 intro w0
 refine T.seq (sR (R.ldH isAgg44 rfl rfl (s1 _ _ hb0) rfl ?_))
 refine R.callv rfl rfl rfl (types_Check_c _ _ q0 (b1.mono s1)) ?_
 refine R.neq rfl rfl rfl ?_
 refine nN (T.condD rfl (fun c8 => ?_) (fun c8 => ?_))
 refine T.set 8 (.bool true) (congrArg Value.bool (decide_eq_true c8)) ?_
 refine T.ret (Post.thnR ?_)
 have hM : k_71 q0 q1 = [] := by rw [k_71, if_pos c8] <;> simp
 exact fin0L Lc rfl (List.Sublist.refl _) (.inl (by rw [hM]; exact h0))
 refine T.set 8 (.bool false) (congrArg Value.bool (decide_eq_false c8)) ?_
 refine T.skip (Post.thnN (sR ?_))
 refine R.ldH isAgg44 rfl rfl (s1 _ _ hb0) rfl ?_
 refine R.len underlying44 rfl rfl ?_
 refine mA ?_
 refine nN (T.block (T.loop (ι := Nat × (List Int) × Own) (fun ⟨a1, a0, a3⟩ H' L' ds' => a1 ≤ q0.length ∧ Has L' (a3) ∧ J a0 H' a3 ∧ a0 ++ k_55 q1 (q0.drop a1) () = k_55 q1 q0 ()) (fun ⟨a1, a0, a3⟩ => [(11, .int .i64 (a1 : Int)), (0, yieldv l), (2, .pointer (some ⟨a5, 0, none⟩)), (9, .slice Aq0 q0.length cq0), (10, .int .i64 (q0.length : Int))]) (fun ⟨a1, a0, a3⟩ => q0.length - a1) (0, [], Lc) ?_ ?_ ?_))
 exact ⟨oA, (Has.refl _), (by simpa using h0), (by rfl)⟩
 exact ⟨rfl, rfl, rfl, rfl, rfl, trivial⟩
 intro ⟨a1, a0, a3⟩ σ_l1 H_l1 L_l1 ds_l1 a2 a6
 obtain ⟨hkl1, a6⟩ := a6
 obtain ⟨hLl1, a9, a7⟩ := a6
 refine T.has hLl1 ?_
 refine sR (R.lss rfl rfl rfl ?_)
 refine nN (T.seq (T.condD rfl (fun c12 => ?_) (fun c12 => ?_)))
 have hltl1 : a1 < q0.length := by omega
 obtain ⟨a4, a8⟩ := getk (xs := q0) (k := a1) oA
 refine T.skip (Post.thnN (T.seq ?_))
 refine T.block (sR ?_)
 obtain ⟨b13, o13, i13, k13⟩ := RdS.elem (b1.mono (s1.trans a2)) a8
 obtain ⟨l13, g13, k13⟩ := k13
 obtain rfl : l13 = [.int .u64 a4] := g13
 refine R.ixp underlying44 sizeOf39 rfl rfl rfl oA i13 ?_
 refine R.ldC isAgg39 rfl rfl (k13 0 _ rfl) ?_
 refine aA ?_
 refine nN (sR (R.ldH isAgg154 rfl rfl ((s1.trans a2) _ _ hb1) rfl ?_))
 refine mA ?_
 refine R.callv rfl rfl rfl (hq1 _ (s1.trans a2) (a4)) ?_
 refine mA ?_
 refine TL.gsplit 18 rfl (fun b2 => ?_) (fun b2 => ?_)
 refine mA ?_
 refine mA ?_
 have b3 : (a0 ++ [a4]) <+: k_55 q1 q0 () := by rw [← a7, k_8 a8, k_55]; rw [if_t b2]; exact (pf_app pf_one)
 have b4 : (a0 ++ [a4]) <+: k_71 q0 q1 := by rw [k_71, if_neg c8]; exact (pf_l b3)
 have b5 : (a0 ++ [a4]) <+: k_71 q0 q1 := by simpa [List.append_assoc] using b4
 refine TL.callT 0 rfl rfl rfl (hY a0 a4 _ H_l1 a3 a2 b5 a9 rfl) ?_
 intro v21 H21 L21 s21 q21
 rcases q21 with ⟨rfl, j21⟩ | ⟨rfl, j21⟩
 refine R.not rfl rfl ?_
 refine R.pkTE rfl rfl cA ?_
 refine nN (T.condN rfl ?_)
 refine T.skip (Post.blkN ?_)
 refine id (Post.thnN (T.region ?_))
 refine R.addI rfl rfl rfl oA ?_
 refine mA ?_
 refine nN ?_
 exact ⟨(a1 + 1, (a0 ++ [a4]), L21), (a2.trans s21), ⟨oA, (Has.refl _), (by simpa [List.append_assoc] using j21), (by (rw [← a7, k_8 a8, k_55]; rw [if_t b2]) <;> simp)⟩, by show q0.length - (a1 + 1) < q0.length - a1; omega, rfl, rfl, rfl, rfl, rfl, trivial⟩
 refine R.not rfl rfl ?_
 refine R.pkTE rfl rfl cA ?_
 refine nN (T.condY rfl ?_)
 refine T.ret (Post.blkR (Post.thnR (Post.thnR (Post.blkR ?_))))
 exact fin0L L21 rfl (List.Sublist.refl _) (.inr ⟨a0, a4, b5, j21⟩)
 refine oF ?_
 refine oF ?_
 refine oF ?_
 refine oF ?_
 refine R.pkFE rfl rfl cA ?_
 refine nN (T.condN rfl ?_)
 refine T.skip (Post.blkN ?_)
 refine id (Post.thnN (T.region ?_))
 refine R.addI rfl rfl rfl oA ?_
 refine mA ?_
 refine nN ?_
 exact ⟨(a1 + 1, a0, a3), a2, ⟨oA, (Has.refl _), (by simpa [List.append_assoc] using a9), (by (rw [← a7, k_8 a8, k_55]; rw [if_f b2]) <;> simp)⟩, by show q0.length - (a1 + 1) < q0.length - a1; omega, rfl, rfl, rfl, rfl, rfl, trivial⟩
 refine T.exit (Post.thnE (Post.thnE (Post.blkX ?_)))
 have hEl1 : k_55 q1 q0 () = a0 := (by rw [← a7, show a1 = q0.length by omega, List.drop_length, k_55] <;> simp)
 refine id ?_
 have hM : k_71 q0 q1 = a0 := by rw [k_71, if_neg c8, hEl1] <;> simp
 exact fin0N a3 rfl (List.Sublist.refl _) (.inl (by rw [hM]; exact a9))
def k_a3 (a0 : List Int) (a1 : Int → Bool) : (List Int) :=
  (k_71 a0 a1)
theorem types_some_c (H : Heap) (va0 : Value) (a0 : List Int) (ha0 : RdS (intE .u64) H va0 a0) (a3 : Value) (a1 : Int → Bool) (ha1 : ∀ H', HLe H H' → ∀ (z0 : Int), Fv Tryz.prog a3 [.int .u64 z0] H' (.bool (a1 z0))) (na1 : a3.oneCell' = true) : Fp Tryz.prog (fnv 144) [va0, a3] H (fun v' H' => ∃ a5, v' = .func (.func 201) #[] a5 ∧ Iter Tryz.prog (.func (.func 201) #[] a5) Y154 H' (k_a3 a0 a1)) := by
 refine Fc.of_body (N := 6) func144 rfl kA rfl rfl ?_
 intro w0
 obtain ⟨Aa0, ca0, rfl, hca0, hda0, ha0⟩ := ha0.shape
 refine sR (R.box rfl cA ?_)
 intro b2
 refine R.box rfl cA ?_
 intro b3
 rw [pf_cells na1]
 refine aA ?_
 refine TL.shut .hd ?_
 intro a6 a4 a7
 have a8 : a6 b3 = some (.cells #[a3] 154) := shut1 a7
 refine TL.shut .hd ?_
 intro a9 a2 b0
 have b1 : a9 b2 = some (.cells #[.slice Aa0 a0.length ca0] 44) := shut1 b0
 refine nN (sR (R.mkf (cs := [_, _]) rfl rfl ?_))
 refine aA ?_
 refine nN (T.has Has.nil ?_)
 refine T.ret ?_
 have hM : k_a3 a0 a1 = (k_71 a0 a1) := by rw [k_a3]
 exact fin1L (v := .func (.func 201) #[] ([.pointer (some ⟨b2, 0, none⟩), .pointer (some ⟨b3, 0, none⟩)] : List Value).toArray) [] rfl rfl (List.Sublist.refl _) ⟨rfl, ([.pointer (some ⟨b2, 0, none⟩), .pointer (some ⟨b3, 0, none⟩)] : List Value).toArray, by first | rw [hM] | rfl, by rw [hM]; exact (types_some_1_c _ b2 _ a0 (ha0.mono (a4.trans a2)) b1 b3 _ a1 (fun H' h' => ha1 H' ((a4.trans a2).trans h')) na1 (a2 _ _ a8))⟩
theorem some_l1 (p : Int → Bool) : ∀ (l : List Int), k_55 p l () = l.filter p
  | [] => rfl
  | y :: ys => by
    rw [k_55, List.filter_cons, some_l1 p ys]
theorem some_eq (l : List Int) (p : Int → Bool) : k_a3 l p = if k_52 l = 0 then l.filter p else [] := by
  unfold k_a3 k_71
  by_cases h : k_52 l = 0
  · rw [if_neg (fun q => q h), if_pos h, some_l1, List.append_nil]
  · rw [if_pos h, if_neg h]
theorem some_len (l : List Int) (p : Int → Bool) (r : List Int) (e : r = k_a3 l p) : r.length ≤ l.length := by
  rw [e, some_eq]; split
  · exact List.length_filter_le _ _
  · exact Nat.zero_le _
def k_6d (q0 : Int → Int → Bool) (a0 : Int) : Bool :=
  LR.seq (k_1 a0) (fun r8 => if ((kindG a0) : Int) = 3 then ((q0 r8.1 r8.2)) else false)
theorem types_pairs_1_c (H : Heap) (a1 : Nat) (fq0 : Value) (q0 : Int → Int → Bool) (hq0 : ∀ H', HLe H H' → ∀ (z0 : Int) (z1 : Int), Fv Tryz.prog fq0 [.int .i64 z0, .int .i64 z1] H' (.bool (q0 z0 z1))) (nq0 : fq0.oneCell' = true) (hb0 : H a1 = some (.cells #[fq0] 130)) (a0 : Int) : Fv Tryz.prog (.func (.func 145) #[] ([.pointer (some ⟨a1, 0, none⟩)] : List Value).toArray) [.int .u64 a0] H (.bool (k_6d q0 a0)) := by
 refine Fc.of_body (N := 20) func145 rfl kA rfl rfl ?_
 intro w0
 refine sR (aA ?_)
 refine nN (sR (mA ?_))
 obtain ⟨r8, er8⟩ : ∃ r, r = (k_1 a0) := ⟨_, rfl⟩
 refine R.callv (v := .tuple #[.int .i64 r8.1, .int .i64 r8.2]) rfl rfl rfl (by rw [er8]; exact k_57 _ (a0)) ?_
 refine mA ?_
 refine R.ext rfl rfl rfl ?_
 refine R.ext rfl rfl rfl ?_
 refine aA ?_
 refine aA ?_
 refine nN (sR (mA ?_))
 refine R.callv rfl rfl rfl (kindG_c _ a0) ?_
 refine R.eql rfl rfl rfl ?_
 refine mA ?_
 refine TL.gsplitD 14 rfl (fun g14 => ?_) (fun g14 => ?_)
 refine R.ldH isAgg130 rfl rfl hb0 rfl ?_
 refine mA ?_
 refine mA ?_
 refine R.callv rfl rfl rfl (hq0 _ (HLe.refl _) (r8.1) (r8.2)) ?_
 refine R.pkTE rfl rfl cA ?_
 refine aA ?_
 refine nN (T.has Has.nil ?_)
 refine T.ret ?_
 have hM : k_6d q0 a0 = (q0 r8.1 r8.2) := by subst er8; rw [k_6d, LR.seq_go, if_pos g14]
 exact fin1L (v := .bool ((q0 r8.1 r8.2))) [] rfl rfl (List.Sublist.refl _) ⟨rfl, by first | rw [hM] | rfl⟩
 refine oF ?_
 refine oF ?_
 refine oF ?_
 refine oF ?_
 refine R.pkFE rfl rfl cA ?_
 refine aA ?_
 refine nN (T.has Has.nil ?_)
 refine T.ret ?_
 have hM : k_6d q0 a0 = false := by subst er8; rw [k_6d, LR.seq_go, if_neg g14]
 exact fin1L (v := .bool false) [] rfl rfl (List.Sublist.refl _) ⟨rfl, by first | rw [hM] | rfl⟩
def k_a0 (a0 : List Int) (a1 : Int → Int → Bool) : (List Int) :=
  LR.seq (k_a3 a0 ((fun z0 => k_6d a1 z0))) (fun r7 => r7)
theorem types_pairs_c (H : Heap) (va0 : Value) (a0 : List Int) (ha0 : RdS (intE .u64) H va0 a0) (a3 : Value) (a1 : Int → Int → Bool) (ha1 : ∀ H', HLe H H' → ∀ (z0 : Int) (z1 : Int), Fv Tryz.prog a3 [.int .i64 z0, .int .i64 z1] H' (.bool (a1 z0 z1))) (na1 : a3.oneCell' = true) : Fp Tryz.prog (fnv 65) [va0, a3] H (fun v' H' => ∃ a5, v' = .func (.func 201) #[] a5 ∧ Iter Tryz.prog (.func (.func 201) #[] a5) Y154 H' (k_a0 a0 a1)) := by
 refine Fc.of_body (N := 8) func65 rfl kA rfl rfl ?_
 intro w0
 obtain ⟨Aa0, ca0, rfl, hca0, hda0, ha0⟩ := ha0.shape
 refine sR (R.box rfl cA ?_)
 intro b3
 rw [pf_cells na1]
 refine aA ?_
 refine TL.shut .hd ?_
 intro a7 a4 a8
 have a9 : a7 b3 = some (.cells #[a3] 130) := shut1 a8
 refine nN (sR (mA ?_))
 refine R.mkf (cs := [_]) rfl rfl ?_
 obtain ⟨r7, er7⟩ : ∃ r, r = (k_a3 a0 ((fun z0 => k_6d a1 z0))) := ⟨_, rfl⟩
 refine R.callp rfl rfl rfl (types_some_c _ _ a0 (ha0.mono a4) _ (fun z0 => k_6d a1 z0) (fun H2 h2 z0 => types_pairs_1_c H2 b3 _ a1 (fun H' h' => ha1 H' ((a4.trans h2).trans h')) na1 (h2 _ _ a9) z0) rfl) ?_
 intro v7 H7 s7 q7
 rw [← er7] at q7
 obtain ⟨a2, rfl, a6⟩ := q7
 have ts7 := some_len _ _ _ er7
 refine aA ?_
 refine nN (T.has Has.nil ?_)
 refine T.ret ?_
 have hM : k_a0 a0 a1 = r7 := by subst er7; rw [k_a0, LR.seq_go]
 exact fin1L (v := .func (.func 201) #[] a2) [] rfl rfl (List.Sublist.refl _) ⟨rfl, a2, by first | rw [hM] | rfl, by rw [hM]; exact a6⟩
theorem pairs_len (l : List Int) (p : Int → Int → Bool) (r : List Int) (e : r = k_a0 l p) : r.length ≤ l.length := by
  unfold k_a0 at e
  rw [LR.seq_go] at e
  exact some_len _ _ _ e
def k_43 (a1 : Int → Int) : List Int → ((List Int)) → (List Int)
  | [], sr1 => sr1
  | yr1 :: ysr1, sr1 => k_43 a1 ysr1 ((sr1 ++ [(a1 yr1)]))
def k_6a (a0 : List Int) (a1 : Int → Int) : (List Int) :=
  LR.seq (k_43 a1 a0 []) (fun or1 => or1)
theorem types_gather_int_c (H : Heap) (ga0 : Nat) (la0 : Array Value) (a0 : List Int) (ea0 : Go.Proofs.Enters Tryz.prog ga0) (ha0 : Iter Tryz.prog (.func (.func ga0) #[] la0) Y154 H a0) (b9 : Value) (a1 : Int → Int) (ha1 : ∀ H', HLe H H' → ∀ (z0 : Int), Fv Tryz.prog b9 [.int .u64 z0] H' (.int .i64 (a1 z0))) (na1 : b9.oneCell' = true) (hl : a0.length ≤ 4000000) : Fc Tryz.prog (fnv 64) [.func (.func ga0) #[] la0, b9] H [] (fun v' H' L' => ∃ c5 c6, v' = c5 ∧ L' = [c6] ∧ OwnS (intE .i64) 3 H' c5 (k_6a a0 a1) c6) := by
 refine Fc.of_body (N := 16) func64 rfl kA rfl rfl ?_
 intro w0
 refine sR (R.box rfl cA ?_)
 intro b3
 rw [pf_cells na1]
 refine aA ?_
 refine TL.shut .hd ?_
 intro c8 c0 c9
 have d0 : c8 b3 = some (.cells #[b9] 90) := shut1 c9
 refine nN (sR (R.alloc zeroValue25 rfl ?_))
 intro b5
 refine nN (T.seq (sR (mA ?_)))
 refine nN (T.block (T.rangeFunc (xs := a0) rfl rfl ea0 (Iter.mono ha0 c0) (fun _ _ _ h => by subst h; rfl) rfl (fun pre H' L' => ∃ (a6 : Value) (a2 : List Int) (a3 : Chunk), Has L' [[(b5, .cells #[a6] 25)], a3] ∧ OwnS (intE .i64) 3 H' a6 a2 a3 ∧ a2.length = pre.length ∧ k_43 a1 (a0.drop pre.length) a2 = k_43 a1 a0 []) (fun _ _ _ _ => False) (fun pre H H' L hle ⟨a6, a2, a3, hL, a4, hB0, hQ⟩ => ⟨a6, a2, a3, hL, (a4.mono hle), hB0, hQ⟩) (fun _ _ _ _ _ _ h => h) ?_ ?_ ?_ ?_))
 exact ⟨.slice none 0 0, [], [], (Has.cons .hd (Has.none Has.nil)), OwnS.nil, bA, (by rfl)⟩
 intro lr1 rr1 wr1 c1 a5 vsr1 c2 Lr1 c3 b2 a9 hYr1
 obtain ⟨a6, a2, a3, b7, a4, c7, b4⟩ := a9
 obtain ⟨a7, a8, rfl, c4, b8⟩ := OwnS.shape a4
 obtain rfl := hYr1
 refine T.has b7 ?_
 have hlpr1 : c1.length + 1 ≤ a0.length := by have h0 := b2.length_le; simpa using h0
 refine T.region (aA ?_)
 refine TL.nil (onlyN.mk ?_)
 refine T.block (T.draw k_2f kA ?_)
 refine vA 1 [0, 2, 3, 4, 5, 6] rfl (fun _ _ h_ => R.ldH isAgg90 rfl rfl (c3 _ _ d0) rfl (TL.nil h_)) ?_
 refine vM 2 [0, 3, 4, 5, 6] rfl rfl cA ?_
 refine vA 3 [0, 4, 5, 6] rfl (fun _ _ h_ => R.callv rfl rfl rfl (ha1 _ (c0.trans c3) (a5)) (TL.nil h_)) ?_
 refine Plan.s2 0 4 [4, 5, 6] [0, 5, 6] kA kA kA rfl rfl ?_ ?_
 refine R.ld isAgg25 rfl rfl .hd rfl ?_
 refine eA ?_
 refine Plan.s1 4 [5, 6] kA kA rfl ?_
 refine R.bs rfl (k_4 underlying25 sizeOf3 zeroValue3 rfl rfl) ?_
 intro b13
 have w13 := lit1 (E := (intE .i64)) (e := 3) (H := c2) (b := b13) (y := (a1 a5)) (a := [.int .i64 (a1 a5)]) rfl
 rotate_left
 refine R.bs rfl (k_4 underlying25 sizeOf3 zeroValue3 rfl rfl) ?_
 intro b13
 have w13 := lit1 (E := (intE .i64)) (e := 3) (H := c2) (b := b13) (y := (a1 a5)) (a := [.int .i64 (a1 a5)]) rfl
 refine eA ?_
 refine Plan.s1 0 [5, 6] kA kA rfl ?_
 refine R.ld isAgg25 rfl rfl (.tl .hd) rfl ?_
 rotate_left
 intro Dr1 c2 Lr1 c3 a9
 obtain ⟨a6, a2, a3, b7, a4, c7, b4⟩ := a9
 obtain ⟨a7, a8, rfl, c4, b8⟩ := OwnS.shape a4
 have hEr1 : k_43 a1 a0 [] = a2 := by rw [← b4, List.drop_length, k_43]
 refine id (Post.blkN ?_)
 refine id (Post.thnN (T.has b7 ?_))
 refine sR (R.ld isAgg25 rfl rfl .hd rfl ?_)
 refine aA ?_
 refine nN (T.has (Has.cons (.tl .hd) Has.nil) ?_)
 refine T.ret ?_
 have hM : k_6a a0 a1 = a2 := by rw [k_6a, hEr1, LR.seq_go]
 exact fin1L (v := sl a7 a2 a8) [a3] rfl rfl (List.Sublist.refl _) ⟨sl a7 a2 a8, a3, by first | rw [hM] | rfl, rfl, by rw [hM]; exact a4⟩
 intro Dr1 cr1 c1 a5 c2 Lr1 c3 b2 a9
 exact a9.elim
 all_goals (
  refine eA ?_
  refine Plan.s1 5 [6] kA kA rfl ?_
  obtain ⟨k14, y14, r14⟩ := Src.ownA w13
  refine R.app (E := (intE .i64)) (e := 3) (xs := a2) (ys := [(a1 a5)]) k_aa rfl rfl rfl a4 (.tl (.tl .hd)) (r14 _ .hd) y14 lA lA ?_
  intro v14 c14 b6
  obtain ⟨b0, b1, rfl, m14, n14⟩ := OwnS.shape b6
  refine TL.del (.tl .hd) ?_
  refine eA ?_
  refine Plan.s1 6 [] kA kA rfl ?_
  refine stY (l := [sl b0 (a2 ++ [(a1 a5)]) b1]) (new := [sl b0 (a2 ++ [(a1 a5)]) b1]) (.tl .hd) sizeOf25 rfl (cells1 rfl) ?_
  refine eB ?_
  refine Plan.done (Post.blkN ?_)
  refine id ?_
  exact ⟨sl b0 (a2 ++ [(a1 a5)]) b1, (a2 ++ [(a1 a5)]), c14, (Has.cons (.tl .hd) (Has.cons .hd Has.nil)), b6, bA, (by rw [← b4, drop_pre b2, k_43])⟩)
theorem gatherI_eq (g : Int → Int) : ∀ (l a : List Int), k_43 g l a = a ++ l.map g
  | [], a => by simp [k_43]
  | y :: ys, a => by rw [k_43, gatherI_eq g ys]; simp
theorem gatherI_m (l : List Int) (g : Int → Int) : k_6a l g = l.map g := by
  unfold k_6a
  simp only [LR.seq_go]
  rw [gatherI_eq, List.nil_append]
theorem gather_len (l : List Int) (g : Int → Int) (r : List Int) (e : r = k_6a l g) : r.length = l.length := by
  rw [e, gatherI_m, List.length_map]
def k_76 (q0 : Int) (a0 : Int) (a1 : Int) : Bool :=
  (decide (a0 = q0))
theorem types_Targets_1_c (H : Heap) (a2 : Nat) (q0 : Int) (hb0 : H a2 = some (.cells #[.int .i64 q0] 3)) (a0 : Int) (a1 : Int) : Fv Tryz.prog (.func (.func 66) #[] ([.pointer (some ⟨a2, 0, none⟩)] : List Value).toArray) [.int .i64 a0, .int .i64 a1] H (.bool (k_76 q0 a0 a1)) := by
 refine Fc.of_body (N := 9) func66 rfl kA rfl rfl ?_
 intro w0
 refine sR (aA ?_)
 refine nN (sR (mA ?_))
 refine R.ldH isAgg3 rfl rfl hb0 rfl ?_
 refine R.eql rfl rfl rfl ?_
 refine aA ?_
 refine nN (T.has Has.nil ?_)
 refine T.ret ?_
 have hM : k_76 q0 a0 a1 = (decide (a0 = q0)) := by rw [k_76]
 exact fin1L (v := .bool (decide (a0 = q0))) [] rfl rfl (List.Sublist.refl _) ⟨rfl, by first | rw [hM] | rfl⟩
def k_8e (a0 : Int) : Int :=
  LR.seq (k_1 a0) (fun r7 => r7.2)
theorem types_Targets_2_c (H : Heap) (a0 : Int) : Fv Tryz.prog (fnv 67) [.int .u64 a0] H (.int .i64 (k_8e a0)) := by
 refine Fc.of_body (N := 11) func67 rfl kA rfl rfl ?_
 intro w0
 refine sR (aA ?_)
 refine nN (sR (mA ?_))
 obtain ⟨r7, er7⟩ : ∃ r, r = (k_1 a0) := ⟨_, rfl⟩
 refine R.callv (v := .tuple #[.int .i64 r7.1, .int .i64 r7.2]) rfl rfl rfl (by rw [er7]; exact k_57 _ (a0)) ?_
 refine mA ?_
 refine R.ext rfl rfl rfl ?_
 refine R.ext rfl rfl rfl ?_
 refine aA ?_
 refine aA ?_
 refine nN (sR (mA ?_))
 refine aA ?_
 refine nN (T.has Has.nil ?_)
 refine T.ret ?_
 have hM : k_8e a0 = r7.2 := by subst er7; rw [k_8e, LR.seq_go]
 exact fin1L (v := .int .i64 (r7.2)) [] rfl rfl (List.Sublist.refl _) ⟨rfl, by first | rw [hM] | rfl⟩
def k_4f (a0 : List Int) (a1 : Int) : (List Int) :=
  LR.seq (k_a0 a0 ((fun z0 z1 => k_76 a1 z0 z1))) (fun r7 => LR.seq (k_6a r7 ((fun z0 => k_8e z0))) (fun r8 => r8))
theorem types_Targets_c (H : Heap) (va0 : Value) (a0 : List Int) (ha0 : RdS (intE .u64) H va0 a0) (a1 : Int) (hl : a0.length ≤ 4000000) : Fc Tryz.prog (fnv 18) [va0, .int .i64 a1] H [] (fun v' H' L' => ∃ a6 a7, v' = a6 ∧ L' = [a7] ∧ OwnS (intE .i64) 3 H' a6 (k_4f a0 a1) a7) := by
 refine Fc.of_body (N := 9) func18 rfl kA rfl rfl ?_
 intro w0
 obtain ⟨Aa0, ca0, rfl, hca0, hda0, ha0⟩ := ha0.shape
 refine sR (R.box rfl cA ?_)
 intro b3
 refine aA ?_
 refine TL.shut .hd ?_
 intro a9 b0 b1
 have b2 : a9 b3 = some (.cells #[.int .i64 a1] 3) := shut1 b1
 refine nN (sR (mA ?_))
 refine R.mkf (cs := [_]) rfl rfl ?_
 obtain ⟨r7, er7⟩ : ∃ r, r = (k_a0 a0 ((fun z0 z1 => k_76 a1 z0 z1))) := ⟨_, rfl⟩
 refine R.callp rfl rfl rfl (types_pairs_c _ _ a0 (ha0.mono b0) _ (fun z0 z1 => k_76 a1 z0 z1) (fun H2 h2 z0 z1 => types_Targets_1_c H2 b3 (a1) (h2 _ _ b2) z0 z1) rfl) ?_
 intro v7 H7 s7 q7
 rw [← er7] at q7
 obtain ⟨u7_0_0, rfl, a8⟩ := q7
 have ts7 := pairs_len _ _ _ er7
 obtain ⟨r8, er8⟩ : ∃ r, r = (k_6a r7 ((fun z0 => k_8e z0))) := ⟨_, rfl⟩
 refine TL.call [] rfl rfl rfl (types_gather_int_c _ _ _ r7 (enters_of func201 kA rfl) a8 _ (fun z0 => k_8e z0) (fun H2 h2 z0 => types_Targets_2_c H2 z0) rfl bA) ?_
 intro v8 H8 L8 s8 q8
 rw [← er8] at q8
 obtain ⟨u8_0_0, a2, rfl, rfl, a3⟩ := q8
 obtain ⟨a4, a5, rfl, m8_0_0, n8_0_0⟩ := OwnS.shape a3
 have tg8 := gather_len _ _ _ er8
 refine aA ?_
 refine nN (T.has (Has.cons .hd Has.nil) ?_)
 refine T.ret ?_
 have hM : k_4f a0 a1 = r8 := by subst er8; subst er7; rw [k_4f, LR.seq_go, LR.seq_go]
 exact fin1L (v := sl a4 r8 a5) [a2] rfl rfl (List.Sublist.refl _) ⟨sl a4 r8 a5, a2, by first | rw [hM] | rfl, rfl, by rw [hM]; exact a3⟩
theorem targets_len (l : List Int) (p : Int) (r : List Int) (e : r = k_4f l p) : r.length ≤ l.length := by
  unfold k_4f at e
  simp only [LR.seq_go] at e
  rw [e, gatherI_m, List.length_map]
  exact pairs_len _ _ _ rfl
end Go.SX
namespace Go.SX
open Go Go.Proofs Go.Proofs.Tryz
def k_b5 (a0 : Int) : Bool :=
  (decide (a0 ≠ a0))
theorem cmp_isNaN_Id_c (H : Heap) (a0 : Int) : Fv Tryz.prog (fnv 213) [.int .u64 a0] H (.bool (k_b5 a0)) := by
 refine Fc.of_body (N := 6) func213 rfl kA rfl rfl ?_
 intro w0
 refine sR (aA ?_)
 refine nN (sR (mA ?_))
 refine mA ?_
 refine R.neq rfl rfl rfl ?_
 refine aA ?_
 refine nN (T.has Has.nil ?_)
 refine T.ret ?_
 have hM : k_b5 a0 = (decide (a0 ≠ a0)) := by rw [k_b5]
 exact fin1L (v := .bool (decide (a0 ≠ a0))) [] rfl rfl (List.Sublist.refl _) ⟨rfl, by first | rw [hM] | rfl⟩
def k_9e (a0 : Int) (a1 : Int) : Bool :=
  if (k_b5 a0) = true then (if (!(k_b5 a1)) = true then true else ((decide (a0 < a1)))) else ((decide (a0 < a1)))
theorem cmp_Less_Id_c (H : Heap) (a0 : Int) (a1 : Int) : Fv Tryz.prog (fnv 181) [.int .u64 a0, .int .u64 a1] H (.bool (k_9e a0 a1)) := by
 refine Fc.of_body (N := 17) func181 rfl kA rfl rfl ?_
 intro w0
 refine sR (aA ?_)
 refine nN (sR (mA ?_))
 refine R.callv rfl rfl rfl (cmp_isNaN_Id_c _ (a0)) ?_
 refine mA ?_
 refine TL.gsplit 7 rfl (fun g7 => ?_) (fun g7 => ?_)
 refine mA ?_
 refine R.callv rfl rfl rfl (cmp_isNaN_Id_c _ (a1)) ?_
 refine R.not rfl rfl ?_
 refine R.pkTE rfl rfl cA ?_
 refine mA ?_
 refine TL.gsplit 12 rfl (fun g12 => ?_) (fun g12 => ?_)
 refine oF ?_
 refine oF ?_
 refine oF ?_
 refine R.pkTE rfl rfl cA ?_
 refine aA ?_
 refine nN (T.has Has.nil ?_)
 refine T.ret ?_
 have hM : k_9e a0 a1 = true := by rw [k_9e, if_t g7, if_t g12]
 exact fin1L (v := .bool true) [] rfl rfl (List.Sublist.refl _) ⟨rfl, by first | rw [hM] | rfl⟩
 refine mA ?_
 refine mA ?_
 refine R.lss rfl rfl rfl ?_
 refine R.pkFE rfl rfl cA ?_
 refine aA ?_
 refine nN (T.has Has.nil ?_)
 refine T.ret ?_
 have hM : k_9e a0 a1 = (decide (a0 < a1)) := by rw [k_9e, if_t g7, if_f g12]
 exact fin1L (v := .bool (decide (a0 < a1))) [] rfl rfl (List.Sublist.refl _) ⟨rfl, by first | rw [hM] | rfl⟩
 refine oF ?_
 refine oF ?_
 refine oF ?_
 refine R.pkFE rfl rfl cA ?_
 refine mA ?_
 refine mA ?_
 refine mA ?_
 refine R.lss rfl rfl rfl ?_
 refine R.pkFE rfl rfl cA ?_
 refine aA ?_
 refine nN (T.has Has.nil ?_)
 refine T.ret ?_
 have hM : k_9e a0 a1 = (decide (a0 < a1)) := by rw [k_9e, if_f g7]
 exact fin1L (v := .bool (decide (a0 < a1))) [] rfl rfl (List.Sublist.refl _) ⟨rfl, by first | rw [hM] | rfl⟩
def k_81 (a0 : Int) : Bool :=
  (decide (a0 ≠ a0))
theorem slices_isNaN_Id_c (H : Heap) (a0 : Int) : Fv Tryz.prog (fnv 182) [.int .u64 a0] H (.bool (k_81 a0)) := by
 refine Fc.of_body (N := 6) func182 rfl kA rfl rfl ?_
 intro w0
 refine sR (aA ?_)
 refine nN (sR (mA ?_))
 refine mA ?_
 refine R.neq rfl rfl rfl ?_
 refine aA ?_
 refine nN (T.has Has.nil ?_)
 refine T.ret ?_
 have hM : k_81 a0 = (decide (a0 ≠ a0)) := by rw [k_81]
 exact fin1L (v := .bool (decide (a0 ≠ a0))) [] rfl rfl (List.Sublist.refl _) ⟨rfl, by first | rw [hM] | rfl⟩
def k_1f (a0 : List Int) (a1 : Int) : Nat → (Int × Int) → Int × Int
  | 0, _ => default
  | ml1 + 1, sl1 => if sl1.1 < sl1.2 then (if (k_9e (a0.getD (((IntKind.i64.wrap (bshr .u64 (IntKind.u64.wrap (sl1.1 + sl1.2)) 1))).toNat) (0 : Int)) a1) = true then (k_1f a0 a1 ml1 ((((IntKind.i64.wrap (bshr .u64 (IntKind.u64.wrap (sl1.1 + sl1.2)) 1)) + 1), sl1.2))) else (k_1f a0 a1 ml1 ((sl1.1, (IntKind.i64.wrap (bshr .u64 (IntKind.u64.wrap (sl1.1 + sl1.2)) 1)))))) else ((sl1.1, sl1.2))
def k_13 (a0 : List Int) (a1 : Int) : Int × Bool :=
  LR.seq (k_1f a0 a1 ((((a0.length : Int)) - 0).toNat + 1) ((0, (a0.length : Int)))) (fun ol1 => if ol1.1 < (a0.length : Int) then (if (a0.getD ol1.1.toNat (0 : Int)) = a1 then ((ol1.1, true)) else (if (k_81 (a0.getD ol1.1.toNat (0 : Int))) = true then ((ol1.1, (k_81 a1))) else ((ol1.1, false)))) else ((ol1.1, false)))
theorem k_b6 (H : Heap) (va0 : Value) (a0 : List Int) (b0 : RdS (intE .u64) H va0 a0) (a1 : Int) (hl : a0.length ≤ 2000000) : Fv Tryz.prog (fnv 120) [va0, .int .u64 a1] H (.tuple #[.int .i64 (k_13 a0 a1).1, .bool (k_13 a0 a1).2]) := by
 refine Fc.of_body (N := 54) func120 rfl kA rfl rfl ?_
 intro w0
 obtain ⟨Aa0, ca0, rfl, hca0, hda0, b0⟩ := b0.shape
 refine sR (aA ?_)
 refine aA ?_
 refine nN (sR (mA ?_))
 refine R.len underlying44 rfl rfl ?_
 refine aA ?_
 refine nN (sR (mA ?_))
 refine aA ?_
 refine aA ?_
 refine nN (T.seq (T.block (T.loop (ι := Nat × Int × Int) (fun ⟨a4, a2, a3⟩ H' L' ds' => (a3 - a2).toNat < a4 ∧ Has L' [] ∧ 0 ≤ a2 ∧ a2 ≤ a3 ∧ a3 ≤ (a0.length : Int) ∧ k_1f a0 a1 a4 ((a2, a3)) = k_1f a0 a1 ((((a0.length : Int)) - 0).toNat + 1) ((0, (a0.length : Int)))) (fun ⟨a4, a2, a3⟩ => [(0, .slice Aa0 a0.length ca0), (1, .int .u64 a1), (6, .int .i64 (a0.length : Int)), (7, .int .i64 a2), (8, .int .i64 a3)]) (fun ⟨a4, a2, a3⟩ => a4) (((((a0.length : Int)) - 0).toNat + 1), 0, (a0.length : Int)) ?_ ?_ ?_)))
 exact ⟨oA, Has.nil, bA, bA, bA, (by rfl)⟩
 exact ⟨rfl, rfl, rfl, rfl, rfl, trivial⟩
 intro ⟨a4, a2, a3⟩ σ_l1 H_l1 L_l1 ds_l1 a5 a8
 obtain ⟨hkl1, a8⟩ := a8
 obtain ⟨a6, rfl⟩ : ∃ m, a4 = m + 1 := ⟨a4 - 1, by omega⟩
 obtain ⟨hLl1, hBl1_0, hBl1_1, hBl1_2, b3⟩ := a8
 refine T.has hLl1 ?_
 refine T.seq (sR (mA ?_))
 refine mA ?_
 refine R.lss rfl rfl rfl ?_
 refine nN (T.condD rfl (fun a7 => ?_) (fun a7 => ?_))
 refine T.set 15 (.bool true) (congrArg Value.bool (decide_eq_true a7)) ?_
 refine T.skip (Post.thnN (T.block ?_))
 refine sR (mA ?_)
 refine mA ?_
 refine R.addI rfl rfl rfl oA ?_
 refine R.conv underlying3 underlying161 rfl rfl ?_
 refine R.shr rfl rfl rfl oA ?_
 refine R.conv underlying161 underlying3 rfl rfl ?_
 refine aA ?_
 refine nN (T.seq ?_)
 have hmid := midI (i := a2) (j := a3) oA oA oA
 refine T.region (mA ?_)
 refine mA ?_
 have b4 : ((IntKind.i64.wrap (bshr .u64 (IntKind.u64.wrap (a2 + a3)) 1))).toNat < a0.length := bA
 obtain ⟨y24, e24, h24⟩ : ∃ y, y = (a0.getD (((IntKind.i64.wrap (bshr .u64 (IntKind.u64.wrap (a2 + a3)) 1))).toNat) (0 : Int)) ∧ a0[((IntKind.i64.wrap (bshr .u64 (IntKind.u64.wrap (a2 + a3)) 1))).toNat]? = some y := ⟨_, rfl, k_46 (by first | exact b4 | simpa using b4 | (simp only [List.length_set]; omega) | omega | (rw [(k_26 _).length_eq]; exact b4))⟩
 obtain ⟨b24, o24, i24, k24⟩ := RdS.elem (b0.mono a5) h24
 obtain ⟨l24, g24, k24⟩ := k24
 obtain rfl : l24 = [.int .u64 y24] := g24
 refine R.ixp underlying44 sizeOf39 rfl rfl rfl bA i24 ?_
 refine R.ldC isAgg39 rfl rfl (k24 0 _ rfl) ?_
 refine mA ?_
 refine R.callv rfl rfl rfl (cmp_Less_Id_c _ (y24) (a1)) ?_
 refine nN (T.cond rfl (fun b1 => ?_) (fun b1 => ?_))
 refine T.set 27 (.bool true) (congrArg Value.bool b1) ?_
 refine T.region (mA ?_)
 refine R.addI rfl rfl rfl oA ?_
 refine aA ?_
 refine TL.nil (Post.blkN ?_)
 refine id (Post.thnN ?_)
 exact ⟨(a6, ((IntKind.i64.wrap (bshr .u64 (IntKind.u64.wrap (a2 + a3)) 1)) + 1), a3), a5, ⟨(by first | omega | (simp; omega) | (simp at *; omega)), Has.nil, bA, bA, bA, (by subst e24; rw [← b3, k_1f]; rw [if_pos a7, if_t b1])⟩, by show a6 < a6 + 1; omega, rfl, rfl, rfl, rfl, rfl, trivial⟩
 refine T.set 27 (.bool false) (congrArg Value.bool b1) ?_
 refine T.region (mA ?_)
 refine aA ?_
 refine TL.nil (Post.blkN ?_)
 refine id (Post.thnN ?_)
 exact ⟨(a6, a2, (IntKind.i64.wrap (bshr .u64 (IntKind.u64.wrap (a2 + a3)) 1))), a5, ⟨(by first | omega | (simp; omega) | (simp at *; omega)), Has.nil, bA, bA, bA, (by subst e24; rw [← b3, k_1f]; rw [if_pos a7, if_f b1])⟩, by show a6 < a6 + 1; omega, rfl, rfl, rfl, rfl, rfl, trivial⟩
 refine T.set 15 (.bool false) (congrArg Value.bool (decide_eq_false a7)) ?_
 refine T.exit (Post.thnE (Post.thnE (Post.blkX ?_)))
 have a9 : k_1f a0 a1 ((((a0.length : Int)) - 0).toNat + 1) ((0, (a0.length : Int))) = (a2, a3) := (by rw [← b3, k_1f]; rw [if_neg a7])
 refine id (Post.thnN (sR ?_))
 refine mA ?_
 refine mA ?_
 refine mA ?_
 refine R.lss rfl rfl rfl ?_
 refine mA ?_
 refine TL.gsplitD 35 rfl (fun b2 => ?_) (fun b2 => ?_)
 refine mA ?_
 refine mA ?_
 have b5 : a2.toNat < a0.length := bA
 obtain ⟨y38, e38, h38⟩ : ∃ y, y = (a0.getD a2.toNat (0 : Int)) ∧ a0[a2.toNat]? = some y := ⟨_, rfl, k_46 (by first | exact b5 | simpa using b5 | (simp only [List.length_set]; omega) | omega | (rw [(k_26 _).length_eq]; exact b5))⟩
 obtain ⟨b38, o38, i38, k38⟩ := RdS.elem (b0.mono a5) h38
 obtain ⟨l38, g38, k38⟩ := k38
 obtain rfl : l38 = [.int .u64 y38] := g38
 refine R.ixp underlying44 sizeOf39 rfl rfl rfl bA i38 ?_
 refine R.ldC isAgg39 rfl rfl (k38 0 _ rfl) ?_
 refine mA ?_
 refine R.eql rfl rfl rfl ?_
 refine mA ?_
 refine TL.gsplitD 42 rfl (fun b7 => ?_) (fun b7 => ?_)
 refine oF ?_
 refine oF ?_
 refine oF ?_
 refine oF ?_
 refine oF ?_
 refine oF ?_
 refine TL.offU rfl rfl ?_
 refine TL.offU rfl rfl ?_
 refine oF ?_
 refine R.pkTE rfl rfl cA ?_
 refine R.pkTE rfl rfl cA ?_
 refine aA ?_
 refine aA ?_
 refine nN (T.has Has.nil ?_)
 refine T.ret ?_
 have hM : k_13 a0 a1 = (a2, true) := by subst e38; rw [k_13, a9, LR.seq_go, if_pos b2, if_pos b7]
 exact fin2L (v := .int .i64 a2) (v' := .bool true) [] rfl rfl rfl (List.Sublist.refl _) ⟨rfl, by first | rw [hM] | rfl⟩
 refine mA ?_
 refine mA ?_
 have b6 : a2.toNat < a0.length := bA
 obtain ⟨y45, e45, h45⟩ : ∃ y, y = (a0.getD a2.toNat (0 : Int)) ∧ a0[a2.toNat]? = some y := ⟨_, rfl, k_46 (by first | exact b6 | simpa using b6 | (simp only [List.length_set]; omega) | omega | (rw [(k_26 _).length_eq]; exact b6))⟩
 obtain ⟨b45, o45, i45, k45⟩ := RdS.elem (b0.mono a5) h45
 obtain ⟨l45, g45, k45⟩ := k45
 obtain rfl : l45 = [.int .u64 y45] := g45
 refine R.ixp underlying44 sizeOf39 rfl rfl rfl bA i45 ?_
 refine R.ldC isAgg39 rfl rfl (k45 0 _ rfl) ?_
 refine R.callv rfl rfl rfl (slices_isNaN_Id_c _ (y45)) ?_
 refine mA ?_
 refine TL.gsplit 48 rfl (fun g48 => ?_) (fun g48 => ?_)
 refine mA ?_
 refine R.callv rfl rfl rfl (slices_isNaN_Id_c _ (a1)) ?_
 refine R.pkTE rfl rfl cA ?_
 refine R.pkFE rfl rfl cA ?_
 refine R.pkTE rfl rfl cA ?_
 refine aA ?_
 refine aA ?_
 refine nN (T.has Has.nil ?_)
 refine T.ret ?_
 have hM : k_13 a0 a1 = (a2, (k_81 a1)) := by subst e45; subst e38; rw [k_13, a9, LR.seq_go, if_pos b2, if_neg b7, if_t g48]
 exact fin2L (v := .int .i64 a2) (v' := .bool ((k_81 a1))) [] rfl rfl rfl (List.Sublist.refl _) ⟨rfl, by first | rw [hM] | rfl⟩
 refine oF ?_
 refine oF ?_
 refine R.pkFE rfl rfl cA ?_
 refine R.pkFE rfl rfl cA ?_
 refine R.pkTE rfl rfl cA ?_
 refine aA ?_
 refine aA ?_
 refine nN (T.has Has.nil ?_)
 refine T.ret ?_
 have hM : k_13 a0 a1 = (a2, false) := by subst e45; subst e38; rw [k_13, a9, LR.seq_go, if_pos b2, if_neg b7, if_f g48]
 exact fin2L (v := .int .i64 a2) (v' := .bool false) [] rfl rfl rfl (List.Sublist.refl _) ⟨rfl, by first | rw [hM] | rfl⟩
 refine oF ?_
 refine oF ?_
 refine oF ?_
 refine oF ?_
 refine oF ?_
 refine oF ?_
 refine oF ?_
 refine TL.offU rfl rfl ?_
 refine TL.offU rfl rfl ?_
 refine TL.offU rfl rfl ?_
 refine TL.offU rfl rfl ?_
 refine TL.offU rfl rfl ?_
 refine TL.offU rfl rfl ?_
 refine TL.offU rfl rfl ?_
 refine TL.offU rfl rfl ?_
 refine TL.offU rfl rfl ?_
 refine oF ?_
 refine R.pkFE rfl rfl cA ?_
 refine aA ?_
 refine aA ?_
 refine nN (T.has Has.nil ?_)
 refine T.ret ?_
 have hM : k_13 a0 a1 = (a2, false) := by rw [k_13, a9, LR.seq_go, if_neg b2]
 exact fin2L (v := .int .i64 a2) (v' := .bool false) [] rfl rfl rfl (List.Sublist.refl _) ⟨rfl, by first | rw [hM] | rfl⟩
theorem bsI_l1 (a : List Int) (x : Int) (hl : a.length ≤ 2000000) : ∀ (k m : Nat) (i j : Int), (j - i).toNat ≤ k → k < m → 0 ≤ i → i ≤ j → j ≤ (a.length : Int) → 0 ≤ (k_1f a x m (i, j)).1 ∧ (k_1f a x m (i, j)).1 ≤ (a.length : Int)
  | k, 0, i, j, _, h, _, _, _ => by omega
  | k, m + 1, i, j, h1, h2, h3, h4, h5 => by
    simp only [k_1f, LR.seq_go]
    by_cases h : i < j
    · rw [if_pos h, midI h3 h (by omega)]
      cases k with
      | zero => omega
      | succ k =>
        split
        · exact bsI_l1 a x hl k m ((i + j) / 2 + 1) j (by omega) (by omega) (by omega) (by omega) h5
        · exact bsI_l1 a x hl k m i ((i + j) / 2) (by omega) (by omega) h3 (by omega) (by omega)
    · rw [if_neg h]; exact ⟨h3, by simp only; omega⟩
theorem bsI_rng (a : List Int) (x : Int) (r : Int × Bool) (e : r = k_13 a x) (hl : a.length ≤ 2000000) : 0 ≤ r.1 ∧ r.1 ≤ (a.length : Int) ∧ (r.2 = true → r.1 < (a.length : Int)) := by
  have h := bsI_l1 a x hl a.length (((a.length : Int) - 0).toNat + 1) 0 a.length (by omega) (by omega) (by omega) (by omega) (by omega)
  unfold k_13 at e
  simp only [LR.seq_go] at e
  rw [e]
  generalize k_1f a x (((a.length : Int) - 0).toNat + 1) (0, (a.length : Int)) = q at h ⊢
  by_cases hq : q.1 < (a.length : Int)
  · rw [if_pos hq]
    split
    · exact ⟨h.1, h.2, fun _ => hq⟩
    · split
      · exact ⟨h.1, h.2, fun _ => hq⟩
      · exact ⟨h.1, h.2, fun _ => hq⟩
  · rw [if_neg hq]
    exact ⟨h.1, h.2, fun k => by cases k⟩
def k_a1 (a0 : List Int) (a1 : Int) : (List Int) :=
  LR.seq (k_13 a0 a1) (fun r10 => if r10.2 = true then a0 else ((((a0.take r10.1.toNat) ++ [a1]) ++ (a0.drop r10.1.toNat))))
theorem types_with_c (H : Heap) (va0 : Value) (a0 : List Int) (a4 : RdS (intE .u64) H va0 a0) (a1 : Int) (hl : a0.length ≤ 2000000) : Fp Tryz.prog (fnv 188) [va0, .int .u64 a1] H (fun v' H' => ∃ a9, v' = a9 ∧ RdS (intE .u64) H' a9 (k_a1 a0 a1)) := by
 refine Fc.of_body (N := 26) func188 rfl kA rfl rfl ?_
 intro w0
 obtain ⟨a8, ca0, rfl, hca0, hda0, a4⟩ := a4.shape
 refine sR (aA ?_)
 refine nN (sR (mA ?_))
 refine mA ?_
 obtain ⟨a3, a6⟩ : ∃ r, r = (k_13 a0 a1) := ⟨_, rfl⟩
 refine R.callv (v := .tuple #[.int .i64 a3.1, .bool a3.2]) rfl rfl rfl (by rw [a6]; exact k_b6 _ _ a0 a4 (a1) bA) ?_
 have tb10 := bsI_rng _ _ _ a6 bA
 refine mA ?_
 refine R.ext rfl rfl rfl ?_
 refine R.ext rfl rfl rfl ?_
 refine aA ?_
 refine aA ?_
 refine nN (T.seq (sR (mA ?_)))
 refine nN (T.cond rfl (fun a7 => ?_) (fun a7 => ?_))
 refine T.set 13 (.bool true) (congrArg Value.bool a7) ?_
 refine sR (mA ?_)
 refine aA ?_
 refine nN (T.has Has.nil ?_)
 refine T.ret (Post.thnR ?_)
 have hM : k_a1 a0 a1 = a0 := by subst a6; rw [k_a1, LR.seq_go, if_t a7]
 exact fin1L (v := sl a8 a0 ca0) [] rfl rfl (List.Sublist.refl _) ⟨rfl, sl a8 a0 ca0, by first | rw [hM] | rfl, by rw [hM]; exact a4⟩
 refine T.set 13 (.bool false) (congrArg Value.bool a7) ?_
 refine T.skip (Post.thnN (T.seq ?_))
 refine T.draw k_2f kA ?_
 refine vM 0 [1, 2, 3, 4, 5, 6, 7, 8, 9, 10, 11] rfl rfl cA ?_
 refine vM 1 [2, 3, 4, 5, 6, 7, 8, 9, 10, 11] rfl rfl cA ?_
 refine vM 2 [3, 4, 5, 6, 7, 8, 9, 10, 11] rfl rfl cA ?_
 have z18 := RdS.take a4 (i := a3.1.toNat) oA oA
 obtain ⟨a2, e18⟩ : ∃ x, x = (a0.take a3.1.toNat) := ⟨_, rfl⟩
 rw [← e18] at z18
 have t18 : a2.length = a3.1.toNat := by rw [e18, List.length_take]; omega
 refine vA 3 [4, 5, 6, 7, 8, 9, 10, 11] rfl (fun _ _ h_ => R.sHM underlying44 sizeOf39 rfl rfl rfl rfl oA oA oA (TL.nil h_)) ?_
 refine Plan.set 18 (.slice a8 a2.length a2.length) (by rw [t18]; exact slc_take00 (A := a8) (n := a0.length) (c := ca0) (sz := 1)) ?_
 refine vM 4 [5, 6, 7, 8, 9, 10, 11] rfl rfl cA ?_
 refine vM 7 [5, 6, 8, 9, 10, 11] rfl rfl cA ?_
 refine vM 8 [5, 6, 9, 10, 11] rfl rfl cA ?_
 have z24 := RdS.drop a4 (i := a3.1.toNat) oA oA
 obtain ⟨a5, e24⟩ : ∃ x, x = (a0.drop a3.1.toNat) := ⟨_, rfl⟩
 rw [← e24] at z24
 obtain ⟨A24, p24, q24, m24, n24, r24⟩ := RdS.shape z24
 have t24 : a5.length ≤ a0.length := by rw [e24]; simp; try omega
 refine vA 9 [5, 6, 10, 11] rfl (fun _ _ h_ => R.sL underlying44 sizeOf39 rfl rfl rfl oA oA  (TL.nil h_)) ?_
 refine Plan.set 24 (.slice A24 a5.length p24) (by first | exact q24 | (rw [← q24]; simp; done) | (rw [← q24]; rfl)) ?_
 refine Plan.s1 5 [6, 10, 11] kA kA rfl ?_
 refine R.bs rfl (k_4 underlying44 sizeOf39 zeroValue39 rfl rfl) ?_
 intro b20
 have w20 := lit1 (E := (intE .u64)) (e := 39) (H := H) (b := b20) (y := a1) (a := [.int .u64 a1]) rfl
 refine eA ?_
 refine Plan.s1 6 [10, 11] kA kA rfl ?_
 obtain ⟨k21, y21, r21⟩ := Src.ownA w20
 refine R.appN (E := (intE .u64)) (xs := a2) (ys := [a1]) k_2b rfl rfl rfl z18 (r21 _ .hd) y21 (by simp) lA lA ?_
 intro v21 c21 w21
 obtain ⟨A21, p21, rfl, m21, n21⟩ := OwnS.shape w21
 refine TL.del (.tl .hd) ?_
 refine eA ?_
 refine Plan.s1 10 [11] kA kA rfl ?_
 obtain ⟨k25, y25, r25⟩ := Src.rdA r24
 refine R.app (E := (intE .u64)) (e := 39) (xs := (a2 ++ [a1])) (ys := a5) k_2b rfl rfl rfl w21 .hd (r25 _) y25 lA lA ?_
 intro v25 c25 w25
 obtain ⟨A25, p25, rfl, m25, n25⟩ := OwnS.shape w25
 refine eA ?_
 refine vA 11 [] rfl (fun _ _ h_ => aA (TL.nil h_)) ?_
 refine Plan.done (Post.thnN ?_)
 refine T.shut .hd ?_
 intro HF25_1 b0 b1
 have b2 := OwnS.read w25 b0 b1
 refine T.has Has.nil ?_
 refine T.ret ?_
 have hM : k_a1 a0 a1 = ((a2 ++ [a1]) ++ a5) := by subst e24; subst e18; subst a6; rw [k_a1, LR.seq_go, if_f a7]
 exact fin1L (v := sl A25 ((a2 ++ [a1]) ++ a5) p25) [] rfl rfl (List.Sublist.refl _) ⟨rfl, sl A25 ((a2 ++ [a1]) ++ a5) p25, by first | rw [hM] | rfl, by rw [hM]; exact b2⟩
theorem with_len (a : List Int) (x : Int) (r : List Int) (e : r = k_a1 a x) (hl : a.length ≤ 2000000) : r.length ≤ a.length + 1 := by
  unfold k_a1 at e
  rw [LR.seq_go] at e
  have h := bsI_rng a x _ rfl hl
  generalize k_13 a x = q at *
  subst e
  split
  · omega
  · simp; omega
def types_own_m (a0 : List Int) : (List Int) :=
  a0
theorem types_own_c (H : Heap) (va0 : Value) (a0 : List Int) (ha0 : RdS (intE .u64) H va0 a0) (hl : a0.length ≤ 3000000) : Fc Tryz.prog (fnv 187) [va0] H [] (fun v' H' L' => ∃ a1 a2, v' = a1 ∧ L' = [a2] ∧ OwnS (intE .u64) 39 H' a1 (types_own_m a0) a2) := by
 refine Fc.of_body (N := 11) func187 rfl kA rfl rfl ?_
 intro w0
 obtain ⟨Aa0, ca0, rfl, hca0, hda0, ha0⟩ := ha0.shape
 refine sR (aA ?_)
 refine nN (sR (mA ?_))
 refine R.len underlying44 rfl rfl ?_
 refine R.mks (E := (intE .u64)) (q := a0.length) (z0 := ((0 : Int))) (zc := [.int .u64 0]) k_2b (zcells_of (z := .int .u64 0) kA) (fun _ => rfl) rfl rfl rfl oA oA ?_
 intro v6 c6 w6
 obtain ⟨A6, p6, rfl, m6, n6⟩ := w6.shape
 refine aA ?_
 refine nN (sR (mA ?_))
 refine mA ?_
 obtain ⟨k9, y9, r9⟩ := Src.rdA ha0
 refine R.copyD (v := (sl A6 (List.replicate a0.length ((0 : Int))) p6)) k_2b rfl rfl rfl w6 .hd (r9 _) y9 (by first | (simp; done) | (simp; omega)) ?_
 intro a3 wm61
 refine nN (sR (mA ?_))
 refine aA ?_
 refine nN (T.has (Has.cons .hd Has.nil) ?_)
 refine T.ret ?_
 have hM : types_own_m a0 = a0 := by rw [types_own_m]
 exact fin1L (v := sl A6 (List.replicate a0.length ((0 : Int))) p6) [a3] rfl rfl (List.Sublist.refl _) ⟨sl A6 (List.replicate a0.length ((0 : Int))) p6, a3, by first | rw [hM] | rfl, rfl, by rw [hM]; exact wm61⟩
theorem own_id (a : List Int) : types_own_m a = a := rfl
attribute [irreducible] types_own_m
def k_74 (a0 : List Int) (a1 : Int) : (List Int) × Int :=
  if ((k_52 a0) : Int) ≠ 0 then (([], 130)) else (if (!(k_8a a1)) = true then (([], 2)) else (LR.seq (k_a1 a0 a1) (fun r17 => LR.seq (types_own_m r17) (fun r18 => if (12 : Int) < (r18.length : Int) then (([], 6)) else ((r18, 0))))))
theorem types_With_c (H : Heap) (va0 : Value) (a0 : List Int) (b1 : RdS (intE .u64) H va0 a0) (a1 : Int) (hl : a0.length ≤ 2000000) : Fc Tryz.prog (fnv 122) [va0, .int .u64 a1] H [] (fun v' H' L' => ∃ b2 b3, v' = .tuple #[b2, .int .i64 (k_74 a0 a1).2] ∧ L' = [b3] ∧ OwnS (intE .u64) 39 H' b2 (k_74 a0 a1).1 b3) := by
 refine Fc.of_body (N := 23) func122 rfl kA rfl rfl ?_
 intro w0
 obtain ⟨Aa0, ca0, rfl, hca0, hda0, b1⟩ := b1.shape
 refine sR (aA ?_)
 refine aA ?_
 refine nN (T.seq (T.block (sR (mA ?_))))
 refine R.callv rfl rfl rfl (types_Check_c _ _ a0 b1) ?_
 refine R.neq rfl rfl rfl ?_
 refine aA ?_
 refine nN (T.condD rfl (fun c7 => ?_) (fun c7 => ?_))
 refine T.set 7 (.bool true) (congrArg Value.bool (decide_eq_true c7)) ?_
 refine sR (aA ?_)
 refine aA ?_
 refine nN (T.has (Has.none Has.nil) ?_)
 refine T.ret (Post.blkR (Post.thnR ?_))
 have hM : k_74 a0 a1 = ([], 130) := by rw [k_74, if_pos c7]
 exact fin2L (v := .slice none 0 0) (v' := .int .i64 130) [[]] rfl rfl rfl (List.Sublist.refl _) ⟨.slice none 0 0, [], by first | rw [hM] | rfl, rfl, by rw [hM]; exact OwnS.nil⟩
 refine T.set 7 (.bool false) (congrArg Value.bool (decide_eq_false c7)) ?_
 refine sR (mA ?_)
 refine R.callv rfl rfl rfl (types_may_c _ (a1)) ?_
 refine R.not rfl rfl ?_
 refine aA ?_
 refine nN (T.cond rfl (fun a3 => ?_) (fun a3 => ?_))
 refine T.set 11 (.bool true) (congrArg Value.bool a3) ?_
 refine sR (aA ?_)
 refine aA ?_
 refine nN (T.has (Has.none Has.nil) ?_)
 refine T.ret (Post.blkR (Post.thnR ?_))
 have hM : k_74 a0 a1 = ([], 2) := by rw [k_74, if_neg c7, if_t a3]
 exact fin2L (v := .slice none 0 0) (v' := .int .i64 2) [[]] rfl rfl rfl (List.Sublist.refl _) ⟨.slice none 0 0, [], by first | rw [hM] | rfl, rfl, by rw [hM]; exact OwnS.nil⟩
 refine T.set 11 (.bool false) (congrArg Value.bool a3) ?_
 refine T.skip (Post.blkN ?_)
 refine id (Post.thnN (sR ?_))
 refine mA ?_
 refine mA ?_
 obtain ⟨r17, a8⟩ : ∃ r, r = (k_a1 a0 a1) := ⟨_, rfl⟩
 refine R.callp rfl rfl rfl (types_with_c _ _ a0 b1 (a1) bA) ?_
 intro v17 H17 s17 q17
 rw [← a8] at q17
 obtain ⟨b4, rfl, a2⟩ := q17
 obtain ⟨b5, b6, rfl, b7, b8, a2⟩ := RdS.shape a2
 have tw17 := with_len _ _ _ a8 bA
 obtain ⟨r18, a9⟩ : ∃ r, r = (types_own_m r17) := ⟨_, rfl⟩
 refine TL.call [] rfl rfl rfl (types_own_c _ _ r17 a2 bA) ?_
 intro v18 H18 L18 s18 q18
 rw [← a9] at q18
 obtain ⟨b9, a4, rfl, rfl, a5⟩ := q18
 obtain ⟨a6, a7, rfl, c0, c1⟩ := OwnS.shape a5
 have to18 := congrArg List.length (a9.trans (own_id _))
 refine aA ?_
 refine nN (T.seq (sR (mA ?_)))
 refine R.len underlying44 rfl rfl ?_
 refine R.gtr rfl rfl rfl ?_
 refine nN (T.condD rfl (fun b0 => ?_) (fun b0 => ?_))
 refine T.set 21 (.bool true) (congrArg Value.bool (decide_eq_true b0)) ?_
 refine sR (aA ?_)
 refine aA ?_
 refine nN (T.has (Has.none Has.nil) ?_)
 refine T.ret (Post.thnR ?_)
 have hM : k_74 a0 a1 = ([], 6) := by subst a9; subst a8; rw [k_74, if_neg c7, if_f a3, LR.seq_go, LR.seq_go, if_pos b0]
 exact fin2L (v := .slice none 0 0) (v' := .int .i64 6) [[]] rfl rfl rfl (List.Sublist.refl _) ⟨.slice none 0 0, [], by first | rw [hM] | rfl, rfl, by rw [hM]; exact OwnS.nil⟩
 refine T.set 21 (.bool false) (congrArg Value.bool (decide_eq_false b0)) ?_
 refine T.skip (Post.thnN (sR ?_))
 refine mA ?_
 refine aA ?_
 refine aA ?_
 refine nN (T.has (Has.cons .hd Has.nil) ?_)
 refine T.ret ?_
 have hM : k_74 a0 a1 = (r18, 0) := by subst a9; subst a8; rw [k_74, if_neg c7, if_f a3, LR.seq_go, LR.seq_go, if_neg b0]
 exact fin2L (v := sl a6 r18 a7) (v' := .int .i64 0) [a4] rfl rfl rfl (List.Sublist.refl _) ⟨sl a6 r18 a7, a4, by first | rw [hM] | rfl, rfl, by rw [hM]; exact a5⟩
theorem With_len (l : List Int) (p : Int) (r : List Int × Int) (e : r = k_74 l p) : r.1.length ≤ 12 := by
  unfold k_74 at e
  simp only [LR.seq_go] at e
  rw [e]
  split
  · exact Nat.zero_le _
  · split
    · exact Nat.zero_le _
    · split
      · exact Nat.zero_le _
      · simp only; omega
end Go.SX
namespace Go.SX
open Go
attribute [local semireducible] T TL
section
variable {fr : Fr} {x : Cx} {Q : Post} {σ : Env} {H : Heap} {L : Own} {ds : List Nat} {ol rest : List Oper}
variable {d : Nat} {ty : TypeId} {p : String} {af : Array Edge} {g : Option (Nat × Bool)}
end
end Go.SX
namespace Go.SX
open Go
attribute [local semireducible] T TL
def Fz (P : Program) (fv : Value) (vs : List Value) (H : Heap) (ch : List PanicEntry) (ok : Bool) : Prop :=
  ∀ w, Sat H [] w → CallV P fv vs w (fun e w' => ∃ H', St ⟨w, H, []⟩ H' [] w' ∧ e = if ok = true then .returned (.tuple #[]) else .panicked ch)
def fnPostZ (P : Program) (fn : Func) (N : Nat) (ch : List PanicEntry) (ok : Bool) : Post
  | .normal, σ, H, L, _ | .ret, σ, H, L, _ => ok = true ∧ resOk P fn N σ H L (.tuple #[])
  | .panic c, _, _, _, _ => ok = false ∧ c = ch
  | _, _, _, _, _ => False
theorem leavesP_of {P : Program} {fn : Func} {tmps : Array Value} {x : Cx} {H : Heap} {L : Own} {c : List PanicEntry} {R : Ending → World → Prop}
    (hR : ∀ w, St x H L.flatten w → R (.panicked c) w) : ∀ (ds : List Nat) (w : World), St x H (L.flatten ++ ds.map (fun D => (D, Obj.deferred (some [])))) w →
    LeavesInM Fence.wide 0 P fn tmps R (ds.map mk) (.panicking c) w := by
  intro ds
  induction ds with
  | nil =>
    intro w hst
    simp only [List.map_nil, List.append_nil] at hst
    exact hR w hst
  | cons D ds ih =>
    intro w hst
    have hst1 : St x H ((D, Obj.deferred (some [])) :: (L.flatten ++ ds.map (fun D => (D, Obj.deferred (some []))))) w := hst.perm (by
      simp only [List.map_cons]
      exact List.perm_middle)
    have hb := hst1.sat.l (D, Obj.deferred (some [])) (List.mem_cons_self ..)
    have hlt := heap_lt hb
    refine ⟨by simp, .inl ⟨D, w.putObj D (.deferred none), rfl, run_takeDeferred hb, ?_⟩⟩
    have hst2 : St x H ((D, Obj.deferred none) :: (L.flatten ++ ds.map (fun D => (D, Obj.deferred (some []))))) (w.putObj D (.deferred none)) :=
      hst1.turn rfl rfl rfl (by simp [World.putObj]) (World.putObj_heap_same hlt) (fun c hc => World.putObj_heap_other (fun e => hc (by first | exact e | exact e.symm)))
    exact ih _ (hst2.sub (List.sublist_cons_self _ _))
theorem Fz.of_body {P : Program} {f : FuncId} {fn : Func} {c : Code} {N : Nat} {caps vs : List Value} {H : Heap} {ch : List PanicEntry} {ok : Bool}
    (hf : P.funcs[f]? = some fn) (hb : fn.body = some c) (hname : (fn.name == "runtime.NumGoroutine") = false) (hN : fn.ntmps = N) (hle : Nat.ble (vs.length + caps.length) N = true)
    (h : ∀ w, T ⟨P, N, none, []⟩ ⟨w, H, []⟩ c (fnPostZ P fn N ch ok) (ent (vs ++ caps)) H [] []) : Fz P (.func (.func f) #[] caps.toArray) vs H ch ok := by
  intro w hsat
  have hle' : vs.length + caps.length ≤ N := Nat.le_of_ble_eq_true hle
  refine ⟨.enter f (vs ++ caps).toArray, w, ?_, ?_⟩
  · have he := Go.Proofs.enters_of (P := P) hf hname hb (vs ++ caps).toArray w
    simp [Deferred.ofValue, invoke, he]
  · refine callsIn_of_wp_marks hf hb trivial ?_
    have hsim : Sim N (ent (vs ++ caps)) ((vs ++ caps).toArray ++ Array.replicate (fn.ntmps - (vs ++ caps).toArray.size) undef) := by
      rw [hN]
      refine ⟨by simp; omega, fun i => ?_⟩
      rw [Array.getD_eq_getD_getElem?]
      unfold ent
      rw [nth_eq]
      by_cases hi : i < (vs ++ caps).length
      · rw [Array.getElem?_append_left (by simpa using hi)]
        simp only [List.getElem?_toArray]
        rw [List.getElem?_eq_getElem hi]
        rfl
      · rw [Array.getElem?_append_right (by simpa using Nat.le_of_not_lt hi)]
        rw [List.getElem?_eq_none (Nat.le_of_not_lt hi)]
        simp only [Array.getElem?_replicate]
        split <;> rfl
    have hst0 : St ⟨w, H, []⟩ H (List.flatten [] ++ hid none []) w := by
      have := St.init hsat
      simpa [hid] using this
    refine wpIn_mono (h w _ w hsim rfl hst0) ?_
    rintro e a w' ⟨σ', H', L', ds, hs, hd, hst, hq⟩
    replace hd : a.defers = ds.map mk := hd.trans (List.append_nil _)
    have key : ok = true → resOk P fn N σ' H' L' (.tuple #[]) →
        LeavesInM Fence.wide 0 P fn a.tmps (fun e w' => ∃ H', St ⟨w, H, []⟩ H' [] w' ∧ e = if ok = true then .returned (.tuple #[]) else .panicked ch) a.defers .returning w' := by
      intro hok hv
      rw [hd]
      exact leaves_of hs hv (fun w2 h2 => ⟨H', h2.sub (List.nil_sublist _), by rw [if_pos hok]⟩) ds w' hst
    cases e with
    | normal => exact key hq.1 hq.2
    | ret => exact key hq.1 hq.2
    | panic c =>
      obtain ⟨h1, h2⟩ := hq
      show LeavesInM Fence.wide 0 P fn a.tmps _ a.defers (.panicking c) w'
      rw [hd]
      exact leavesP_of (fun w2 h4 => ⟨H', h4.sub (List.nil_sublist _), by rw [if_neg (by rw [h1]; decide), h2]⟩) ds w' hst
    | _ => exact hq.elim
theorem finZN {P : Program} {fn : Func} {N : Nat} {ch : List PanicEntry} {ok : Bool} {σ : Env} {H : Heap} {L : Own} {ds : List Nat} (hr : fn.results = #[]) (h : ok = true) : fnPostZ P fn N ch ok .normal σ H L ds :=
  ⟨h, fun tmps w _ _ => results_none hr tmps P w⟩
theorem finZP {P : Program} {fn : Func} {N : Nat} {ch : List PanicEntry} {ok : Bool} {σ : Env} {H : Heap} {L : Own} {ds : List Nat} (h : ok = false) : fnPostZ P fn N ch ok (.panic ch) σ H L ds := ⟨h, rfl⟩
section
variable {K : Env → Heap → Own → List Nat → Prop} {Q : Post} {σ : Env} {H : Heap} {L : Own} {ds : List Nat} {id : Nat} {c : List PanicEntry}
theorem Post.thnP (h : Q (.panic c) σ H L ds) : Post.thn K Q (.panic c) σ H L ds := h
theorem Post.blkP (h : Q (.panic c) σ H L ds) : Post.blk id Q (.panic c) σ H L ds := h
end
section
variable {fr : Fr} {x : Cx} {Q : Post} {σ : Env} {H : Heap} {L : Own} {ds : List Nat} {ol rest : List Oper}
variable {ty : TypeId} {p : String} {af : Array Edge} {g : Option (Nat × Bool)}
theorem TL.callz {F : Operand} {ag : List Operand} {ats : Array TypeId} {fv : Value} {vs : List Value} {ch : List PanicEntry} {ok : Bool} {d : Nat} (hw : wan fr.N ol σ d g = true)
    (hf : ev σ F = fv) (ha : ag.map (ev σ) = vs) (hc : Fz fr.P fv vs H ch ok)
    (hy : ok = true → ∀ H', HLe H H' → TL fr x ol rest Q (upd σ d (.tuple #[])) H' L ds) (hn : ok = false → ∀ H', HLe H H' → Q (.panic ch) σ H' L ds) :
    TL fr x ol (⟨some d, .call { callee := .value F, args := ag.toArray, argTypes := ats }, ty, p, af, g⟩ :: rest) Q σ H L ds := by
  intro a w hs hd hst
  obtain ⟨hdN, hwn⟩ := wan_lt hw
  have hst' : St x H ([] ++ (L.flatten ++ hid fr.rd ds)) w := hst
  have hsub : Sat H [] w := hst'.sat.sub (List.nil_sublist _)
  obtain ⟨nx, w1, hrun, hnx⟩ := hc w hsub
  unfold wpLo
  rw [if_pos (k_a9 hs hwn)]
  refine ⟨fun f _ => fenceFn _ f, ?_⟩
  rw [k_b0 rfl, hs.eval]
  simp only [execOp]
  rw [resolve_value, hf, ha, hrun]
  have fin : ∀ (e : Ending) w', (∃ H', St ⟨w, H, []⟩ H' [] w' ∧ e = if ok = true then .returned (.tuple #[]) else .panicked ch) →
      (match e with
        | .returned v => wpLo (fence fr.rd) fr.P ol.toArray (lift fr x Q) rest (a.put (some d) v) w'
        | .panicked chain => lift fr x Q (.panic chain) a w'
        | .outgrown => LetsOut (lift fr x Q)) := by
    rintro e w' ⟨H', h2, rfl⟩
    have hj := hst'.join h2
    cases hok : ok with
    | true =>
      rw [if_pos rfl]
      exact hy hok H' h2.le _ w' (hs.putA d _ hdN) hd hj
    | false =>
      rw [if_neg (by decide)]
      exact k_53 hs hd hj (hn hok H' h2.le)
  cases nx with
  | enter f ag' => exact ⟨(fun h => by cases h), CallsIn.mono (calls_fence hnx) (fun e w' q => by have := fin e w' q; cases e <;> exact this)⟩
  | round l fn tmps ag' body => exact ⟨(fun h => by cases h), RoundIn.mono (round_fence hnx) (fun e w' q => by have := fin e w' q; cases e <;> exact this)⟩
  | _ => exact hnx.elim
theorem R.mkI {d : Nat} {t : TypeId} {X : Operand} {v : Value} {fs : Array Field} (ht : fr.P.underlying t = some (.struct fs)) (hw : wan fr.N ol σ d g = true) (hX : ev σ X = v)
    (h : TL fr x ol rest Q (upd σ d (.iface t v)) H L ds) : TL fr x ol (⟨some d, .makeInterface t X, ty, p, af, g⟩ :: rest) Q σ H L ds := by
  refine TL.pureE hw rfl (fun w => ?_) h
  simp_all [execOp, Instr.makeInterface, run_underlying ht]
theorem TL.panic {X : Operand} {t : TypeId} {v : Value} (hw : wants ol σ g = true) (hX : ev σ X = .iface t v) (h : Q (.panic [{ v := .iface t v, recovered := false }]) σ H L ds) :
    TL fr x ol (⟨none, .panic X, ty, p, af, g⟩ :: rest) Q σ H L ds := by
  intro a w hs hd hst
  unfold wpLo
  rw [if_pos (k_a9 hs hw)]
  refine ⟨fun f _ => fenceFn _ f, ?_⟩
  rw [k_b0 rfl, hs.eval]
  have hrun : (execOp (ev σ) ⟨none, .panic X, ty, p, af, g⟩).run fr.P w = .halt (.panic (.iface t v)) w := by
    simp [execOp, hX, run_panic_iface]
  rw [hrun]
  exact k_53 hs hd hst h
end
end Go.SX
namespace Go.SX
open Go
attribute [local semireducible] T TL
abbrev W24 := Fin 24 → Int
instance w24dec : DecidableEq W24 := fun a b => decidable_of_iff (∀ i, a i = b i) ⟨funext, fun h i => h ▸ rfl⟩
instance w24inh : Inhabited W24 := ⟨fun _ => 0⟩
def w24 (w : W24) (i : Int) : Int := w (Fin.ofNat 24 i.toNat)
def W24.cs (k : IntKind) (w : W24) : List Value := [.int k (w 0), .int k (w 1), .int k (w 2), .int k (w 3), .int k (w 4), .int k (w 5), .int k (w 6), .int k (w 7), .int k (w 8), .int k (w 9), .int k (w 10), .int k (w 11), .int k (w 12), .int k (w 13), .int k (w 14), .int k (w 15), .int k (w 16), .int k (w 17), .int k (w 18), .int k (w 19), .int k (w 20), .int k (w 21), .int k (w 22), .int k (w 23)]
theorem W24.at (k : IntKind) (w : W24) : ∀ i : Fin 24, (W24.cs k w)[i.val]? = some (.int k (w i)) := by
  intro ⟨i, h⟩
  have : i = 0 ∨ i = 1 ∨ i = 2 ∨ i = 3 ∨ i = 4 ∨ i = 5 ∨ i = 6 ∨ i = 7 ∨ i = 8 ∨ i = 9 ∨ i = 10 ∨ i = 11 ∨ i = 12 ∨ i = 13 ∨ i = 14 ∨ i = 15 ∨ i = 16 ∨ i = 17 ∨ i = 18 ∨ i = 19 ∨ i = 20 ∨ i = 21 ∨ i = 22 ∨ i = 23 := by omega
  rcases this with rfl | rfl | rfl | rfl | rfl | rfl | rfl | rfl | rfl | rfl | rfl | rfl | rfl | rfl | rfl | rfl | rfl | rfl | rfl | rfl | rfl | rfl | rfl | rfl <;> rfl
theorem W24.atI (k : IntKind) (w : W24) {i : Int} (h0 : 0 ≤ i) (h1 : i < 24) : (W24.cs k w)[i.toNat]? = some (.int k (w24 w i)) := by
  have h := W24.at k w (Fin.ofNat 24 i.toNat)
  have e : (Fin.ofNat 24 i.toNat).val = i.toNat := by
    show i.toNat % 24 = i.toNat
    omega
  rw [e] at h; exact h
theorem W24.box {k : IntKind} {w : W24} {i : Int} (r : List Value) (h0 : 0 ≤ i) (h1 : i < 24) : ((W24.cs k w ++ r).toArray)[0 + i.toNat * 1]? = some (.int k (w24 w i)) := by
  have h := W24.atI k w h0 h1
  have hl : i.toNat < (W24.cs k w).length := by show i.toNat < 24; omega
  rw [List.getElem?_toArray, Nat.zero_add, Nat.mul_one, List.getElem?_append_left hl]
  exact h
section
variable {fr : Fr} {x : Cx} {Q : Post} {σ : Env} {H : Heap} {L : Own} {ds : List Nat} {ol rest : List Oper}
variable {d : Nat} {ty : TypeId} {p : String} {af : Array Edge} {g : Option (Nat × Bool)}
theorem R.sAr {t e : TypeId} {X : Operand} {b n sz : Nat} (ht : fr.P.underlying t = some (.array (n + 1) e)) (hsz : ∀ w, (sizeOf e).run fr.P w = .ok sz w)
    (hw : wan fr.N ol σ d g = true) (hx : ev σ X = .pointer (some ⟨b, 0, none⟩))
    (h : TL fr x ol rest Q (upd σ d (.slice (some ⟨b, 0, none⟩) (n + 1) (n + 1))) H L ds) : TL fr x ol (⟨some d, .slice t X none none none, ty, p, af, g⟩ :: rest) Q σ H L ds := by
  refine TL.pureE hw rfl (fun w => ?_) h
  simp [execOp, Instr.sliceAt, run_underlying ht, Instr.sliceBounds, Instr.sureAddr, hx, hsz, Addr.add_lit]
end
end Go.SX
namespace Go.SX
open Go
theorem find_pol (a : List Rl) (n : Int) (r : Tr × Bool) (e : r = k_29 a n) (hl : a.length ≤ 2000000) : r.2 = true → (0 ≤ r.1.2.2.2.1 ∧ r.1.2.2.2.1 ≤ 2) ∧ (0 ≤ r.1.2.2.2.2 ∧ r.1.2.2.2.2 ≤ 2) := by
  subst e
  intro h
  have hr := find_rng a n _ rfl hl
  unfold k_29 at h ⊢
  simp only [LR.seq] at h ⊢
  generalize k_62 a n = o at *
  cases ho : o.2 with
  | false => rw [ho, Bool.not_false, if_pos rfl, if_pos rfl] at h; cases h
  | true =>
    rw [ho] at h
    rw [Bool.not_true, if_neg Bool.false_ne_true] at h ⊢
    by_cases hc : k_35 a = 0
    · rw [decide_eq_false (fun k => k hc), if_neg Bool.false_ne_true]
      obtain ⟨r1, r2⟩ := hr ho
      have hk := ((tcheck_iff a).1.1 hc).idx o.1.toNat _ (k_46 (z := rl0) (by omega))
      exact ⟨hk.2.2.2.1, hk.2.2.2.2⟩
    · rw [decide_eq_true hc, if_pos rfl] at h; cases h
end Go.SX
namespace Go.SX
open Go
theorem kindG_k {x : Int} : (kindG x = 2 → kbG x 2 = true) ∧ (kindG x = 3 → kbG x 3 = true) := by
  unfold kindG
  constructor
  · intro h
    cases hk : kbG x 2 with
    | true => rfl
    | false =>
      rw [hk] at h
      simp only [Bool.false_eq_true, if_false] at h
      repeat' split at h
      all_goals omega
  · intro h
    cases hk : kbG x 3 with
    | true => rfl
    | false =>
      rw [hk] at h
      simp only [Bool.false_eq_true, if_false] at h
      repeat' split at h
      all_goals omega
theorem kind2_parts {x : Int} (h : kindG x = 2) : k_1 x = ((k_e x).2, (k_e x).1) ∧ x = k_42 4611686018427387904 0 (k_e x).2 ∧ (1 ≤ (k_e x).2 ∧ (k_e x).2 ≤ 24) := by
  have h1 := kindG_k.1 h
  have h2 : k_a5 x (k_e x).2 = true := h1
  unfold k_a5 at h2
  split at h2
  · rename_i h3
    refine ⟨?_, h3, within1.1 h2⟩
    unfold k_1
    simp only [LR.seq, h]
    rfl
  · cases h2
theorem kind2_idx {x : Int} (h : kindG x = 2) : 1 ≤ (k_1 x).1 ∧ (k_1 x).1 ≤ 24 := by
  obtain ⟨h1, _, h2⟩ := kind2_parts h
  rw [h1]; exact h2
theorem kind3_parts {x : Int} (h : kindG x = 3) : k_1 x = ((k_e x).1, (k_e x).2) ∧ x = k_42 9223372036854775808 (k_e x).1 (k_e x).2 ∧ (1 ≤ (k_e x).1 ∧ (k_e x).1 ≤ 1048578) ∧ (1 ≤ (k_e x).2 ∧ (k_e x).2 ≤ 1048578) := by
  have h1 := kindG_k.2 h
  have h2 : k_a4 x (k_e x).1 (k_e x).2 = true := h1
  unfold k_a4 at h2
  split at h2
  · rename_i h3
    have h4 := within2.1 h2
    refine ⟨?_, h3, h4.1, h4.2⟩
    unfold k_1
    simp only [LR.seq, h]
    rfl
  · cases h2
theorem kind3_idx {x : Int} (h : kindG x = 3) : (1 ≤ (k_1 x).1 ∧ (k_1 x).1 ≤ 1048578) ∧ (1 ≤ (k_1 x).2 ∧ (k_1 x).2 ≤ 1048578) := by
  obtain ⟨h1, _, h2, h3⟩ := kind3_parts h
  rw [h1]; exact ⟨h2, h3⟩
end Go.SX
namespace Go.SX
open Go
end Go.SX
namespace Go.SX
open Go Go.Proofs Go.Proofs.Tryz
def k_96 (a0 : W24) : Nat → Nat → Unit → LR (Int) (Unit)
  | 0, kl1, sl1 => .go ()
  | ml1 + 1, kl1, sl1 => LR.seq (if ((w24 a0 ((kl1 : Int))) : Int) < 0 then true else ((decide ((4 : Int) < (w24 a0 ((kl1 : Int)))))) : Bool) (fun sc2 => if sc2 = true then (.ret 141) else (k_96 a0 ml1 (kl1 + 1) ()))
def k_98 (a0 : W24) : Int :=
  LR.on (k_96 a0 (24 - 0) 0 ()) (fun r => r) (fun ol1 => 0)
theorem value_Wide_c (H : Heap) (a0 : W24) : Fv Tryz.prog (fnv 84) [.agg (c24 a0 []).toArray] H (.int .i64 (k_98 a0)) := by
 refine Fc.of_body (N := 18) func84 rfl kA rfl rfl ?_
 intro w0
 refine sR (R.box rfl cA ?_)
 intro b1
 refine aA ?_
 refine TL.shut .hd ?_
 intro b0 sb1_1 b2
 have a9 : b0 b1 = some (.cells (c24 a0 []).toArray 23) := shut1 b2
 refine nN (T.seq (sR (mA ?_)))
 refine nN (T.block (T.loop (ι := Nat) (fun a1 H' L' ds' => a1 ≤ 24 ∧ Has L' [] ∧ k_96 a0 (24 - a1) a1 () = k_96 a0 (24 - 0) 0 ()) (fun a1 => [(4, .int .i64 (a1 : Int)), (1, .pointer (some ⟨b1, 0, none⟩))]) (fun a1 => 24 - a1) 0 ?_ ?_ ?_))
 exact ⟨oA, Has.nil, (by rfl)⟩
 exact ⟨rfl, rfl, trivial⟩
 intro a1 σ_l1 H_l1 L_l1 ds_l1 a6 a4
 obtain ⟨hkl1, a4⟩ := a4
 obtain ⟨hLl1, a7⟩ := a4
 refine T.has hLl1 ?_
 refine sR (R.lss rfl rfl rfl ?_)
 refine nN (T.seq (T.condD rfl (fun c5 => ?_) (fun c5 => ?_)))
 have hltl1 : a1 < 24 := by omega
 refine T.skip (Post.thnN (T.seq ?_))
 refine T.block (sR (mA ?_))
 refine aA ?_
 refine nN (T.seq (T.cutK (ι := Bool) (fun a2 H' L' ds' => Has L' [] ∧ (if ((w24 a0 ((a1 : Int))) : Int) < 0 then true else ((decide ((4 : Int) < (w24 a0 ((a1 : Int)))))) : Bool) = a2) (fun a2 => [(1, .pointer (some ⟨b1, 0, none⟩)), (4, .int .i64 (a1 : Int)), (16, .bool (a2))]) ?_ ?_))
 refine T.region (mA ?_)
 refine R.ixA underlying23 sizeOf3 rfl rfl rfl bA bA ?_
 refine R.ldH isAgg3 rfl rfl (a6 _ _ a9) (W24.box (k := .i64) (w := a0) (i := (a1 : Int)) [] bA bA) ?_
 refine R.lss rfl rfl rfl ?_
 refine mA ?_
 refine TL.gsplitD 11 rfl (fun g11 => ?_) (fun g11 => ?_)
 refine oF ?_
 refine oF ?_
 refine oF ?_
 refine oF ?_
 refine R.pkTE rfl rfl cA ?_
 refine nN ?_
 exact ⟨true, HLe.refl _, ⟨Has.nil, (by rw [if_pos g11])⟩, rfl, rfl, rfl, trivial⟩
 refine mA ?_
 refine R.ixA underlying23 sizeOf3 rfl rfl rfl bA bA ?_
 refine R.ldH isAgg3 rfl rfl (a6 _ _ a9) (W24.box (k := .i64) (w := a0) (i := (a1 : Int)) [] bA bA) ?_
 refine R.gtr rfl rfl rfl ?_
 refine R.pkFE rfl rfl cA ?_
 refine nN ?_
 exact ⟨(decide ((4 : Int) < (w24 a0 ((a1 : Int))))), HLe.refl _, ⟨Has.nil, (by rw [if_neg g11])⟩, rfl, rfl, rfl, trivial⟩
 intro a2 σ_c2 H_c2 L_c2 ds_c2 s_c2 b3
 obtain ⟨hLc2, a5⟩ := b3
 refine T.has hLc2 ?_
 refine T.cond rfl (fun a3 => ?_) (fun a3 => ?_)
 refine T.set 16 (.bool true) (congrArg Value.bool a3) ?_
 have a8 := a5.trans a3
 try simp only [or_f, or_t, and_f, and_t, decide_eq_true_eq, decide_eq_false_iff_not, Bool.not_eq_true'] at a8
 refine sR (aA ?_)
 refine nN (T.has Has.nil ?_)
 refine T.ret (Post.blkR (Post.thnR (Post.thnR (Post.blkR (Post.thnR ?_)))))
 have hXl1 : k_96 a0 (24 - 0) 0 () = .ret 141 := by rw [← a7, show 24 - a1 = (24 - (a1 + 1)) + 1 by omega, k_96]; rw [a5, LR.seq_go, if_t a3]
 have hM : k_98 a0 = 141 := by rw [k_98, hXl1, LR.on_ret]
 exact fin1L (v := .int .i64 141) [] rfl rfl (List.Sublist.refl _) ⟨rfl, by first | rw [hM] | rfl⟩
 refine T.set 16 (.bool false) (congrArg Value.bool a3) ?_
 have a8 := a5.trans a3
 try simp only [or_f, or_t, and_f, and_t, decide_eq_true_eq, decide_eq_false_iff_not, Bool.not_eq_true'] at a8
 refine T.skip (Post.blkN ?_)
 refine id (Post.thnN (T.region ?_))
 refine R.addI rfl rfl rfl oA ?_
 refine mA ?_
 refine nN ?_
 exact ⟨a1 + 1, (a6.trans s_c2), ⟨oA, Has.nil, (by rw [← a7, show 24 - a1 = (24 - (a1 + 1)) + 1 by omega, k_96]; rw [a5, LR.seq_go, if_f a3])⟩, by show 24 - (a1 + 1) < 24 - a1; omega, rfl, rfl, trivial⟩
 refine T.exit (Post.thnE (Post.thnE (Post.blkX ?_)))
 have hEl1 : k_96 a0 (24 - 0) 0 () = .go () := (a7.symm.trans (by rw [show a1 = 24 by omega, Nat.sub_self, k_96]))
 refine id (Post.thnN (sR ?_))
 refine aA ?_
 refine nN (T.has Has.nil ?_)
 refine T.ret ?_
 have hM : k_98 a0 = 0 := by rw [k_98, hEl1, LR.on_go]
 exact fin1L (v := .int .i64 0) [] rfl rfl (List.Sublist.refl _) ⟨rfl, by first | rw [hM] | rfl⟩
def k_28 (a0 : List (ZL)) (a1 : W24) (a2 : Int) : Int × Int :=
  if ((k_35 a0) : Int) ≠ 0 then ((0, (k_35 a0))) else (LR.seq (k_1 a2) (fun r21 => if ((kindG a2) : Int) = 2 then (LR.seq (if (0 : Int) ≤ (w24 a1 (((r21.1 - 1) : Int))) then ((decide (((w24 a1 (((r21.1 - 1) : Int))) : Int) ≤ 4))) else false : Bool) (fun sc1 => if sc1 = true then (((w24 a1 (((r21.1 - 1) : Int))), 0)) else ((0, 231)))) else (if ((kindG a2) : Int) = 3 then (LR.seq (k_29 a0 r21.1) (fun r44 => if (!r44.2) = true then ((0, 232)) else ((r44.1.2.2.1, 0)))) else ((0, 2)))))
theorem trait_Width_c (H : Heap) {tG0 : TypeId} (hG0 : gF H 0 tG0) (va0 : Value) (a0 : List (ZL)) (b7 : RdS relationE H va0 a0) (a1 : W24) (a2 : Int) (hl : a0.length ≤ 2000000) : Fv Tryz.prog (fnv 119) [va0, .agg (c24 a1 []).toArray, .int .u64 a2] H (.tuple #[.int .i64 (k_28 a0 a1 a2).1, .int .i64 (k_28 a0 a1 a2).2]) := by
 refine Fc.of_body (N := 51) func119 rfl kA rfl rfl ?_
 intro w0
 obtain ⟨Aa0, ca0, rfl, hca0, hda0, b7⟩ := b7.shape
 refine sR (R.box rfl cA ?_)
 intro b4
 refine aA ?_
 refine aA ?_
 refine TL.shut .hd ?_
 intro c1 a8 c2
 have c3 : c1 b4 = some (.cells (c24 a1 []).toArray 23) := shut1 c2
 refine nN (T.seq (sR (mA ?_)))
 refine R.callv rfl rfl rfl (trait_Check_c _ (a8 _ _ hG0) _ a0 (b7.mono a8)) ?_
 refine aA ?_
 refine nN (sR (mA ?_))
 refine R.neq rfl rfl rfl ?_
 refine nN (T.condD rfl (fun a6 => ?_) (fun a6 => ?_))
 refine T.set 17 (.bool true) (congrArg Value.bool (decide_eq_true a6)) ?_
 refine sR (mA ?_)
 refine aA ?_
 refine aA ?_
 refine nN (T.has Has.nil ?_)
 refine T.ret (Post.thnR ?_)
 have hM : k_28 a0 a1 a2 = (0, (k_35 a0)) := by rw [k_28, if_pos a6]
 exact fin2L (v := .int .i64 0) (v' := .int .i64 (k_35 a0)) [] rfl rfl rfl (List.Sublist.refl _) ⟨rfl, by first | rw [hM] | rfl⟩
 refine T.set 17 (.bool false) (congrArg Value.bool (decide_eq_false a6)) ?_
 refine T.skip (Post.thnN (sR ?_))
 refine mA ?_
 obtain ⟨a4, a5⟩ : ∃ r, r = (k_1 a2) := ⟨_, rfl⟩
 refine R.callv (v := .tuple #[.int .i64 a4.1, .int .i64 a4.2]) rfl rfl rfl (by rw [a5]; exact k_57 _ (a2)) ?_
 refine mA ?_
 refine R.ext rfl rfl rfl ?_
 refine R.ext rfl rfl rfl ?_
 refine aA ?_
 refine aA ?_
 refine nN (T.seq (sR (mA ?_)))
 refine R.callv rfl rfl rfl (kindG_c _ a2) ?_
 refine nN (T.block (sR (R.eql rfl rfl rfl ?_)))
 refine aA ?_
 refine nN (T.condD rfl (fun a7 => ?_) (fun a7 => ?_))
 refine T.set 26 (.bool true) (congrArg Value.bool (decide_eq_true a7)) ?_
 refine T.seq (T.seq ?_)
 have hk2 := kind2_idx (x := a2) oA
 rw [← a5] at hk2
 refine T.region (mA ?_)
 refine R.subI rfl rfl rfl oA ?_
 refine R.ixA underlying23 sizeOf3 rfl rfl rfl bA bA ?_
 refine R.ldH isAgg3 rfl rfl c3 (W24.box (k := .i64) (w := a1) (i := ((a4.1 - 1) : Int)) [] bA bA) ?_
 refine aA ?_
 refine nN (T.seq (T.cutK (ι := Bool) (fun a9 H' L' ds' => Has L' [] ∧ (if (0 : Int) ≤ (w24 a1 (((a4.1 - 1) : Int))) then ((decide (((w24 a1 (((a4.1 - 1) : Int))) : Int) ≤ 4))) else false : Bool) = a9) (fun a9 => [(11, .int .i64 (w24 a1 (((a4.1 - 1) : Int)))), (37, .bool (a9))]) ?_ ?_))
 refine T.region (mA ?_)
 refine R.geq rfl rfl rfl ?_
 refine mA ?_
 refine TL.gsplitD 34 rfl (fun g34 => ?_) (fun g34 => ?_)
 refine mA ?_
 refine R.leq rfl rfl rfl ?_
 refine R.pkTE rfl rfl cA ?_
 refine nN ?_
 exact ⟨(decide (((w24 a1 (((a4.1 - 1) : Int))) : Int) ≤ 4)), HLe.refl _, ⟨Has.nil, (by rw [if_pos g34])⟩, rfl, rfl, trivial⟩
 refine oF ?_
 refine oF ?_
 refine R.pkFE rfl rfl cA ?_
 refine nN ?_
 exact ⟨false, HLe.refl _, ⟨Has.nil, (by rw [if_neg g34])⟩, rfl, rfl, trivial⟩
 intro a9 σ_c1 H_c1 L_c1 ds_c1 s_c1 c4
 obtain ⟨hLc1, b2⟩ := c4
 refine T.has hLc1 ?_
 refine T.cond rfl (fun b0 => ?_) (fun b0 => ?_)
 refine T.set 37 (.bool true) (congrArg Value.bool b0) ?_
 have b6 := b2.trans b0
 try simp only [or_f, or_t, and_f, and_t, decide_eq_true_eq, decide_eq_false_iff_not, Bool.not_eq_true'] at b6
 refine sR (mA ?_)
 refine aA ?_
 refine aA ?_
 refine nN (T.has Has.nil ?_)
 refine T.ret (Post.thnR (Post.blkR (Post.thnR ?_)))
 have hM : k_28 a0 a1 a2 = ((w24 a1 (((a4.1 - 1) : Int))), 0) := by subst a5; rw [k_28, if_neg a6, LR.seq_go, if_pos a7, b2, LR.seq_go, if_t b0]
 exact fin2L (v := .int .i64 (w24 a1 (((a4.1 - 1) : Int)))) (v' := .int .i64 0) [] rfl rfl rfl (List.Sublist.refl _) ⟨rfl, by first | rw [hM] | rfl⟩
 refine T.set 37 (.bool false) (congrArg Value.bool b0) ?_
 have b6 := b2.trans b0
 try simp only [or_f, or_t, and_f, and_t, decide_eq_true_eq, decide_eq_false_iff_not, Bool.not_eq_true'] at b6
 refine T.skip (Post.thnN (sR ?_))
 refine aA ?_
 refine aA ?_
 refine nN (T.has Has.nil ?_)
 refine T.ret (Post.blkR (Post.thnR ?_))
 have hM : k_28 a0 a1 a2 = (0, 231) := by subst a5; rw [k_28, if_neg a6, LR.seq_go, if_pos a7, b2, LR.seq_go, if_f b0]
 exact fin2L (v := .int .i64 0) (v' := .int .i64 231) [] rfl rfl rfl (List.Sublist.refl _) ⟨rfl, by first | rw [hM] | rfl⟩
 refine T.set 26 (.bool false) (congrArg Value.bool (decide_eq_false a7)) ?_
 refine sR (R.eql rfl rfl rfl ?_)
 refine aA ?_
 refine nN (T.condD rfl (fun b1 => ?_) (fun b1 => ?_))
 refine T.set 39 (.bool true) (congrArg Value.bool (decide_eq_true b1)) ?_
 refine sR (mA ?_)
 refine mA ?_
 obtain ⟨a3, b3⟩ : ∃ r, r = (k_29 a0 a4.1) := ⟨_, rfl⟩
 refine R.callv (v := .tuple #[.agg #[.bool a3.1.1, .bool a3.1.2.1, .int .i64 a3.1.2.2.1, .int .i64 a3.1.2.2.2.1, .int .i64 a3.1.2.2.2.2], .bool a3.2]) rfl rfl rfl (by rw [b3]; exact trait_Find_c _ (a8 _ _ hG0) _ a0 (b7.mono a8) (a4.1) bA) ?_
 have tp44 := find_pol _ _ _ b3 bA
 refine mA ?_
 refine R.ext rfl rfl rfl ?_
 refine R.ext rfl rfl rfl ?_
 refine R.alloc zeroValue51 rfl ?_
 intro b12
 refine stY (l := [.bool (a3.1.1), .bool (a3.1.2.1), .int .i64 (a3.1.2.2.1), .int .i64 (a3.1.2.2.2.1), .int .i64 (a3.1.2.2.2.2)]) (new := [.bool (a3.1.1), .bool (a3.1.2.1), .int .i64 (a3.1.2.2.1), .int .i64 (a3.1.2.2.2.1), .int .i64 (a3.1.2.2.2.2)]) .hd sizeOf51 rfl rfl ?_
 refine aA ?_
 refine TL.shut .hd ?_
 intro b8 sb12_2 b9
 have c0 : b8 b12 = some (.cells #[.bool (a3.1.1), .bool (a3.1.2.1), .int .i64 (a3.1.2.2.1), .int .i64 (a3.1.2.2.2.1), .int .i64 (a3.1.2.2.2.2)] 51) := shut1 b9
 refine nN (T.seq (sR (mA ?_)))
 refine R.not rfl rfl ?_
 refine nN (T.cond rfl (fun b5 => ?_) (fun b5 => ?_))
 refine T.set 48 (.bool true) (congrArg Value.bool b5) ?_
 refine sR (aA ?_)
 refine aA ?_
 refine nN (T.has Has.nil ?_)
 refine T.ret (Post.thnR (Post.blkR (Post.thnR ?_)))
 have hM : k_28 a0 a1 a2 = (0, 232) := by subst b3; subst a5; rw [k_28, if_neg a6, LR.seq_go, if_neg a7, if_pos b1, LR.seq_go, if_t b5]
 exact fin2L (v := .int .i64 0) (v' := .int .i64 232) [] rfl rfl rfl (List.Sublist.refl _) ⟨rfl, by first | rw [hM] | rfl⟩
 refine T.set 48 (.bool false) (congrArg Value.bool b5) ?_
 refine T.skip (Post.thnN (sR ?_))
 refine fA underlying51 rfl sizeOf3 ?_
 refine R.ldH isAgg3 rfl rfl c0 rfl ?_
 refine aA ?_
 refine aA ?_
 refine nN (T.has Has.nil ?_)
 refine T.ret (Post.blkR (Post.thnR ?_))
 have hM : k_28 a0 a1 a2 = (a3.1.2.2.1, 0) := by subst b3; subst a5; rw [k_28, if_neg a6, LR.seq_go, if_neg a7, if_pos b1, LR.seq_go, if_f b5]
 exact fin2L (v := .int .i64 (a3.1.2.2.1)) (v' := .int .i64 0) [] rfl rfl rfl (List.Sublist.refl _) ⟨rfl, by first | rw [hM] | rfl⟩
 refine T.set 39 (.bool false) (congrArg Value.bool (decide_eq_false b1)) ?_
 refine T.skip (Post.blkN ?_)
 refine id (Post.thnN (sR ?_))
 refine aA ?_
 refine aA ?_
 refine nN (T.has Has.nil ?_)
 refine T.ret ?_
 have hM : k_28 a0 a1 a2 = (0, 2) := by subst a5; rw [k_28, if_neg a6, LR.seq_go, if_neg a7, if_neg b1]
 exact fin2L (v := .int .i64 0) (v' := .int .i64 2) [] rfl rfl rfl (List.Sublist.refl _) ⟨rfl, by first | rw [hM] | rfl⟩
def k_3f (r18 : Int × Int) : List Int → ((List Int)) → (List Int)
  | [], sl2 => sl2
  | yl2 :: ysl2, sl2 => LR.seq (k_82 r18.1 yl2) (fun r50 => LR.seq (if r50.2 = 0 then ((decide (yl2 ≠ r18.2))) else false : Bool) (fun sc3 => if sc3 = true then (k_3f r18 ysl2 ((sl2 ++ [r50.1]))) else (k_3f r18 ysl2 sl2)))
def k_2e (a0 : List (ZL)) (a1 : List Int) (a2 : Int) : (List Int) :=
  LR.seq (k_1 a2) (fun r18 => LR.seq (k_29 a0 r18.1) (fun r24 => LR.seq (if ((kindG a2) : Int) ≠ 3 then true else (if (!r24.2) = true then true else (!r24.1.2.1)) : Bool) (fun sc1 => if sc1 = true then [] else (LR.seq (k_4f a1 r18.1) (fun r41 => LR.seq (k_3f r18 r41 []) (fun ol2 => ol2))))))
theorem trait_Replaced_c (H : Heap) {tG0 : TypeId} (hG0 : gF H 0 tG0) (va0 : Value) (a0 : List (ZL)) (ha0 : RdS relationE H va0 a0) (va1 : Value) (a1 : List Int) (ha1 : RdS (intE .u64) H va1 a1) (a2 : Int) (hl : a0.length ≤ 2000000) (hl2 : a1.length ≤ 2000000) : Fc Tryz.prog (fnv 183) [va0, va1, .int .u64 a2] H [] (fun v' H' L' => ∃ e0 e1, v' = e0 ∧ L' = [e1] ∧ OwnS (intE .u64) 39 H' e0 (k_2e a0 a1 a2) e1) := by
 refine Fc.of_body (N := 66) func183 rfl kA rfl rfl ?_
 intro w0
 obtain ⟨Aa0, ca0, rfl, hca0, hda0, ha0⟩ := ha0.shape
 obtain ⟨Aa1, ca1, rfl, hca1, hda1, ha1⟩ := ha1.shape
 refine sR (aA ?_)
 refine nN (sR (mA ?_))
 obtain ⟨a5, d1⟩ : ∃ r, r = (k_1 a2) := ⟨_, rfl⟩
 refine R.callv (v := .tuple #[.int .i64 a5.1, .int .i64 a5.2]) rfl rfl rfl (by rw [d1]; exact k_57 _ (a2)) ?_
 refine mA ?_
 refine R.ext rfl rfl rfl ?_
 refine R.ext rfl rfl rfl ?_
 refine aA ?_
 refine aA ?_
 refine nN (sR (mA ?_))
 refine mA ?_
 obtain ⟨a4, c2⟩ : ∃ r, r = (k_29 a0 a5.1) := ⟨_, rfl⟩
 refine R.callv (v := .tuple #[.agg #[.bool a4.1.1, .bool a4.1.2.1, .int .i64 a4.1.2.2.1, .int .i64 a4.1.2.2.2.1, .int .i64 a4.1.2.2.2.2], .bool a4.2]) rfl rfl rfl (by rw [c2]; exact trait_Find_c _ hG0 _ a0 ha0 (a5.1) bA) ?_
 have tp24 := find_pol _ _ _ c2 bA
 refine mA ?_
 refine R.ext rfl rfl rfl ?_
 refine R.ext rfl rfl rfl ?_
 refine R.alloc zeroValue51 rfl ?_
 intro b9
 refine stY (l := [.bool (a4.1.1), .bool (a4.1.2.1), .int .i64 (a4.1.2.2.1), .int .i64 (a4.1.2.2.2.1), .int .i64 (a4.1.2.2.2.2)]) (new := [.bool (a4.1.1), .bool (a4.1.2.1), .int .i64 (a4.1.2.2.1), .int .i64 (a4.1.2.2.2.1), .int .i64 (a4.1.2.2.2.2)]) .hd sizeOf51 rfl rfl ?_
 refine aA ?_
 refine TL.shut .hd ?_
 intro e2 e3 e4
 have e5 : e2 b9 = some (.cells #[.bool (a4.1.1), .bool (a4.1.2.1), .int .i64 (a4.1.2.2.1), .int .i64 (a4.1.2.2.2.1), .int .i64 (a4.1.2.2.2.2)] 51) := shut1 e4
 refine nN (T.seq (T.seq (T.cutK (ι := Bool) (fun b1 H' L' ds' => Has L' [] ∧ (if ((kindG a2) : Int) ≠ 3 then true else (if (!a4.2) = true then true else (!a4.1.2.1)) : Bool) = b1) (fun b1 => [(1, .slice Aa1 a1.length ca1), (7, .int .i64 (a5.1)), (8, .int .i64 (a5.2)), (38, .bool (b1))]) ?_ ?_)))
 refine T.region (mA ?_)
 refine R.callv rfl rfl rfl (kindG_c _ a2) ?_
 refine R.neq rfl rfl rfl ?_
 refine mA ?_
 refine TL.gsplitD 30 rfl (fun d9 => ?_) (fun d9 => ?_)
 refine oF ?_
 refine oF ?_
 refine R.pkTE rfl rfl cA ?_
 refine mA ?_
 refine oF ?_
 refine oF ?_
 refine oF ?_
 refine R.pkTE rfl rfl cA ?_
 refine nN ?_
 exact ⟨true, HLe.refl _, ⟨Has.nil, (by rw [if_pos d9])⟩, rfl, rfl, rfl, rfl, trivial⟩
 refine mA ?_
 refine R.not rfl rfl ?_
 refine R.pkFE rfl rfl cA ?_
 refine mA ?_
 refine TL.gsplit 34 rfl (fun g34 => ?_) (fun g34 => ?_)
 refine oF ?_
 refine oF ?_
 refine oF ?_
 refine R.pkTE rfl rfl cA ?_
 refine nN ?_
 exact ⟨true, HLe.refl _, ⟨Has.nil, (by rw [if_neg d9, if_t g34])⟩, rfl, rfl, rfl, rfl, trivial⟩
 refine fA underlying51 rfl sizeOf4 ?_
 refine R.ldH isAgg4 rfl rfl e5 rfl ?_
 refine R.not rfl rfl ?_
 refine R.pkFE rfl rfl cA ?_
 refine nN ?_
 exact ⟨(!a4.1.2.1), HLe.refl _, ⟨Has.nil, (by rw [if_neg d9, if_f g34])⟩, rfl, rfl, rfl, rfl, trivial⟩
 intro b1 σ_c1 H_c1 L_c1 ds_c1 s_c1 e6
 obtain ⟨hLc1, c3⟩ := e6
 refine T.has hLc1 ?_
 refine T.cond rfl (fun b6 => ?_) (fun b6 => ?_)
 refine T.set 38 (.bool true) (congrArg Value.bool b6) ?_
 have d2 := c3.trans b6
 try simp only [or_f, or_t, and_f, and_t, decide_eq_true_eq, decide_eq_false_iff_not, Bool.not_eq_true'] at d2
 refine sR (aA ?_)
 refine nN (T.has (Has.none Has.nil) ?_)
 refine T.ret (Post.thnR ?_)
 have hM : k_2e a0 a1 a2 = [] := by subst c2; subst d1; rw [k_2e, LR.seq_go, LR.seq_go, c3, LR.seq_go, if_t b6]
 exact fin1L (v := .slice none 0 0) [[]] rfl rfl (List.Sublist.refl _) ⟨.slice none 0 0, [], by first | rw [hM] | rfl, rfl, by rw [hM]; exact OwnS.nil⟩
 refine T.set 38 (.bool false) (congrArg Value.bool b6) ?_
 have d2 := c3.trans b6
 try simp only [or_f, or_t, and_f, and_t, decide_eq_true_eq, decide_eq_false_iff_not, Bool.not_eq_true'] at d2
 refine T.skip (Post.thnN (sR ?_))
 refine aA ?_
 refine nN (T.seq (sR (mA ?_)))
 refine mA ?_
 obtain ⟨a7, d3⟩ : ∃ r, r = (k_4f a1 a5.1) := ⟨_, rfl⟩
 refine TL.call [] rfl rfl rfl (types_Targets_c _ _ a1 (ha1.mono (e3.trans s_c1)) (a5.1) bA) ?_
 intro v41 H41 L41 s41 q41
 rw [← d3] at q41
 obtain ⟨e9, f0, rfl, rfl, b8⟩ := q41
 obtain ⟨c0, c1, rfl, f1, f2⟩ := OwnS.shape b8
 have tT41 := targets_len _ _ _ d3
 refine R.len underlying25 rfl rfl ?_
 refine mA ?_
 refine nN (T.block (T.shut .hd ?_))
 intro e7 c4 c5
 have c6 := OwnS.read b8 c4 c5
 refine T.loop (ι := Nat × Value × (List Int) × Chunk) (fun ⟨a6, a9, a3, a8⟩ H' L' ds' => a6 ≤ a7.length ∧ Has L' [a8] ∧ OwnS (intE .u64) 39 H' a9 a3 a8 ∧ a3.length ≤ a6 ∧ k_3f a5 (a7.drop a6) a3 = k_3f a5 a7 []) (fun ⟨a6, a9, a3, a8⟩ => [(43, .int .i64 (a6 : Int)), (7, .int .i64 (a5.1)), (8, .int .i64 (a5.2)), (11, a9), (41, .slice c0 a7.length c1), (42, .int .i64 (a7.length : Int))]) (fun ⟨a6, a9, a3, a8⟩ => a7.length - a6) (0, .slice none 0 0, [], []) ?_ ?_ ?_
 exact ⟨oA, (Has.none Has.nil), OwnS.nil, bA, (by rfl)⟩
 exact ⟨rfl, rfl, rfl, rfl, rfl, rfl, trivial⟩
 intro ⟨a6, a9, a3, a8⟩ σ_l2 H_l2 L_l2 ds_l2 d4 c7
 obtain ⟨hkl2, c7⟩ := c7
 obtain ⟨hLl2, b2, hBl2_0, d5⟩ := c7
 obtain ⟨b3, b4, rfl, m11l2, n11l2_⟩ := OwnS.shape b2
 refine T.has hLl2 ?_
 refine sR (R.lss rfl rfl rfl ?_)
 refine nN (T.seq (T.condD rfl (fun c44 => ?_) (fun c44 => ?_)))
 have hltl2 : a6 < a7.length := by omega
 obtain ⟨d0, d6⟩ := getk (xs := a7) (k := a6) oA
 refine T.skip (Post.thnN (T.seq ?_))
 refine T.block (sR ?_)
 obtain ⟨b45, o45, i45, k45⟩ := RdS.elem (c6.mono d4) d6
 obtain ⟨l45, g45, k45⟩ := k45
 obtain rfl : l45 = [.int .i64 d0] := g45
 refine R.ixp underlying25 sizeOf3 rfl rfl rfl oA i45 ?_
 refine R.ldC isAgg3 rfl rfl (k45 0 _ rfl) ?_
 refine aA ?_
 refine nN (sR (mA ?_))
 refine mA ?_
 obtain ⟨b0, d7⟩ : ∃ r, r = (k_82 a5.1 d0) := ⟨_, rfl⟩
 refine R.callv (v := .tuple #[.int .u64 b0.1, .int .i64 b0.2]) rfl rfl rfl (by rw [d7]; exact ident_Pair_c _ (a5.1) (d0)) ?_
 refine mA ?_
 refine R.ext rfl rfl rfl ?_
 refine R.ext rfl rfl rfl ?_
 refine aA ?_
 refine aA ?_
 refine nN (T.seq (T.cutK (ι := Bool) (fun b5 H' L' ds' => Has L' [a8] ∧ (if b0.2 = 0 then ((decide (d0 ≠ a5.2))) else false : Bool) = b5) (fun b5 => [(7, .int .i64 (a5.1)), (8, .int .i64 (a5.2)), (11, .slice b3 a3.length b4), (14, .int .u64 (b0.1)), (41, .slice c0 a7.length c1), (42, .int .i64 (a7.length : Int)), (43, .int .i64 (a6 : Int)), (59, .bool (b5))]) ?_ ?_))
 refine T.region (mA ?_)
 refine R.eql rfl rfl rfl ?_
 refine mA ?_
 refine TL.gsplitD 55 rfl (fun g55 => ?_) (fun g55 => ?_)
 refine mA ?_
 refine mA ?_
 refine R.neq rfl rfl rfl ?_
 refine R.pkTE rfl rfl cA ?_
 refine nN ?_
 exact ⟨(decide (d0 ≠ a5.2)), HLe.refl _, ⟨(Has.cons .hd Has.nil), (by rw [if_pos g55])⟩, rfl, rfl, rfl, rfl, rfl, rfl, rfl, rfl, trivial⟩
 refine oF ?_
 refine oF ?_
 refine oF ?_
 refine R.pkFE rfl rfl cA ?_
 refine nN ?_
 exact ⟨false, HLe.refl _, ⟨(Has.cons .hd Has.nil), (by rw [if_neg g55])⟩, rfl, rfl, rfl, rfl, rfl, rfl, rfl, rfl, trivial⟩
 intro b5 σ_c3 H_c3 L_c3 ds_c3 c8 e8
 obtain ⟨hLc3, c9⟩ := e8
 refine T.has hLc3 ?_
 refine T.cond rfl (fun b7 => ?_) (fun b7 => ?_)
 refine T.set 59 (.bool true) (congrArg Value.bool b7) ?_
 have d8 := c9.trans b7
 try simp only [or_f, or_t, and_f, and_t, decide_eq_true_eq, decide_eq_false_iff_not, Bool.not_eq_true'] at d8
 refine T.region (mA ?_)
 refine mA ?_
 refine R.bs rfl (k_4 underlying44 sizeOf39 zeroValue39 rfl rfl) ?_
 intro b62
 have w62 := lit1 (E := (intE .u64)) (e := 39) (H := H_c3) (b := b62) (y := b0.1) (a := [.int .u64 (b0.1)]) rfl
 obtain ⟨k63, y63, r63⟩ := Src.ownA w62
 refine R.app (E := (intE .u64)) (e := 39) (xs := a3) (ys := [b0.1]) k_2b rfl rfl rfl (OwnS.mono b2 c8) (.tl .hd) (r63 _ .hd) y63 lA lA ?_
 intro v63 c63 w63
 obtain ⟨A63, p63, rfl, m63, n63⟩ := OwnS.shape w63
 refine TL.del (.tl .hd) ?_
 refine aA ?_
 refine TL.nil (Post.blkN ?_)
 refine id (Post.thnN (T.region ?_))
 refine R.addI rfl rfl rfl oA ?_
 refine mA ?_
 refine nN ?_
 exact ⟨(a6 + 1, sl A63 (a3 ++ [b0.1]) p63, (a3 ++ [b0.1]), c63), (d4.trans c8), ⟨oA, (Has.cons .hd Has.nil), w63, bA, (by subst d7; rw [← d5, k_8 d6, k_3f]; rw [LR.seq_go, c9, LR.seq_go, if_t b7])⟩, by show a7.length - (a6 + 1) < a7.length - a6; omega, rfl, rfl, rfl, rfl, rfl, rfl, trivial⟩
 refine T.set 59 (.bool false) (congrArg Value.bool b7) ?_
 have d8 := c9.trans b7
 try simp only [or_f, or_t, and_f, and_t, decide_eq_true_eq, decide_eq_false_iff_not, Bool.not_eq_true'] at d8
 refine T.skip (Post.blkN ?_)
 refine id (Post.thnN (T.region ?_))
 refine R.addI rfl rfl rfl oA ?_
 refine mA ?_
 refine nN ?_
 exact ⟨(a6 + 1, sl b3 a3 b4, a3, a8), (d4.trans c8), ⟨oA, (Has.cons .hd Has.nil), (OwnS.mono b2 c8), bA, (by subst d7; rw [← d5, k_8 d6, k_3f]; rw [LR.seq_go, c9, LR.seq_go, if_f b7])⟩, by show a7.length - (a6 + 1) < a7.length - a6; omega, rfl, rfl, rfl, rfl, rfl, rfl, trivial⟩
 refine T.exit (Post.thnE (Post.thnE (Post.blkX ?_)))
 have hEl2 : k_3f a5 a7 [] = a3 := (d5.symm.trans (by rw [show a6 = a7.length by omega, List.drop_length, k_3f]))
 refine id (Post.thnN (sR ?_))
 refine mA ?_
 refine aA ?_
 refine nN (T.has (Has.cons .hd Has.nil) ?_)
 refine T.ret ?_
 have hM : k_2e a0 a1 a2 = a3 := by subst d3; subst c2; subst d1; rw [k_2e, LR.seq_go, LR.seq_go, c3, LR.seq_go, if_f b6, LR.seq_go, hEl2, LR.seq_go]
 exact fin1L (v := sl b3 a3 b4) [a8] rfl rfl (List.Sublist.refl _) ⟨sl b3 a3 b4, a8, by first | rw [hM] | rfl, rfl, by rw [hM]; exact b2⟩
theorem ite_le {c : Prop} [Decidable c] {α : Type} {a b : List α} {n : Nat} (h1 : a.length ≤ n) (h2 : b.length ≤ n) : (if c then a else b).length ≤ n := by split <;> assumption
theorem repl_l2 (p : Int × Int) : ∀ (l acc : List Int), (k_3f p l acc).length ≤ acc.length + l.length
  | [], acc => Nat.le_refl _
  | y :: ys, acc => by
    rw [k_3f, LR.seq_go, LR.seq_go]
    refine ite_le ?_ ?_
    · have := repl_l2 p ys (acc ++ [(k_82 p.1 y).1]); rw [List.length_append] at this; simp only [List.length_cons, List.length_nil] at this ⊢; omega
    · have := repl_l2 p ys acc; simp only [List.length_cons]; omega
theorem repl_len (a : List Rl) (l : List Int) (x : Int) (r : List Int) (e : r = k_2e a l x) : r.length ≤ l.length := by
  rw [e]
  unfold k_2e
  simp only [LR.seq_go]
  have h1 := targets_len l (k_1 x).1 _ rfl
  have h2 := repl_l2 (k_1 x) (k_4f l (k_1 x).1) []
  simp only [List.length_nil] at h2
  refine ite_le (Nat.zero_le _) ?_
  omega
def trait_New_m  : (List (ZL)) :=
  [((1, (true, true, 0, 1, 2)) : ZL), ((2, (true, false, 0, 0, 2)) : ZL)]
theorem trait_New_c (H : Heap) {tG0 : TypeId} (hG0 : gF H 0 tG0) : Fc Tryz.prog (fnv 85) [] H [] (fun v' H' L' => ∃ a0 a1, v' = a0 ∧ L' = [a1] ∧ OwnS relationE 55 H' a0 trait_New_m a1) := by
 refine Fc.of_body (N := 3) func85 rfl kA rfl rfl ?_
 intro w0
 refine sR (aA ?_)
 refine nN (sR ?_)
 have z1 : RdS relationE H (.slice (some ⟨0, 0, none⟩) 2 2) [((1, (true, true, 0, 1, 2)) : ZL), ((2, (true, false, 0, 0, 2)) : ZL)] := RdS.lit (xs := [((1, (true, true, 0, 1, 2)) : ZL), ((2, (true, false, 0, 0, 2)) : ZL)]) (cs := [.int .i64 1, .bool true, .bool true, .int .i64 0, .int .i64 1, .int .i64 2, .int .i64 2, .bool true, .bool false, .int .i64 0, .int .i64 0, .int .i64 2]) hG0 (k_5 (a := [.int .i64 1, .bool true, .bool true, .int .i64 0, .int .i64 1, .int .i64 2]) rfl (k_5 (a := [.int .i64 2, .bool true, .bool false, .int .i64 0, .int .i64 0, .int .i64 2]) rfl k_7)) (by show 2 ≤ maxLen; decide)
 refine R.sAr (n := 1) underlying185 sizeOf55 rfl rfl ?_
 refine TL.call [] rfl rfl rfl (k_80 _ _ ([((1, (true, true, 0, 1, 2)) : ZL), ((2, (true, false, 0, 0, 2)) : ZL)]) z1 bA) ?_
 intro v2 H2 L2 s2 q2
 obtain ⟨c2, rfl, w2⟩ := q2
 obtain ⟨x2, e2⟩ : ∃ x, x = [((1, (true, true, 0, 1, 2)) : ZL), ((2, (true, false, 0, 0, 2)) : ZL)] := ⟨_, rfl⟩
 rw [← e2] at w2
 obtain ⟨A2, p2, rfl, m2, n2⟩ := OwnS.shape w2
 have t2 : x2.length = ([((1, (true, true, 0, 1, 2)) : ZL), ((2, (true, false, 0, 0, 2)) : ZL)]).length := by rw [e2]
 refine aA ?_
 refine nN (T.has (Has.cons .hd Has.nil) ?_)
 refine T.ret ?_
 have hM : trait_New_m = x2 := by subst e2; rw [trait_New_m]
 exact fin1L (v := sl A2 x2 p2) [c2] rfl rfl (List.Sublist.refl _) ⟨sl A2 x2 p2, c2, by first | rw [hM] | rfl, rfl, by rw [hM]; exact w2⟩
end Go.SX
namespace Go.SX
open Go
abbrev Rw := Int × List Int × List (List Int)
abbrev Sta := W24 × (Int × List (Int × Bool) × List Int) × List (Int × Bool × Bool × Int × Int × Int) × List Rw
structure RowS (r : Rw) : Prop where
  t : r.2.1.length ≤ 1000
  v : r.2.2.length ≤ 1000
  w : ∀ x ∈ r.2.2, x.length ≤ 1000
def idsN (l : List Rw) : Nat := (l.map (fun r => r.2.1.length)).sum
structure StS (s : Sta) : Prop where
  slots : s.2.1.2.1.length ≤ 1000000
  free : s.2.1.2.2.length ≤ 1000000
  rels : s.2.2.1.length ≤ 100000
  rows : s.2.2.2.length ≤ 100000
  row : ∀ r ∈ s.2.2.2, RowS r
  ids : idsN s.2.2.2 ≤ 1000
end Go.SX
