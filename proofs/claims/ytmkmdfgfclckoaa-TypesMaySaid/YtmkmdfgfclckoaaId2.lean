/- Kind, Parts, Takes of ident. -/
import Derived.Test.YtmkmdfgfclckoaaId1
set_option linter.unusedVariables false
set_option linter.unusedSimpArgs false
namespace Go.SX
open Go Go.Proofs

set_option maxHeartbeats 1600000 in
theorem kind_c (H : Heap) (x : Int) (hx : U x) : Fv Try.prog (fnv 39) [.int .u64 x] H (.int .i64 (kindI x)) := by
  refine Fc.of_body (N := 26) Try.func39 rfl (by kernel_rfl) rfl rfl ?_
  intro w0
  refine T.seq ?_
  refine T.region ?_
  refine R.box rfl (by conv => lhs; whnf) ?_
  intro b1
  refine R.asE rfl (by conv => lhs; whnf) ?_
  refine TL.nil (Post.thnN ?_)
  refine T.seq ?_
  refine T.region ?_
  refine R.ld Try.isAgg28 rfl rfl (by repeat (first | exact .hd | refine .tl ?_)) rfl ?_
  refine R.callv rfl rfl rfl (halves_c _ _ hx) ?_
  refine R.mvE rfl (by conv => lhs; whnf) ?_
  refine R.ext rfl rfl rfl ?_
  refine R.ext rfl rfl rfl ?_
  refine R.alloc Try.zeroValue3 rfl ?_
  intro b3
  refine R.alloc Try.zeroValue3 rfl ?_
  intro b4
  refine R.st Try.sizeOf3 rfl rfl (by conv => lhs; whnf) rfl (by first | exact .hd | exact .tl .hd | exact .tl (.tl .hd) | exact .tl (.tl (.tl .hd)) | exact .tl (.tl (.tl (.tl .hd))) | exact .tl (.tl (.tl (.tl (.tl .hd)))) | exact .tl (.tl (.tl (.tl (.tl (.tl .hd))))) | exact .tl (.tl (.tl (.tl (.tl (.tl (.tl .hd)))))) | exact .tl (.tl (.tl (.tl (.tl (.tl (.tl (.tl .hd))))))) | exact .tl (.tl (.tl (.tl (.tl (.tl (.tl (.tl (.tl .hd))))))))) ?_
  refine R.st Try.sizeOf3 rfl rfl (by conv => lhs; whnf) rfl (by first | exact .hd | exact .tl .hd | exact .tl (.tl .hd) | exact .tl (.tl (.tl .hd)) | exact .tl (.tl (.tl (.tl .hd))) | exact .tl (.tl (.tl (.tl (.tl .hd)))) | exact .tl (.tl (.tl (.tl (.tl (.tl .hd))))) | exact .tl (.tl (.tl (.tl (.tl (.tl (.tl .hd)))))) | exact .tl (.tl (.tl (.tl (.tl (.tl (.tl (.tl .hd))))))) | exact .tl (.tl (.tl (.tl (.tl (.tl (.tl (.tl (.tl .hd))))))))) ?_
  refine TL.nil (Post.thnN ?_)
  refine T.seq ?_
  refine T.shut .hd ?_
  intro H4 s4 q4
  refine T.shut .hd ?_
  intro H3 s3 q3
  refine T.shut .hd ?_
  intro H1 s1 q1
  have h4 : H1 b4 = some (.cells #[.int .i64 (hB x)] 3) := s1 _ _ (s3 _ _ (shut1 q4))
  have h3 : H1 b3 = some (.cells #[.int .i64 (hA x)] 3) := s1 _ _ (shut1 q3)
  have h1 : H1 b1 = some (.cells #[.int .u64 x] 28) := shut1 q1
  refine T.region ?_
  refine R.mkf (cs := [_, _, _]) rfl rfl ?_
  refine R.mkf (cs := [_, _]) rfl rfl ?_
  refine R.mkf (cs := [_, _, _]) rfl rfl ?_
  refine R.mkf (cs := [_, _, _]) rfl rfl ?_
  refine R.bld (cs := ([.nilFunc, .func (.func 74) #[] ([.pointer (some ⟨b1, 0, none⟩), .pointer (some ⟨b3, 0, none⟩), .pointer (some ⟨b4, 0, none⟩)] : List Value).toArray, .func (.func 75) #[] ([.pointer (some ⟨b1, 0, none⟩), .pointer (some ⟨b4, 0, none⟩)] : List Value).toArray, .func (.func 76) #[] ([.pointer (some ⟨b1, 0, none⟩), .pointer (some ⟨b3, 0, none⟩), .pointer (some ⟨b4, 0, none⟩)] : List Value).toArray, .func (.func 77) #[] ([.pointer (some ⟨b1, 0, none⟩), .pointer (some ⟨b3, 0, none⟩), .pointer (some ⟨b4, 0, none⟩)] : List Value).toArray])) rfl (fun _ => by kernel_rfl) ?_
  refine R.alloc Try.zeroValue76 rfl ?_
  intro b5
  refine R.stA (old := [.nilFunc, .nilFunc, .nilFunc, .nilFunc, .nilFunc]) Try.sizeOf76 rfl rfl rfl rfl rfl (by intro v hv; simp at hv; rcases hv with rfl | rfl | rfl | rfl | rfl <;> rfl) .hd ?_
  refine TL.shut .hd ?_
  intro H5 s5 q5
  have h5 := shut1 q5
  refine TL.nil (Post.thnN ?_)
  refine T.seq ?_
  refine T.seq ?_
  refine T.region ?_
  refine R.asE rfl (by conv => lhs; whnf) ?_
  refine TL.nil (Post.thnN ?_)
  refine T.block ?_
  refine T.loop (ι := Nat) (fun k H' L' ds' => (1 ≤ k ∧ k ≤ 5) ∧ ∀ j, 1 ≤ j → j < k → kb x j = false) (fun k => [(5, .pointer (some ⟨b5, 0, none⟩)), (6, .int .i64 (k : Nat))]) (fun k => 5 - k) (1) ?_ ?_ ?_
  · exact ⟨⟨by omega, by omega⟩, fun j h1 h2 => absurd h2 (by omega)⟩
  · exact ⟨rfl, rfl, trivial⟩
  · intro k σ0 H_0 L_0 ds_0 s_0 hI_0
    obtain ⟨hk, hlt⟩ := hI_0
    refine T.seq ?_
    refine T.seq ?_
    refine T.region ?_
    refine R.mvE rfl (by conv => lhs; whnf) ?_
    refine R.leq rfl rfl rfl ?_
    refine TL.nil (Post.thnN ?_)
    refine T.condD rfl (fun c18 => ?_) (fun c18 => ?_)
    · obtain ⟨fv, hfv, hcall⟩ : ∃ fv, ([.nilFunc, .func (.func 74) #[] ([.pointer (some ⟨b1, 0, none⟩), .pointer (some ⟨b3, 0, none⟩), .pointer (some ⟨b4, 0, none⟩)] : List Value).toArray, .func (.func 75) #[] ([.pointer (some ⟨b1, 0, none⟩), .pointer (some ⟨b4, 0, none⟩)] : List Value).toArray, .func (.func 76) #[] ([.pointer (some ⟨b1, 0, none⟩), .pointer (some ⟨b3, 0, none⟩), .pointer (some ⟨b4, 0, none⟩)] : List Value).toArray, .func (.func 77) #[] ([.pointer (some ⟨b1, 0, none⟩), .pointer (some ⟨b3, 0, none⟩), .pointer (some ⟨b4, 0, none⟩)] : List Value).toArray] : List Value).toArray[0 + ((k : Nat) : Int).toNat * 1]? = some fv ∧ ∀ H', HLe H5 H' → Fv Try.prog fv [] H' (.bool (kb x k)) := by
        have hk4 : k = 1 ∨ k = 2 ∨ k = 3 ∨ k = 4 := by omega
        rcases hk4 with rfl | rfl | rfl | rfl
        · exact ⟨_, rfl, fun H' s => kind1_c H' x b1 b3 b4 hx (s _ _ (s5 _ _ h1)) (s _ _ (s5 _ _ h3)) (s _ _ (s5 _ _ h4))⟩
        · exact ⟨_, rfl, fun H' s => kind2_c H' x b1 b3 b4 hx (s _ _ (s5 _ _ h1)) (s _ _ (s5 _ _ h3)) (s _ _ (s5 _ _ h4))⟩
        · exact ⟨_, rfl, fun H' s => kind3_c H' x b1 b3 b4 hx (s _ _ (s5 _ _ h1)) (s _ _ (s5 _ _ h3)) (s _ _ (s5 _ _ h4))⟩
        · exact ⟨_, rfl, fun H' s => kind4_c H' x b1 b3 b4 hx (s _ _ (s5 _ _ h1)) (s _ _ (s5 _ _ h3)) (s _ _ (s5 _ _ h4))⟩
      refine T.skip (Post.thnN ?_)
      refine T.seq ?_
      refine T.block ?_
      refine T.seq ?_
      refine T.region ?_
      refine R.mvE rfl (by conv => lhs; whnf) ?_
      refine R.ixA Try.underlying76 Try.sizeOf24 rfl rfl rfl (by omega) (by omega) ?_
      refine R.ldH Try.isAgg24 rfl rfl (s_0 _ _ h5) (hfv) ?_
      refine R.callv rfl rfl rfl (hcall _ s_0) ?_
      refine TL.nil (Post.thnN ?_)
      refine T.cond rfl (fun c24 => ?_) (fun c24 => ?_)
      · refine T.seq ?_
        refine T.region ?_
        refine R.mvE rfl (by conv => lhs; whnf) ?_
        refine R.asE rfl (by conv => lhs; whnf) ?_
        refine TL.nil (Post.thnN ?_)
        refine T.ret (Post.blkR (Post.thnR (Post.thnR (Post.blkR (Post.thnR ?_)))))
        -- way yy
        exact fin1 rfl rfl ⟨rfl, congrArg (Value.int .i64) (kind_at hk.1 (by omega) c24 hlt).symm⟩
      · refine T.skip (Post.blkN ?_)
        refine id (Post.thnN ?_)
        refine T.region ?_
        refine R.mvE rfl (by conv => lhs; whnf) ?_
        refine R.addI rfl rfl rfl (by omega) ?_
        refine R.asE rfl (by conv => lhs; whnf) ?_
        refine TL.nil (Post.thnN ?_)
        -- round's end, way yn
        exact ⟨k + 1, s_0, ⟨⟨by omega, by omega⟩, fun j j1 j2 => if e : j = k then by rw [e]; exact c24 else hlt j j1 (by omega)⟩, by omega, ⟨rfl, rfl, trivial⟩⟩
    · refine T.exit (Post.thnE (Post.thnE (Post.blkX ?_)))
      refine id (Post.thnN ?_)
      refine T.seq ?_
      refine T.region ?_
      refine R.asE rfl (by conv => lhs; whnf) ?_
      refine TL.nil (Post.thnN ?_)
      refine T.ret ?_
      -- way n
      exact fin1 rfl rfl ⟨rfl, congrArg (Value.int .i64) (kind_none (fun j j1 j2 => hlt j j1 (by omega))).symm⟩


set_option maxHeartbeats 1600000 in
theorem parts_c (H : Heap) (x : Int) (hx : U x) : Fv Try.prog (fnv 42) [.int .u64 x] H (.tuple #[.int .i64 (partsI x).1, .int .i64 (partsI x).2]) := by
  refine Fc.of_body (N := 23) Try.func42 rfl (by kernel_rfl) rfl rfl ?_
  intro w0
  refine T.seq ?_
  refine T.region ?_
  refine R.asE rfl (by conv => lhs; whnf) ?_
  refine R.asE rfl (by conv => lhs; whnf) ?_
  refine TL.nil (Post.thnN ?_)
  refine T.seq ?_
  refine T.region ?_
  refine R.mvE rfl (by conv => lhs; whnf) ?_
  refine R.callv rfl rfl rfl (halves_c _ _ hx) ?_
  refine R.mvE rfl (by conv => lhs; whnf) ?_
  refine R.ext rfl rfl rfl ?_
  refine R.ext rfl rfl rfl ?_
  refine R.asE rfl (by conv => lhs; whnf) ?_
  refine R.asE rfl (by conv => lhs; whnf) ?_
  refine TL.nil (Post.thnN ?_)
  refine T.seq ?_
  refine T.seq ?_
  refine T.region ?_
  refine R.mvE rfl (by conv => lhs; whnf) ?_
  refine R.callv rfl rfl rfl (kind_c _ _ hx) ?_
  refine TL.nil (Post.thnN ?_)
  refine T.block ?_
  refine T.seq ?_
  refine T.seq ?_
  refine T.region ?_
  refine R.eql rfl rfl rfl ?_
  refine R.asE rfl (by conv => lhs; whnf) ?_
  refine TL.nil (Post.thnN ?_)
  refine T.condD rfl (fun c13 => ?_) (fun c13 => ?_)
  · refine T.set 13 (.bool true) (congrArg Value.bool (decide_eq_true c13)) ?_
    refine T.skip (Post.thnN ?_)
    refine T.condY rfl ?_
    refine T.seq ?_
    refine T.region ?_
    refine R.mvE rfl (by conv => lhs; whnf) ?_
    refine R.mvE rfl (by conv => lhs; whnf) ?_
    refine R.asE rfl (by conv => lhs; whnf) ?_
    refine R.asE rfl (by conv => lhs; whnf) ?_
    refine TL.nil (Post.thnN ?_)
    refine T.ret (Post.blkR (Post.thnR ?_))
    -- way y
    exact fin2 rfl rfl rfl ⟨rfl, tup2 (by unfold partsI; split <;> first | rfl | omega | (split <;> first | rfl | omega)) (by unfold partsI; split <;> first | rfl | omega | (split <;> first | rfl | omega))⟩
  · refine T.set 13 (.bool false) (congrArg Value.bool (decide_eq_false c13)) ?_
    refine T.region ?_
    refine R.eql rfl rfl rfl ?_
    refine R.asE rfl (by conv => lhs; whnf) ?_
    refine TL.nil (Post.thnN ?_)
    refine T.condD rfl (fun c13 => ?_) (fun c13 => ?_)
    · refine T.set 13 (.bool true) (congrArg Value.bool (decide_eq_true c13)) ?_
      refine T.seq ?_
      refine T.region ?_
      refine R.mvE rfl (by conv => lhs; whnf) ?_
      refine R.mvE rfl (by conv => lhs; whnf) ?_
      refine R.asE rfl (by conv => lhs; whnf) ?_
      refine R.asE rfl (by conv => lhs; whnf) ?_
      refine TL.nil (Post.thnN ?_)
      refine T.ret (Post.blkR (Post.thnR ?_))
      -- way ny
      exact fin2 rfl rfl rfl ⟨rfl, tup2 (by unfold partsI; split <;> first | rfl | omega | (split <;> first | rfl | omega)) (by unfold partsI; split <;> first | rfl | omega | (split <;> first | rfl | omega))⟩
    · refine T.set 13 (.bool false) (congrArg Value.bool (decide_eq_false c13)) ?_
      refine T.seq ?_
      refine T.seq ?_
      refine T.region ?_
      refine R.eql rfl rfl rfl ?_
      refine R.asE rfl (by conv => lhs; whnf) ?_
      refine TL.nil (Post.thnN ?_)
      refine T.condD rfl (fun c18 => ?_) (fun c18 => ?_)
      · refine T.set 18 (.bool true) (congrArg Value.bool (decide_eq_true c18)) ?_
        refine T.skip (Post.thnN ?_)
        refine T.condY rfl ?_
        refine T.seq ?_
        refine T.region ?_
        refine R.mvE rfl (by conv => lhs; whnf) ?_
        refine R.mvE rfl (by conv => lhs; whnf) ?_
        refine R.asE rfl (by conv => lhs; whnf) ?_
        refine R.asE rfl (by conv => lhs; whnf) ?_
        refine TL.nil (Post.thnN ?_)
        refine T.ret (Post.blkR (Post.thnR ?_))
        -- way nny
        exact fin2 rfl rfl rfl ⟨rfl, tup2 (by unfold partsI; split <;> first | rfl | omega | (split <;> first | rfl | omega)) (by unfold partsI; split <;> first | rfl | omega | (split <;> first | rfl | omega))⟩
      · refine T.set 18 (.bool false) (congrArg Value.bool (decide_eq_false c18)) ?_
        refine T.region ?_
        refine R.eql rfl rfl rfl ?_
        refine R.asE rfl (by conv => lhs; whnf) ?_
        refine TL.nil (Post.thnN ?_)
        refine T.condD rfl (fun c18 => ?_) (fun c18 => ?_)
        · refine T.set 18 (.bool true) (congrArg Value.bool (decide_eq_true c18)) ?_
          refine T.seq ?_
          refine T.region ?_
          refine R.mvE rfl (by conv => lhs; whnf) ?_
          refine R.mvE rfl (by conv => lhs; whnf) ?_
          refine R.asE rfl (by conv => lhs; whnf) ?_
          refine R.asE rfl (by conv => lhs; whnf) ?_
          refine TL.nil (Post.thnN ?_)
          refine T.ret (Post.blkR (Post.thnR ?_))
          -- way nnny
          exact fin2 rfl rfl rfl ⟨rfl, tup2 (by unfold partsI; split <;> first | rfl | omega | (split <;> first | rfl | omega)) (by unfold partsI; split <;> first | rfl | omega | (split <;> first | rfl | omega))⟩
        · refine T.set 18 (.bool false) (congrArg Value.bool (decide_eq_false c18)) ?_
          refine T.skip (Post.blkN ?_)
          refine id (Post.thnN ?_)
          refine T.seq ?_
          refine T.region ?_
          refine R.asE rfl (by conv => lhs; whnf) ?_
          refine R.asE rfl (by conv => lhs; whnf) ?_
          refine TL.nil (Post.thnN ?_)
          refine T.ret ?_
          -- way nnnn
          exact fin2 rfl rfl rfl ⟨rfl, tup2 (by unfold partsI; split <;> first | rfl | omega | (split <;> first | rfl | omega)) (by unfold partsI; split <;> first | rfl | omega | (split <;> first | rfl | omega))⟩


set_option maxHeartbeats 1600000 in
theorem takes_c (H : Heap) (p x : Int) (hp : U p) (hx : U x) : Fv Try.prog (fnv 52) [.int .u64 p, .int .u64 x] H (.bool (takesB p x)) := by
  refine Fc.of_body (N := 49) Try.func52 rfl (by kernel_rfl) rfl rfl ?_
  intro w0
  refine T.seq ?_
  refine T.region ?_
  refine R.asE rfl (by conv => lhs; whnf) ?_
  refine TL.nil (Post.thnN ?_)
  refine T.seq ?_
  refine T.seq ?_
  refine T.region ?_
  refine R.mvE rfl (by conv => lhs; whnf) ?_
  refine R.callv rfl rfl rfl (kind_c _ _ hp) ?_
  refine R.neq rfl rfl rfl ?_
  refine TL.nil (Post.thnN ?_)
  refine T.condD rfl (fun c11 => ?_) (fun c11 => ?_)
  · refine T.seq ?_
    refine T.region ?_
    refine R.mvE rfl (by conv => lhs; whnf) ?_
    refine R.mvE rfl (by conv => lhs; whnf) ?_
    refine R.eql rfl rfl rfl ?_
    refine R.mvE rfl (by conv => lhs; whnf) ?_
    refine TL.gsplitD 15 rfl (fun g15 => ?_) (fun g15 => ?_)
    · refine R.mvE rfl (by conv => lhs; whnf) ?_
      refine R.callv rfl rfl rfl (kind_c _ _ hx) ?_
      refine R.neq rfl rfl rfl ?_
      refine R.pkTE rfl rfl (by conv => lhs; whnf) ?_
      refine R.asE rfl (by conv => lhs; whnf) ?_
      refine TL.nil (Post.thnN ?_)
      refine T.ret (Post.thnR ?_)
      -- way yy
      exact fin1 rfl rfl ⟨rfl, congrArg Value.bool (by rw [Bool.eq_iff_iff]; unfold takesB; split <;> simp only [Bool.and_eq_true, Bool.or_eq_true, decide_eq_true_eq, Bool.false_eq_true, true_iff, false_iff] <;> omega)⟩
    · refine TL.off rfl rfl rfl ?_
      refine TL.off rfl rfl rfl ?_
      refine TL.off rfl rfl rfl ?_
      refine R.pkFE rfl rfl (by conv => lhs; whnf) ?_
      refine R.asE rfl (by conv => lhs; whnf) ?_
      refine TL.nil (Post.thnN ?_)
      refine T.ret (Post.thnR ?_)
      -- way yn
      exact fin1 rfl rfl ⟨rfl, congrArg Value.bool (by rw [Bool.eq_iff_iff]; unfold takesB; split <;> simp only [Bool.and_eq_true, Bool.or_eq_true, decide_eq_true_eq, Bool.false_eq_true, true_iff, false_iff] <;> omega)⟩
  · refine T.skip (Post.thnN ?_)
    refine T.seq ?_
    refine T.seq ?_
    refine T.region ?_
    refine R.mvE rfl (by conv => lhs; whnf) ?_
    refine R.callv rfl rfl rfl (kind_c _ _ hx) ?_
    refine R.neq rfl rfl rfl ?_
    refine TL.nil (Post.thnN ?_)
    refine T.condD rfl (fun c22 => ?_) (fun c22 => ?_)
    · refine T.seq ?_
      refine T.region ?_
      refine R.asE rfl (by conv => lhs; whnf) ?_
      refine TL.nil (Post.thnN ?_)
      refine T.ret (Post.thnR ?_)
      -- way ny
      exact fin1 rfl rfl ⟨rfl, congrArg Value.bool (by rw [Bool.eq_iff_iff]; unfold takesB; split <;> simp only [Bool.and_eq_true, Bool.or_eq_true, decide_eq_true_eq, Bool.false_eq_true, true_iff, false_iff] <;> omega)⟩
    · refine T.skip (Post.thnN ?_)
      refine T.seq ?_
      refine T.region ?_
      refine R.mvE rfl (by conv => lhs; whnf) ?_
      refine R.callv rfl rfl rfl (halves_c _ _ hp) ?_
      refine R.mvE rfl (by conv => lhs; whnf) ?_
      refine R.ext rfl rfl rfl ?_
      refine R.ext rfl rfl rfl ?_
      refine R.asE rfl (by conv => lhs; whnf) ?_
      refine R.asE rfl (by conv => lhs; whnf) ?_
      refine TL.nil (Post.thnN ?_)
      refine T.seq ?_
      refine T.region ?_
      refine R.mvE rfl (by conv => lhs; whnf) ?_
      refine R.callv rfl rfl rfl (halves_c _ _ hx) ?_
      refine R.mvE rfl (by conv => lhs; whnf) ?_
      refine R.ext rfl rfl rfl ?_
      refine R.ext rfl rfl rfl ?_
      refine R.asE rfl (by conv => lhs; whnf) ?_
      refine R.asE rfl (by conv => lhs; whnf) ?_
      refine TL.nil (Post.thnN ?_)
      refine T.seq ?_
      refine T.region ?_
      refine R.mvE rfl (by conv => lhs; whnf) ?_
      refine R.eql rfl rfl rfl ?_
      refine R.mvE rfl (by conv => lhs; whnf) ?_
      refine TL.gsplitD 35 rfl (fun g35 => ?_) (fun g35 => ?_)
      · refine TL.off rfl rfl rfl ?_
        refine TL.off rfl rfl rfl ?_
        refine TL.off rfl rfl rfl ?_
        refine R.pkTE rfl rfl (by conv => lhs; whnf) ?_
        refine R.mvE rfl (by conv => lhs; whnf) ?_
        refine R.mvE rfl (by conv => lhs; whnf) ?_
        refine R.eql rfl rfl rfl ?_
        refine R.mvE rfl (by conv => lhs; whnf) ?_
        refine TL.gsplitD 43 rfl (fun g43 => ?_) (fun g43 => ?_)
        · refine TL.off rfl rfl rfl ?_
          refine TL.off rfl rfl rfl ?_
          refine TL.off rfl rfl rfl ?_
          refine R.pkTE rfl rfl (by conv => lhs; whnf) ?_
          refine R.pkTE rfl rfl (by conv => lhs; whnf) ?_
          refine R.asE rfl (by conv => lhs; whnf) ?_
          refine TL.nil (Post.thnN ?_)
          refine T.ret ?_
          -- way nnyy
          exact fin1 rfl rfl ⟨rfl, congrArg Value.bool (by rw [Bool.eq_iff_iff]; unfold takesB; split <;> simp only [Bool.and_eq_true, Bool.or_eq_true, decide_eq_true_eq, Bool.false_eq_true, true_iff, false_iff] <;> omega)⟩
        · refine R.mvE rfl (by conv => lhs; whnf) ?_
          refine R.mvE rfl (by conv => lhs; whnf) ?_
          refine R.eql rfl rfl rfl ?_
          refine R.pkFE rfl rfl (by conv => lhs; whnf) ?_
          refine R.pkTE rfl rfl (by conv => lhs; whnf) ?_
          refine R.asE rfl (by conv => lhs; whnf) ?_
          refine TL.nil (Post.thnN ?_)
          refine T.ret ?_
          -- way nnyn
          exact fin1 rfl rfl ⟨rfl, congrArg Value.bool (by rw [Bool.eq_iff_iff]; unfold takesB; split <;> simp only [Bool.and_eq_true, Bool.or_eq_true, decide_eq_true_eq, Bool.false_eq_true, true_iff, false_iff] <;> omega)⟩
      · refine R.mvE rfl (by conv => lhs; whnf) ?_
        refine R.mvE rfl (by conv => lhs; whnf) ?_
        refine R.eql rfl rfl rfl ?_
        refine R.pkFE rfl rfl (by conv => lhs; whnf) ?_
        refine R.mvE rfl (by conv => lhs; whnf) ?_
        refine TL.gsplitD 40 rfl (fun g40 => ?_) (fun g40 => ?_)
        · refine R.mvE rfl (by conv => lhs; whnf) ?_
          refine R.eql rfl rfl rfl ?_
          refine R.mvE rfl (by conv => lhs; whnf) ?_
          refine TL.gsplitD 43 rfl (fun g43 => ?_) (fun g43 => ?_)
          · refine TL.off rfl rfl rfl ?_
            refine TL.off rfl rfl rfl ?_
            refine TL.off rfl rfl rfl ?_
            refine R.pkTE rfl rfl (by conv => lhs; whnf) ?_
            refine R.pkTE rfl rfl (by conv => lhs; whnf) ?_
            refine R.asE rfl (by conv => lhs; whnf) ?_
            refine TL.nil (Post.thnN ?_)
            refine T.ret ?_
            -- way nnnyy
            exact fin1 rfl rfl ⟨rfl, congrArg Value.bool (by rw [Bool.eq_iff_iff]; unfold takesB; split <;> simp only [Bool.and_eq_true, Bool.or_eq_true, decide_eq_true_eq, Bool.false_eq_true, true_iff, false_iff] <;> omega)⟩
          · refine R.mvE rfl (by conv => lhs; whnf) ?_
            refine R.mvE rfl (by conv => lhs; whnf) ?_
            refine R.eql rfl rfl rfl ?_
            refine R.pkFE rfl rfl (by conv => lhs; whnf) ?_
            refine R.pkTE rfl rfl (by conv => lhs; whnf) ?_
            refine R.asE rfl (by conv => lhs; whnf) ?_
            refine TL.nil (Post.thnN ?_)
            refine T.ret ?_
            -- way nnnyn
            exact fin1 rfl rfl ⟨rfl, congrArg Value.bool (by rw [Bool.eq_iff_iff]; unfold takesB; split <;> simp only [Bool.and_eq_true, Bool.or_eq_true, decide_eq_true_eq, Bool.false_eq_true, true_iff, false_iff] <;> omega)⟩
        · refine TL.off rfl rfl rfl ?_
          refine TL.off rfl rfl rfl ?_
          refine TL.off rfl rfl rfl ?_
          refine TL.offU rfl rfl ?_
          refine TL.offU rfl rfl ?_
          refine TL.offU rfl rfl ?_
          refine TL.off rfl rfl rfl ?_
          refine R.pkFE rfl rfl (by conv => lhs; whnf) ?_
          refine R.asE rfl (by conv => lhs; whnf) ?_
          refine TL.nil (Post.thnN ?_)
          refine T.ret ?_
          -- way nnnn
          exact fin1 rfl rfl ⟨rfl, congrArg Value.bool (by rw [Bool.eq_iff_iff]; unfold takesB; split <;> simp only [Bool.and_eq_true, Bool.or_eq_true, decide_eq_true_eq, Bool.false_eq_true, true_iff, false_iff] <;> omega)⟩

end Go.SX
