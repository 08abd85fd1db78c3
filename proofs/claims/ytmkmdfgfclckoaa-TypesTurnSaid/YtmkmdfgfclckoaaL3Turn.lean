/- TypesTurn answers true, whatever the input. -/
import Derived.Test.YtmkmdfgfclckoaaL31
import Derived.Test.YtmkmdfgfclckoaaWu
set_option linter.unusedVariables false
set_option linter.unusedSimpArgs false
namespace Go.SX
open Go Go.Proofs

set_option maxHeartbeats 1600000 in
theorem turn_c (H : Heap) (v : Value) (xs : List Int) (x : Int) (hr : RdS (intE .u64) H v xs) (hU : Us xs) (hx : U x) : Fv Try.prog (fnv 5) [v, .int .u64 x] H (.bool true) := by
  refine Fc.of_body (N := 84) Try.func5 rfl (by kernel_rfl) rfl rfl ?_
  intro w0
  obtain ⟨A, c, rfl, hc1, hc2, hr⟩ := hr.shape
  obtain ⟨fx, hfx⟩ : ∃ l, l = xs.take 20 := ⟨_, rfl⟩
  have hfU : Us fx := by rw [hfx]; exact few_us hU
  have hfl : fx.length ≤ 1000 := by rw [hfx]; simp; omega
  refine T.seq ?_
  refine T.region ?_
  refine R.asE rfl (by conv => lhs; whnf) ?_
  refine TL.nil (Post.thnN ?_)
  refine T.seq ?_
  refine T.seq ?_
  refine T.region ?_
  refine R.callv rfl rfl rfl (wakes_c _) ?_
  refine R.not rfl rfl ?_
  refine TL.nil (Post.thnN ?_)
  refine T.condN rfl ?_
  refine T.skip (Post.thnN ?_)
  refine T.seq ?_
  refine T.region ?_
  refine R.mvE rfl (by conv => lhs; whnf) ?_
  refine TL.call [] rfl rfl rfl (few_c _ _ _ hr) ?_
  intro v15 H15 L15 s15 q15
  obtain ⟨c15, rfl, w15⟩ := q15
  refine TL.shut .hd ?_
  intro HF15 sF15 qF15
  rw [← hfx] at w15
  have f15 := w15.read sF15 qF15
  obtain ⟨AF15, pF15, rfl, mF15, nF15, f15⟩ := f15.shape
  refine R.asE rfl (by conv => lhs; whnf) ?_
  refine TL.nil (Post.thnN ?_)
  refine T.seq ?_
  refine T.region ?_
  refine R.mvE rfl (by conv => lhs; whnf) ?_
  refine R.mvE rfl (by conv => lhs; whnf) ?_
  refine TL.call [] rfl rfl rfl (With_c _ _ _ x f15 hfU hx hfl) ?_
  intro v19 H19 L19 s19 q19
  obtain ⟨r19, c19, hv19, rfl, w19⟩ := q19
  obtain ⟨m, hm⟩ : ∃ m, m = (withR fx x).1 := ⟨_, rfl⟩
  obtain ⟨e, he⟩ : ∃ e, e = (withR fx x).2 := ⟨_, rfl⟩
  rw [← hm] at w19
  rw [← he] at hv19
  subst hv19
  refine TL.shut .hd ?_
  intro HW19 sW19 qW19
  have g19 := w19.read sW19 qW19
  obtain ⟨AW19, pW19, rfl, mW19, nW19, g19⟩ := g19.shape
  refine R.mvE rfl (by conv => lhs; whnf) ?_
  refine R.ext rfl rfl rfl ?_
  refine R.ext rfl rfl rfl ?_
  refine R.asE rfl (by conv => lhs; whnf) ?_
  refine R.asE rfl (by conv => lhs; whnf) ?_
  refine TL.nil (Post.thnN ?_)
  refine T.seq ?_
  refine T.seq ?_
  refine T.region ?_
  refine R.mvE rfl (by conv => lhs; whnf) ?_
  refine R.neq rfl rfl rfl ?_
  refine TL.nil (Post.thnN ?_)
  refine T.condD rfl (fun c23 => ?_) (fun c23 => ?_)
  · have hm0 : m = [] := by rw [hm]; exact withR_err (by rw [← he]; exact c23)
    refine T.seq ?_
    refine T.region ?_
    refine R.mvE rfl (by conv => lhs; whnf) ?_
    refine R.len Try.underlying22 rfl rfl ?_
    refine R.eql rfl rfl rfl ?_
    refine R.asE rfl (by conv => lhs; whnf) ?_
    refine TL.nil (Post.thnN ?_)
    refine T.ret (Post.thnR ?_)
    -- way y
    exact fin1 rfl rfl ⟨rfl, congrArg Value.bool (decide_eq_true (by rw [hm0]; rfl))⟩
  · have hw0 : (withR fx x).2 = 0 := by rw [← he]; omega
    obtain ⟨ht, hmx, hn12, hwe⟩ := withR_ok hw0
    have hmm : m = insU fx x := by rw [hm, hwe]
    have hxm : x ∈ m := by rw [hmm]; exact ins_mem.2 (.inl rfl)
    have htm : typeB m = true := by rw [hmm]; exact typeB_ins ht hmx hn12
    have hmU : Us m := by rw [hmm]; exact us_ins hfU hx
    have hml : m.length ≤ 1000 := by rw [hmm]; omega
    have hw2 : withR m x = (m, 0) := by rw [withR_d htm hmx (by rw [ins_self hxm, hmm]; exact hn12), ins_self hxm]
    have hw3 : withoutR m x = (delU m x, 0) := withoutR_in htm hxm
    have hdl0 := del_len (typeB_iff.1 htm).2.2 hxm
    have hdU : Us (delU m x) := fun y hy => by
      rw [del_eq (typeB_iff.1 htm).2.2 hxm] at hy; exact hmU y (List.mem_filter.1 hy).1
    have hdl : (delU m x).length ≤ 1000 := by omega
    have hnx := del_not m (typeB_iff.1 htm).2.2 hxm
    refine T.skip (Post.thnN ?_)
    refine T.seq ?_
    refine T.region ?_
    refine R.mvE rfl (by conv => lhs; whnf) ?_
    refine R.mvE rfl (by conv => lhs; whnf) ?_
    refine TL.call [] rfl rfl rfl (With_c _ _ _ x g19 hmU hx hml) ?_
    intro v30 H30 L30 s30 q30
    obtain ⟨r30, c30, hv30, rfl, w30⟩ := q30
    rw [hw2] at w30 hv30
    subst hv30
    refine TL.shut .hd ?_
    intro HW30 sW30 qW30
    have g30 := w30.read sW30 qW30
    obtain ⟨AW30, pW30, rfl, mW30, nW30, g30⟩ := g30.shape
    refine R.mvE rfl (by conv => lhs; whnf) ?_
    refine R.ext rfl rfl rfl ?_
    refine R.ext rfl rfl rfl ?_
    refine R.asE rfl (by conv => lhs; whnf) ?_
    refine R.asE rfl (by conv => lhs; whnf) ?_
    refine TL.nil (Post.thnN ?_)
    refine T.seq ?_
    refine T.region ?_
    refine R.mvE rfl (by conv => lhs; whnf) ?_
    refine R.mvE rfl (by conv => lhs; whnf) ?_
    refine TL.call [] rfl rfl rfl (Without_c _ _ _ x (g19.mono (s30.trans sW30)) hmU hml) ?_
    intro v36 H36 L36 s36 q36
    obtain ⟨r36, c36, hv36, rfl, w36⟩ := q36
    rw [hw3] at w36 hv36
    subst hv36
    refine TL.shut .hd ?_
    intro HW36 sW36 qW36
    have g36 := w36.read sW36 qW36
    obtain ⟨AW36, pW36, rfl, mW36, nW36, g36⟩ := g36.shape
    refine R.mvE rfl (by conv => lhs; whnf) ?_
    refine R.ext rfl rfl rfl ?_
    refine R.ext rfl rfl rfl ?_
    refine R.asE rfl (by conv => lhs; whnf) ?_
    refine R.asE rfl (by conv => lhs; whnf) ?_
    refine TL.nil (Post.thnN ?_)
    refine T.seq ?_
    refine T.seq ?_
    refine T.region ?_
    refine R.mvE rfl (by conv => lhs; whnf) ?_
    refine R.neq rfl rfl rfl ?_
    refine R.mvE rfl (by conv => lhs; whnf) ?_
    refine TL.set 41 (.bool false) (congrArg Value.bool (decide_eq_false (fun h => h rfl))) ?_
    refine R.mvE rfl (by conv => lhs; whnf) ?_
    refine R.neq rfl rfl rfl ?_
    refine R.pkFE rfl rfl (by conv => lhs; whnf) ?_
    refine R.mvE rfl (by conv => lhs; whnf) ?_
    refine TL.set 45 (.bool false) (congrArg Value.bool (decide_eq_false (fun h => h rfl))) ?_
    refine R.mvE rfl (by conv => lhs; whnf) ?_
    refine R.mvE rfl (by conv => lhs; whnf) ?_
    refine R.callv rfl rfl rfl (Has_c _ _ _ x (g19.mono ((s30.trans sW30).trans (s36.trans sW36))) hmU hml) ?_
    refine R.not rfl rfl ?_
    refine R.pkFE rfl rfl (by conv => lhs; whnf) ?_
    refine R.mvE rfl (by conv => lhs; whnf) ?_
    refine TL.set 51 (.bool false) (congrArg Value.bool (by rw [has_yes htm hxm]; rfl)) ?_
    refine R.mvE rfl (by conv => lhs; whnf) ?_
    refine R.mvE rfl (by conv => lhs; whnf) ?_
    refine R.callv rfl rfl rfl (Has_c _ _ _ x g36 hdU hdl) ?_
    refine R.pkFE rfl rfl (by conv => lhs; whnf) ?_
    refine R.mvE rfl (by conv => lhs; whnf) ?_
    refine TL.set 56 (.bool false) (congrArg Value.bool (has_not hnx)) ?_
    refine R.mvE rfl (by conv => lhs; whnf) ?_
    refine R.mvE rfl (by conv => lhs; whnf) ?_
    refine R.callv rfl rfl rfl (equalU22_c _ _ _ _ _ (g30.mono (s36.trans sW36)) (g19.mono ((s30.trans sW30).trans (s36.trans sW36)))) ?_
    refine R.not rfl rfl ?_
    refine R.pkFE rfl rfl (by conv => lhs; whnf) ?_
    refine R.mvE rfl (by conv => lhs; whnf) ?_
    refine TL.set 62 (.bool false) (congrArg Value.bool (by simp)) ?_
    refine R.mvE rfl (by conv => lhs; whnf) ?_
    refine R.callv rfl rfl rfl (check_c _ _ _ (g19.mono ((s30.trans sW30).trans (s36.trans sW36))) hmU) ?_
    refine R.neq rfl rfl rfl ?_
    refine R.pkFE rfl rfl (by conv => lhs; whnf) ?_
    refine TL.nil (Post.thnN ?_)
    refine T.set 66 (.bool false) (congrArg Value.bool (by simp [htm])) ?_
    refine T.condN rfl ?_
    refine T.skip (Post.thnN ?_)
    refine T.seq ?_
    refine T.seq ?_
    refine T.region ?_
    refine R.mvE rfl (by conv => lhs; whnf) ?_
    refine R.mvE rfl (by conv => lhs; whnf) ?_
    refine R.callv rfl rfl rfl (Has_c _ _ _ x (f15.mono ((s19.trans sW19).trans ((s30.trans sW30).trans (s36.trans sW36)))) hfU hfl) ?_
    refine TL.nil (Post.thnN ?_)
    refine T.cond rfl (fun c69 => ?_) (fun c69 => ?_)
    · have hxf := has_mem c69
      have hmf : m = fx := by rw [hmm, ins_self hxf]
      have hml2 : m.length = fx.length := by rw [hmf]
      refine T.seq ?_
      refine T.region ?_
      refine R.mvE rfl (by conv => lhs; whnf) ?_
      refine R.mvE rfl (by conv => lhs; whnf) ?_
      refine R.callv rfl rfl rfl (equalU22_c _ _ _ _ _ (g19.mono ((s30.trans sW30).trans (s36.trans sW36))) (f15.mono ((s19.trans sW19).trans ((s30.trans sW30).trans (s36.trans sW36))))) ?_
      refine R.mvE rfl (by conv => lhs; whnf) ?_
      refine TL.set 73 (.bool true) (congrArg Value.bool (decide_eq_true hmf)) ?_
      refine R.mvE rfl (by conv => lhs; whnf) ?_
      refine R.len Try.underlying22 rfl rfl ?_
      refine R.mvE rfl (by conv => lhs; whnf) ?_
      refine R.len Try.underlying22 rfl rfl ?_
      refine R.subI rfl rfl rfl (by omega) ?_
      refine R.eql rfl rfl rfl ?_
      refine R.pkTE rfl rfl (by conv => lhs; whnf) ?_
      refine R.asE rfl (by conv => lhs; whnf) ?_
      refine TL.nil (Post.thnN ?_)
      refine T.ret (Post.thnR ?_)
      -- way ny
      exact fin1 rfl rfl ⟨rfl, congrArg Value.bool (decide_eq_true (by show ((delU m x).length : Int) = (fx.length : Int) - 1; omega))⟩
    · have hxf : ¬ x ∈ fx := fun h => by rw [has_yes ht h] at c69; cases c69
      refine T.skip (Post.thnN ?_)
      refine T.seq ?_
      refine T.region ?_
      refine R.mvE rfl (by conv => lhs; whnf) ?_
      refine R.mvE rfl (by conv => lhs; whnf) ?_
      refine R.callv rfl rfl rfl (equalU22_c _ _ _ _ _ g36 (f15.mono ((s19.trans sW19).trans ((s30.trans sW30).trans (s36.trans sW36))))) ?_
      refine R.asE rfl (by conv => lhs; whnf) ?_
      refine TL.nil (Post.thnN ?_)
      refine T.ret ?_
      -- way nn
      exact fin1 rfl rfl ⟨rfl, congrArg Value.bool (decide_eq_true (by show delU m x = fx; rw [hmm]; exact del_ins (typeB_iff.1 ht).2.2 hxf))⟩

end Go.SX
