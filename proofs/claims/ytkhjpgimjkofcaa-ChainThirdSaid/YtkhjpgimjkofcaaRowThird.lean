/- 'ChainThird' answers true, whatever it is handed, and what it is handed reads behind it as it did. -/
import Derived.Test.YtkhjpgimjkofcaaRows
import Derived.Test.YtkhjpgimjkofcaaL6Third
import Derived.Test.YtkhjpgimjkofcaaFy
import Derived.ProofKit
set_option linter.unusedVariables false
namespace Go.Proofs.Ytkhjpgimjkofcaa
open Go.ChangeShapes Go.WideShapes Go.ChangeAt Go.RowKit Go.SX

theorem chainThird_own : ownKnob Try.prog.godebug = none := by kernel_rfl
theorem chainThird_laid : laidOutB Try.prog = true := by kernel_rfl

set_option maxRecDepth 100000 in
theorem chainThird_lifted (os : Os) (started : os.Started) (H : Type) (enc : TypeId × Value → H) :
    ReturnsInHanded {} Try.checked os 9 .any (Rows.chainThirdSpec.pre6 enc Try.prog Try.f9 Rows.chainThirdRow.domain false) (Rows.chainThirdSpec.post enc Try.prog Try.f9 false true false false) := by
  refine returnsInHanded_of_change (C := Try.checked) chainThird_own started (by kernel_rfl) Try.func9
    (ChangeSpec.witness6 (enc := enc) (C := Try.checked) false ⟨#[], #[.slice none 0 0, .agg #[.int .i64 0, .int .i64 0], .int .i64 0], []⟩ 8 (by kernel_rfl) (by kernel_rfl) (by kernel_rfl) (by kernel_rfl)) ?_
  intro W base args ds gs before hval0 hW hcnd _
  have hval : ∀ (j : Nat) t v, Try.f9.params[j]? = some t → args[j]? = some v → Value.okWide Try.prog W .any base t v := hval0
  have hW' := hW
  obtain ⟨p, q, hA0, hV, rfl, hfz, hnd⟩ := hW
  have hA : DataW.TrodAll enc Try.prog W 0 (fun _ => true) true Try.f9.params.toList args.toList ds p := hA0
  rw [Try.params9] at hA hval
  clear hA0 hval0
  obtain ⟨v0, vs0, d0, ds0, p0, q0, e0, rfl, rfl, h0, r0⟩ := trodAll_cons hA
  obtain ⟨v1, vs1, d1, ds1, p1, q1, e1, rfl, rfl, h1, r1⟩ := trodAll_cons r0
  subst e1
  obtain ⟨v2, vs2, d2, ds2, p2, q2, e2, rfl, rfl, h2, r2⟩ := trodAll_cons r1
  subst e2
  obtain ⟨e3, rfl, rfl⟩ := trodAll_nil r2
  subst e3
  obtain rfl : args = #[v0, v1, v2] := by cases args; simp_all
  obtain ⟨rfl, rfl⟩ := trodVars_none hV
  obtain ⟨xs0, hr0, hw0⟩ := open_sl Try.underlying22 (Opn.slice Try.underlying22 (by kernel_rfl) (Opn.pair Try.underlying37 (by kernel_rfl) rfl rfl rfl rfl Try.underlying3 (by kernel_rfl)) (by decide)) (hval 0 22 v0 rfl rfl) h0
  obtain ⟨cs1, x1, rfl, hx1, hw1⟩ := open_agg (.inr ⟨_, _, Try.underlying61⟩) (Opn.two Try.underlying61 (by kernel_rfl) Try.underlying3 (by kernel_rfl)) (hval 1 61 v1 rfl rfl) h1
  obtain rfl := agg_pair hx1
  obtain ⟨x2, rfl, rfl, rfl, hw2⟩ := open_int Try.underlying3 (hval 2 3 v2 rfl rfl) h2
  have hpar : ∀ t ∈ Try.f9.params.toList, Try.prog.readableRec t = true ∧ t < Try.prog.types.size := by
    intro t ht
    rw [Try.params9] at ht
    simp only [List.mem_cons, List.not_mem_nil, or_false] at ht
    rcases ht with rfl | rfl | rfl
    · exact ⟨by kernel_rfl, of_decide_eq_true (by kernel_rfl)⟩
    · exact ⟨by kernel_rfl, of_decide_eq_true (by kernel_rfl)⟩
    · exact ⟨by kernel_rfl, of_decide_eq_true (by kernel_rfl)⟩
  refine (calls_of_Fv Try.func9 rfl (by kernel_rfl) (chainThird_c _ _ xs0 x1 x2 hr0)).mono fun e W' ⟨he, hb⟩ => ?_
  subst he
  exact ⟨_, rfl, post_true chainThird_laid hW' rfl hpar rfl rfl Try.underlying4 hb⟩

theorem chainThird_holds : Rows.ChainThirdSaid :=
  OpenClaim.holds_of_wide 9 Try.f9 rfl rfl rfl rfl rfl rfl rfl ⟨rfl, rfl, rfl, rfl, rfl⟩ rfl rfl rfl rfl rfl (by kernel_rfl) Try.func9 (by kernel_rfl)
    (of_decide_eq_true (by kernel_rfl)) (by unfold Func.isWrapper; first | (rw [if_pos (by decide +kernel)]; kernel_rfl) | (rw [if_neg (by decide +kernel)]; exact ⟨rfl, rfl⟩))
    (fun os started H enc _ => chainThird_lifted os started H enc)
end Go.Proofs.Ytkhjpgimjkofcaa
