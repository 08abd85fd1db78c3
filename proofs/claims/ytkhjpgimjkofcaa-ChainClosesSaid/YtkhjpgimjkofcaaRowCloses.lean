/- 'ChainCloses' answers true, whatever it is handed, and what it is handed reads behind it as it did. -/
import Derived.Test.YtkhjpgimjkofcaaRows
import Derived.Test.YtkhjpgimjkofcaaL6Closes
import Derived.Test.YtkhjpgimjkofcaaFy
import Derived.ProofKit
set_option linter.unusedVariables false
namespace Go.Proofs.Ytkhjpgimjkofcaa
open Go.ChangeShapes Go.WideShapes Go.ChangeAt Go.RowKit Go.SX

theorem chainCloses_own : ownKnob Try.prog.godebug = none := by kernel_rfl
theorem chainCloses_laid : laidOutB Try.prog = true := by kernel_rfl

set_option maxRecDepth 100000 in
theorem chainCloses_lifted (os : Os) (started : os.Started) (H : Type) (enc : TypeId × Value → H) :
    ReturnsInHanded {} Try.checked os 10 .any (Rows.chainClosesSpec.pre6 enc Try.prog Try.f10 Rows.chainClosesRow.domain false) (Rows.chainClosesSpec.post enc Try.prog Try.f10 false true false false) := by
  refine returnsInHanded_of_change (C := Try.checked) chainCloses_own started (by kernel_rfl) Try.func10
    (ChangeSpec.witness6 (enc := enc) (C := Try.checked) false ⟨#[], #[.slice none 0 0, .agg #[.int .i64 0, .int .i64 0]], []⟩ 8 (by kernel_rfl) (by kernel_rfl) (by kernel_rfl) (by kernel_rfl)) ?_
  intro W base args ds gs before hval0 hW hcnd _
  have hval : ∀ (j : Nat) t v, Try.f10.params[j]? = some t → args[j]? = some v → Value.okWide Try.prog W .any base t v := hval0
  have hW' := hW
  obtain ⟨p, q, hA0, hV, rfl, hfz, hnd⟩ := hW
  have hA : DataW.TrodAll enc Try.prog W 0 (fun _ => true) true Try.f10.params.toList args.toList ds p := hA0
  rw [Try.params10] at hA hval
  clear hA0 hval0
  obtain ⟨v0, vs0, d0, ds0, p0, q0, e0, rfl, rfl, h0, r0⟩ := trodAll_cons hA
  obtain ⟨v1, vs1, d1, ds1, p1, q1, e1, rfl, rfl, h1, r1⟩ := trodAll_cons r0
  subst e1
  obtain ⟨e2, rfl, rfl⟩ := trodAll_nil r1
  subst e2
  obtain rfl : args = #[v0, v1] := by cases args; simp_all
  obtain ⟨rfl, rfl⟩ := trodVars_none hV
  obtain ⟨xs0, hr0, hw0⟩ := open_sl Try.underlying22 (Opn.slice Try.underlying22 (by kernel_rfl) (Opn.pair Try.underlying37 (by kernel_rfl) rfl rfl rfl rfl Try.underlying3 (by kernel_rfl)) (by decide)) (hval 0 22 v0 rfl rfl) h0
  obtain ⟨cs1, x1, rfl, hx1, hw1⟩ := open_agg (.inl ⟨_, Try.underlying37⟩) (Opn.pair Try.underlying37 (by kernel_rfl) rfl rfl rfl rfl Try.underlying3 (by kernel_rfl)) (hval 1 37 v1 rfl rfl) h1
  obtain rfl := agg_pair hx1
  have hpar : ∀ t ∈ Try.f10.params.toList, Try.prog.readableRec t = true ∧ t < Try.prog.types.size := by
    intro t ht
    rw [Try.params10] at ht
    simp only [List.mem_cons, List.not_mem_nil, or_false] at ht
    rcases ht with rfl | rfl
    · exact ⟨by kernel_rfl, of_decide_eq_true (by kernel_rfl)⟩
    · exact ⟨by kernel_rfl, of_decide_eq_true (by kernel_rfl)⟩
  refine (calls_of_Fv Try.func10 rfl (by kernel_rfl) (chainCloses_c _ _ xs0 x1 hr0)).mono fun e W' ⟨he, hb⟩ => ?_
  subst he
  exact ⟨_, rfl, post_true chainCloses_laid hW' rfl hpar rfl rfl Try.underlying4 hb⟩

theorem chainCloses_holds : Rows.ChainClosesSaid :=
  OpenClaim.holds_of_wide 10 Try.f10 rfl rfl rfl rfl rfl rfl rfl ⟨rfl, rfl, rfl, rfl, rfl⟩ rfl rfl rfl rfl rfl (by kernel_rfl) Try.func10 (by kernel_rfl)
    (of_decide_eq_true (by kernel_rfl)) (by unfold Func.isWrapper; first | (rw [if_pos (by decide +kernel)]; kernel_rfl) | (rw [if_neg (by decide +kernel)]; exact ⟨rfl, rfl⟩))
    (fun os started H enc _ => chainCloses_lifted os started H enc)
end Go.Proofs.Ytkhjpgimjkofcaa
