/- SX: whether two pairs are the same. -/
import Derived.Test.YtkhjpgimjkofcaaSxC
import Derived.Laws.StructEq
set_option linter.unusedVariables false
set_option linter.unusedSimpArgs false
namespace Go.SX
open Go
attribute [local semireducible] T TL
theorem run_eq_pair {P : Program} {t i : TypeId} {f1 f2 : Field} (hu : P.underlying t = some (.struct #[f1, f2])) (hs : P.stoodInHeld t = false) (n1 : f1.name ≠ "_") (n2 : f2.name ≠ "_") (t1 : f1.type = i) (t2 : f2.type = i) (o1 : f1.offset = 0) (o2 : f2.offset = 1)
    (hi : P.underlying i = some (.int .i64)) (ha : ∀ w, (isAgg i).run P w = .ok false w) (a b : Int × Int) (w : World) : (Op.equalIn 10000 t (.agg #[.int .i64 a.1, .int .i64 a.2]) (.agg #[.int .i64 b.1, .int .i64 b.2])).run P w = .ok (decide (a = b)) w := by
  have hf : P.fieldsOf t = #[f1, f2] := by unfold Program.fieldsOf; rw [hu]
  rw [run_equalIn_struct w 9999 t _ _ (by rw [hf]; exact hu) hs, hf]
  have e1 : (a.1 == b.1) = decide (a.1 = b.1) := by rw [Bool.eq_iff_iff]; simp
  have e2 : (a.2 == b.2) = decide (a.2 = b.2) := by rw [Bool.eq_iff_iff]; simp
  have hab : decide (a = b) = (decide (a.1 = b.1) && decide (a.2 = b.2)) := by
    rw [Bool.eq_iff_iff]; simp [Prod.ext_iff]
  rw [hab]
  by_cases h1 : a.1 = b.1
  · by_cases h2 : a.2 = b.2
    · simp [Op.eqFields, n1, n2, t1, t2, o1, o2, part, ha, run_equalIn_int w _ i .i64 .i64 _ _ hi, h1, h2]
    · simp [Op.eqFields, n1, n2, t1, t2, o1, o2, part, ha, run_equalIn_int w _ i .i64 .i64 _ _ hi, h1, h2]
  · simp [Op.eqFields, n1, n2, t1, t2, o1, o2, part, ha, run_equalIn_int w _ i .i64 .i64 _ _ hi, h1]
section
variable {fr : Fr} {x : Cx} {Q : Post} {σ : Env} {H : Heap} {L : Own} {ds : List Nat} {ol rest : List Oper} {d : Nat} {ty : TypeId} {p : String} {af : Array Edge} {g : Option (Nat × Bool)}
theorem R.eqP {X Y : Operand} {t yt : TypeId} {a b : Int × Int} (he : ∀ (a b : Int × Int) w, (Op.equalIn 10000 t (.agg #[.int .i64 a.1, .int .i64 a.2]) (.agg #[.int .i64 b.1, .int .i64 b.2])).run fr.P w = .ok (decide (a = b)) w) (hm : fr.P.eqGuardType fr.P.depth t = false)
    (hw : wan fr.N ol σ d g = true) (hx : ev σ X = .agg #[.int .i64 a.1, .int .i64 a.2]) (hy : ev σ Y = .agg #[.int .i64 b.1, .int .i64 b.2])
    (h : TL fr x ol rest Q (upd σ d (.bool (decide (a = b)))) H L ds) : TL fr x ol (⟨some d, .binOp .eql t X Y yt, ty, p, af, g⟩ :: rest) Q σ H L ds :=
  TL.pureE hw rfl (fun w => by simp [execOp, hx, hy, run_eqGuard_agg w .eql t X Y _ _ hm, run_eql_struct, he a b w, Result.andThen]) h
theorem R.neP {X Y : Operand} {t yt : TypeId} {a b : Int × Int} (he : ∀ (a b : Int × Int) w, (Op.equalIn 10000 t (.agg #[.int .i64 a.1, .int .i64 a.2]) (.agg #[.int .i64 b.1, .int .i64 b.2])).run fr.P w = .ok (decide (a = b)) w) (hm : fr.P.eqGuardType fr.P.depth t = false)
    (hw : wan fr.N ol σ d g = true) (hx : ev σ X = .agg #[.int .i64 a.1, .int .i64 a.2]) (hy : ev σ Y = .agg #[.int .i64 b.1, .int .i64 b.2])
    (h : TL fr x ol rest Q (upd σ d (.bool (decide (a ≠ b)))) H L ds) : TL fr x ol (⟨some d, .binOp .neq t X Y yt, ty, p, af, g⟩ :: rest) Q σ H L ds :=
  TL.pureE hw rfl (fun w => by simp [execOp, hx, hy, run_eqGuard_agg w .neq t X Y _ _ hm, run_neq_struct, he a b w, Result.andThen]) h
end
end Go.SX
