/- FX: a slice of pairs that is handed in. -/
import Derived.Test.YtkhjpgimjkofcaaFw
import Derived.Deep.SlicePairs
set_option linter.unusedVariables false
set_option linter.unusedSimpArgs false
namespace Go.SX
open Go Go.ChangeShapes Go.WideShapes Go.ChangeAt Go.RowKit Go.Deep
section
variable {H : Type} {enc : TypeId × Value → H} {P : Program}
theorem open_rdp {t e i : TypeId} {f0 f1 : Field} {W : World} {r : Reach} {b0 : Nat} {v : Value} {d : DataW H} {p : List MemPlace} (ht : P.underlying t = some (.slice e)) (he : P.underlying e = some (.struct #[f0, f1])) (ce : P.cellsOf e = 2) (o0 : f0.offset = 0) (o1 : f1.offset = 1)
    (t0 : f0.type = i) (t1 : f1.type = i) (hi : P.underlying i = some (.int .i64)) (ci : P.cellsOf i = 1)
    (hval : Value.okWide P W r b0 t v) (h : DataW.Trod enc P W 0 (fun _ => true) true t v d p) : ∃ xs : List (Int × Int), RdS pairE (heapOf W) v xs := by
  obtain ⟨a0, len, cap, rfl⟩ := okWide_slice ht hval
  obtain ⟨fuel, hf⟩ := h
  rcases open_slice_pairs ht he ce o0 o1 (by rw [t0]; exact ci) (by rw [t1]; exact ci) hf with ⟨hcs, hx⟩ | ⟨a, len', cap', m, n, V0, V1, D0, D1, P0, P1, hcs, _, hl, hm, hmm, hx, hcell⟩
  · have : (Value.slice a0 len cap) = .slice none 0 0 := by simpa [Value.cells] using hcs
    rw [this]
    exact ⟨[], RdS.nil⟩
  · have e1 : (Value.slice a0 len cap) = .slice (some a) len' cap' := by simpa [Value.cells] using hcs
    rw [e1]
    have hm' : m = cap' := by simpa using hmm
    subst hm'
    have key : ∀ k, k < m → ∃ x y, V0 k = .int .i64 x ∧ V1 k = .int .i64 y := fun k hk => by
      obtain ⟨_, _, h1, h2⟩ := hcell k hk
      rw [t0] at h1
      rw [t1] at h2
      obtain ⟨x, e2, _⟩ := DataW.trod_int hi h1
      obtain ⟨y, e3, _⟩ := DataW.trod_int hi h2
      exact ⟨x, y, by simpa using e2, by simpa using e3⟩
    have num : ∀ v : Value, ∃ x : Int, (∀ y, v = .int .i64 y → x = y) := fun v => by
      cases v with
      | int k x => exact ⟨x, fun y h => by cases h; rfl⟩
      | _ => exact ⟨0, fun y h => by cases h⟩
    obtain ⟨g0, hg0⟩ := Classical.axiomOfChoice num
    have hv0 : ∀ k, k < m → V0 k = .int .i64 (g0 (V0 k)) := fun k hk => by
      obtain ⟨x, y, h1, _⟩ := key k hk
      rw [hg0 _ x h1]; exact h1
    have hv1 : ∀ k, k < m → V1 k = .int .i64 (g0 (V1 k)) := fun k hk => by
      obtain ⟨x, y, _, h1⟩ := key k hk
      rw [hg0 _ y h1]; exact h1
    refine ⟨(List.range len').map (fun k => (g0 (V0 k), g0 (V1 k))), ⟨some a, m, by simp, by simpa using hl, hm, fun k x hk => ?_⟩⟩
    have hkl : k < len' := by have := (List.getElem?_eq_some_iff.1 hk).1; simpa using this
    have hkx : x = (g0 (V0 k), g0 (V1 k)) := by
      rw [List.getElem?_map, List.getElem?_range hkl] at hk
      simpa using hk.symm
    subst hkx
    obtain ⟨h1, h2, _, _⟩ := hcell k (by omega)
    rw [hv0 k (by omega)] at h1
    rw [hv1 k (by omega)] at h2
    obtain ⟨ab, ao, asp⟩ := a
    cases asp with
    | none =>
      rw [Addr.add_lit] at h1 h2
      refine ⟨ab, ao, rfl, [.int .i64 (g0 (V0 k)), .int .i64 (g0 (V1 k))], rfl, fun j u hj => ?_⟩
      have h3 := cellAt_heapOf h1
      have h4 := cellAt_heapOf h2
      match j, hj with
      | 0, hj =>
        simp at hj; subst hj
        exact h3
      | 1, hj =>
        simp at hj; subst hj
        exact h4
      | j + 2, hj => simp at hj
    | some s =>
      obtain ⟨h0, _⟩ := hcell 0 (by omega)
      rw [Nat.zero_mul, Addr.add_zero'] at h0
      unfold World.cell? at h0
      revert h0
      cases hb : W.heap[ab]? with
      | none => intro h0; simp [hb] at h0
      | some ob => cases ob <;> intro h0 <;> simp [hb] at h0
end
end Go.SX
