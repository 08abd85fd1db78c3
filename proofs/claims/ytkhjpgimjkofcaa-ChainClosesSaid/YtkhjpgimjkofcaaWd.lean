/- WD: waves; in plain Lean. -/
import Derived.Test.YtkhjpgimjkofcaaWc
set_option linter.unusedVariables false
set_option linter.unusedSimpArgs false
namespace Go.SX
open Go

/-- The next wave: of those whom the last one's links lead to, whoever is not met. -/
def nextL (to : Int → List Int) (met last : List Int) : List Int := last.foldl (fun nx v => (to v).foldl (fun nx w => if met.any (fun y => decide (y = w)) then nx else putL nx w) nx) []
def wavesGo (to : Int → List Int) : Nat → List (List Int) → List Int → List Int → List (List Int)
  | 0, out, _, _ => out
  | n + 1, out, met, last => if nextL to met last = [] then out else wavesGo to n (out ++ [nextL to met last]) (met ++ nextL to met last) (nextL to met last)
/-- How many of u are not met. -/
def unmet (u met : List Int) : Nat := u.countP (fun w => !met.any (fun y => decide (y = w)))
theorem putL_mem {l : List Int} {n x : Int} (h : x ∈ putL l n) : x = n ∨ x ∈ l := by
  unfold putL at h
  split at h
  · exact .inr h
  · simp only [List.mem_append, List.mem_singleton] at h
    rcases h with (h | h) | h
    · exact .inr (List.mem_of_mem_take h)
    · exact .inl h
    · exact .inr (List.mem_of_mem_drop h)
theorem next_in_mem {met : List Int} : ∀ (ws nx : List Int) {x : Int}, x ∈ ws.foldl (fun nx w => if met.any (fun y => decide (y = w)) then nx else putL nx w) nx → x ∈ nx ∨ (x ∈ ws ∧ met.any (fun y => decide (y = x)) = false)
  | [], nx, x, h => .inl h
  | w :: ws, nx, x, h => by
    rw [List.foldl_cons] at h
    rcases next_in_mem ws _ h with h | ⟨h1, h2⟩
    · cases hm : met.any (fun y => decide (y = w)) with
      | true => rw [hm, if_pos rfl] at h; exact .inl h
      | false =>
        rw [hm] at h
        simp only [Bool.false_eq_true, if_false] at h
        rcases putL_mem h with rfl | h
        · exact .inr ⟨List.mem_cons_self .., hm⟩
        · exact .inl h
    · exact .inr ⟨List.mem_cons_of_mem _ h1, h2⟩
theorem next_mem_go {to : Int → List Int} {met : List Int} : ∀ (last nx : List Int) {x : Int}, x ∈ last.foldl (fun nx v => (to v).foldl (fun nx w => if met.any (fun y => decide (y = w)) then nx else putL nx w) nx) nx →
    x ∈ nx ∨ ((∃ v ∈ last, x ∈ to v) ∧ met.any (fun y => decide (y = x)) = false)
  | [], nx, x, h => .inl h
  | v :: last, nx, x, h => by
    rw [List.foldl_cons] at h
    rcases next_mem_go last _ h with h | ⟨⟨u, hu, h1⟩, h2⟩
    · rcases next_in_mem _ _ h with h | ⟨h1, h2⟩
      · exact .inl h
      · exact .inr ⟨⟨v, List.mem_cons_self .., h1⟩, h2⟩
    · exact .inr ⟨⟨u, List.mem_cons_of_mem _ hu, h1⟩, h2⟩
/-- Whoever is in the next wave is led to, and was not met. -/
theorem next_mem {to : Int → List Int} {met last : List Int} {x : Int} (h : x ∈ nextL to met last) : (∃ v ∈ last, x ∈ to v) ∧ met.any (fun y => decide (y = x)) = false :=
  (next_mem_go last [] h).resolve_left (by simp)
theorem unmet_le {u : List Int} {met more : List Int} : unmet u (met ++ more) ≤ unmet u met := by
  unfold unmet
  refine List.countP_mono_left (fun w _ h => ?_)
  simp only [List.any_append, Bool.not_eq_true', Bool.or_eq_false_iff] at h ⊢
  exact h.1
theorem unmet_lt {u : List Int} {met more : List Int} {x : Int} (hx : x ∈ more) (hu : x ∈ u) (hm : met.any (fun y => decide (y = x)) = false) : unmet u (met ++ more) < unmet u met := by
  induction u with
  | nil => cases hu
  | cons a u ih =>
    have hle : unmet u (met ++ more) ≤ unmet u met := unmet_le
    unfold unmet at hle ih ⊢
    rw [List.countP_cons, List.countP_cons]
    by_cases e : x = a
    · subst e
      have h1 : (met ++ more).any (fun y => decide (y = x)) = true := List.any_eq_true.2 ⟨x, List.mem_append_right _ hx, by simp⟩
      simp only [h1, hm, Bool.not_true, Bool.not_false, if_true, Bool.false_eq_true, if_false]
      omega
    · have hu' : x ∈ u := by
        rcases List.mem_cons.1 hu with h | h
        · exact absurd h e
        · exact h
      have := ih hu'
      cases h1 : met.any (fun y => decide (y = a)) with
      | true =>
        have h2 : (met ++ more).any (fun y => decide (y = a)) = true := by rw [List.any_append, h1]; rfl
        simp only [h2, Bool.not_true, Bool.false_eq_true, if_false]
        omega
      | false =>
        simp only [Bool.not_false, if_true]
        split <;> omega
/-- A literal's row of one element, as one's own. -/
theorem OwnS.one {α : Type} {E : ER α} {e : TypeId} {H : Heap} {b : Nat} {u : Value} {x : α} (hE : E.size = 1) (hx : E.R H [u] x) : OwnS E e H (.slice (some ⟨b, 0, none⟩) 1 1) [x] [(b, .cells #[u] e)] := by
  refine .inr ⟨b, 1, #[u], rfl, rfl, Nat.le_refl _, by unfold maxLen; omega, by rw [hE]; rfl, fun i y hy => ?_⟩
  cases i with
  | zero =>
    simp at hy; subst hy
    refine ⟨[u], hx, fun j w hj => ?_⟩
    cases j with
    | zero => simp at hj; subst hj; simp
    | succ j => simp at hj
  | succ i => simp at hy
theorem slE_one {α : Type} {E : ER α} {H : Heap} {v : Value} {xs : List α} (h : RdS E H v xs) : (slE E).R H [v] xs := ⟨v, rfl, h⟩
end Go.SX
