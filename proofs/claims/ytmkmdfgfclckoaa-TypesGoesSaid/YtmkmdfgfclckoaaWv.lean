/- WV: how rows stand; in plain Lean. -/
import Derived.Test.YtmkmdfgfclckoaaWu
set_option linter.unusedVariables false
set_option linter.unusedSimpArgs false
namespace Go.SX
open Go

def cmpL : List Int → List Int → Int
  | [], [] => 0
  | [], _ :: _ => -1
  | _ :: _, [] => 1
  | a :: x, b :: y => if a < b then -1 else if a > b then 1 else cmpL x y
theorem cmpL_at : ∀ (k : Nat) (xs ys : List Int) (a b : Int), xs.take k = ys.take k → xs[k]? = some a → ys[k]? = some b → a ≠ b → cmpL xs ys = cmpI a b
  | 0, [], _, _, _, _, h, _, _ => by simp at h
  | 0, _ :: _, [], _, _, _, _, h, _ => by simp at h
  | 0, p :: x, q :: y, a, b, _, h1, h2, hne => by
    simp at h1 h2; subst h1; subst h2
    unfold cmpL cmpI
    split
    · rfl
    · split
      · rfl
      · omega
  | k + 1, [], _, _, _, _, h, _, _ => by simp at h
  | k + 1, _ :: _, [], _, _, _, _, h, _ => by simp at h
  | k + 1, p :: x, q :: y, a, b, h, h1, h2, hne => by
    simp only [List.take_succ_cons, List.cons.injEq] at h
    obtain ⟨rfl, h⟩ := h
    have := cmpL_at k x y a b h (by simpa using h1) (by simpa using h2) hne
    rw [← this]
    conv => lhs; unfold cmpL
    rw [if_neg (by omega), if_neg (by omega)]
theorem cmpL_end : ∀ (xs ys : List Int), xs = ys.take xs.length → cmpL xs ys = if xs.length < ys.length then -1 else 0
  | [], [], _ => rfl
  | [], _ :: _, _ => by simp [cmpL]
  | a :: x, [], h => by simp at h
  | a :: x, b :: y, h => by
    simp only [List.length_cons, List.take_succ_cons, List.cons.injEq] at h
    obtain ⟨rfl, h⟩ := h
    have := cmpL_end x y h
    unfold cmpL
    rw [if_neg (by omega), if_neg (by omega), this]
    simp
theorem cmpL_long : ∀ (xs ys : List Int), xs.take ys.length = ys → ys.length < xs.length → cmpL xs ys = 1
  | [], ys, _, h => by simp at h
  | a :: x, [], _, _ => rfl
  | a :: x, b :: y, h, h2 => by
    simp only [List.length_cons, List.take_succ_cons, List.cons.injEq] at h
    obtain ⟨rfl, h⟩ := h
    have := cmpL_long x y h (by simpa using h2)
    unfold cmpL
    rw [if_neg (by omega), if_neg (by omega), this]
theorem cmpI_zero {a b : Int} : cmpI a b = 0 ↔ a = b := by unfold cmpI; split <;> (try split) <;> omega
theorem cmpL_rng : ∀ (xs ys : List Int), cmpL xs ys = -1 ∨ cmpL xs ys = 0 ∨ cmpL xs ys = 1
  | [], [] => by simp [cmpL]
  | [], _ :: _ => by simp [cmpL]
  | _ :: _, [] => by simp [cmpL]
  | a :: x, b :: y => by
    unfold cmpL
    split
    · exact .inl rfl
    · split
      · exact .inr (.inr rfl)
      · exact cmpL_rng x y
theorem cmpL_anti : ∀ (xs ys : List Int), cmpL ys xs = - cmpL xs ys
  | [], [] => rfl
  | [], _ :: _ => rfl
  | _ :: _, [] => rfl
  | a :: x, b :: y => by
    have := cmpL_anti x y
    unfold cmpL
    repeat' split
    all_goals first | omega | rfl
theorem cmpL_zero : ∀ (xs ys : List Int), cmpL xs ys = 0 ↔ xs = ys
  | [], [] => by simp [cmpL]
  | [], _ :: _ => by simp [cmpL]
  | _ :: _, [] => by simp [cmpL]
  | a :: x, b :: y => by
    have := cmpL_zero x y
    unfold cmpL
    split
    · simp; omega
    · split
      · simp; omega
      · have e : a = b := by omega
        subst e
        simp [this]
theorem cmpL_trans : ∀ (xs ys zs : List Int), cmpL xs ys ≤ 0 → cmpL ys zs ≤ 0 → cmpL xs zs ≤ 0 ∧ (cmpL xs zs = 0 ↔ cmpL xs ys = 0 ∧ cmpL ys zs = 0)
  | [], [], [], _, _ => by simp [cmpL]
  | [], [], _ :: _, _, _ => by simp [cmpL]
  | [], _ :: _, [], _, h => by simp [cmpL] at h
  | [], _ :: _, _ :: _, _, _ => by simp [cmpL]
  | _ :: _, [], _, h, _ => by simp [cmpL] at h
  | _ :: _, _ :: _, [], _, h => by simp [cmpL] at h
  | a :: x, b :: y, c :: z, h1, h2 => by
    have ih := cmpL_trans x y z
    unfold cmpL at h1 h2 ⊢
    by_cases h3 : a < b
    · rw [if_pos h3] at h1 ⊢
      by_cases h4 : b < c
      · rw [if_pos h4, if_pos (by omega)]; simp
      · rw [if_neg h4] at h2 ⊢
        by_cases h5 : b > c
        · rw [if_pos h5] at h2; omega
        · rw [if_neg h5, if_pos (by omega)]; simp
    · rw [if_neg h3] at h1 ⊢
      by_cases h4 : a > b
      · rw [if_pos h4] at h1; omega
      · rw [if_neg h4] at h1 ⊢
        have e : a = b := by omega
        subst e
        by_cases h5 : a < c
        · rw [if_pos h5, if_pos h5]; simp
        · rw [if_neg h5] at h2 ⊢
          by_cases h6 : a > c
          · rw [if_pos h6] at h2; omega
          · rw [if_neg h6] at h2 ⊢
            rw [if_neg h5, if_neg h6]
            exact ih h1 h2
/-- What compares two ids. -/
def FCmp (P : Program) (fv : Value) (H : Heap) : Prop := ∀ H', HLe H H' → ∀ a b, Fv P fv [.int .u64 a, .int .u64 b] H' (.int .i64 (cmpI a b))
end Go.SX
