/- WU: types, plain laws more: with an id, and without it. -/
import Derived.Test.YtmkmdfgfclckoaaWt
set_option linter.unusedVariables false
set_option linter.unusedSimpArgs false
namespace Go.SX
open Go

theorem withR_err {xs : List Int} {x : Int} (h : (withR xs x).2 ≠ 0) : (withR xs x).1 = [] := by
  cases h1 : typeB xs with
  | false => rw [withR_a h1]
  | true =>
    cases h2 : mayB x with
    | false => rw [withR_b h1 h2]
    | true =>
      by_cases h3 : 12 < (insU xs x).length
      · rw [withR_c h1 h2 h3]
      · rw [withR_d h1 h2 h3] at h; exact absurd rfl h
theorem withR_ok {xs : List Int} {x : Int} (h : (withR xs x).2 = 0) : typeB xs = true ∧ mayB x = true ∧ ¬ 12 < (insU xs x).length ∧ withR xs x = (insU xs x, 0) := by
  cases h1 : typeB xs with
  | false => rw [withR_a h1] at h; cases h
  | true =>
    cases h2 : mayB x with
    | false => rw [withR_b h1 h2] at h; cases h
    | true =>
      by_cases h3 : 12 < (insU xs x).length
      · rw [withR_c h1 h2 h3] at h; cases h
      · exact ⟨rfl, rfl, h3, withR_d h1 h2 h3⟩
theorem typeB_ins {xs : List Int} {x : Int} (h : typeB xs = true) (h1 : mayB x = true) (h2 : ¬ 12 < (insU xs x).length) : typeB (insU xs x) = true := by
  obtain ⟨_, h4, h5⟩ := typeB_iff.1 h
  refine typeB_iff.2 ⟨by omega, fun y hy => ?_, up_ins h5 x⟩
  rcases ins_mem.1 hy with rfl | hy
  · exact h1
  · exact h4 y hy
theorem us_ins {xs : List Int} {x : Int} (h : Us xs) (hx : U x) : Us (insU xs x) := fun y hy => by
  rcases ins_mem.1 hy with rfl | hy
  · exact hx
  · exact h y hy
theorem ins_self {xs : List Int} {x : Int} (h : x ∈ xs) : insU xs x = xs := by unfold insU; rw [if_pos h]
def delU (xs : List Int) (x : Int) : List Int := xs.take (cntLt xs x) ++ xs.drop (cntLt xs x + 1)
/-- A rising row, cut where x stands. -/
theorem up_lt {xs : List Int} (hup : Up xs) (x : Int) : xs.filter (fun y => decide (y < x)) = xs.take (cntLt xs x) := by
  obtain ⟨h1, h2⟩ := up_split hup x
  conv => lhs; rw [← List.take_append_drop (cntLt xs x) xs]
  rw [List.filter_append, List.filter_eq_self.2, List.filter_eq_nil_iff.2, List.append_nil]
  · intro y hy
    obtain ⟨j, hj⟩ := List.mem_iff_getElem?.1 hy
    rw [List.getElem?_drop] at hj
    have := h2 _ y (by omega) hj
    simp; omega
  · intro y hy
    obtain ⟨j, hj⟩ := List.mem_iff_getElem?.1 hy
    have hjk : j < cntLt xs x := by have := (List.getElem?_eq_some_iff.1 hj).1; simp at this; omega
    rw [List.getElem?_take_of_lt hjk] at hj
    exact decide_eq_true (h1 j y hjk hj)
theorem up_cut {xs : List Int} (hup : Up xs) {x : Int} (hx : x ∈ xs) : xs = xs.take (cntLt xs x) ++ [x] ++ xs.drop (cntLt xs x + 1) := by
  obtain ⟨h1, h2⟩ := up_split hup x
  have h3 := (cnt_mem h1 h2 hup).1 hx
  have h4 := (List.getElem?_eq_some_iff.1 h3)
  conv => lhs; rw [← List.take_append_drop (cntLt xs x) xs]
  rw [List.append_assoc]
  congr 1
  rw [List.drop_eq_getElem_cons h4.1, h4.2]
  rfl
theorem up_gt_mem {xs : List Int} (hup : Up xs) {x : Int} (hx : x ∈ xs) : xs.filter (fun y => decide (x < y)) = xs.drop (cntLt xs x + 1) := by
  obtain ⟨h1, h2⟩ := up_split hup x
  have h3 := (cnt_mem h1 h2 hup).1 hx
  conv => lhs; rw [up_cut hup hx]
  rw [List.filter_append, List.filter_append]
  have e1 : (xs.take (cntLt xs x)).filter (fun y => decide (x < y)) = [] := by
    rw [List.filter_eq_nil_iff]
    intro y hy
    obtain ⟨j, hj⟩ := List.mem_iff_getElem?.1 hy
    have hjk : j < cntLt xs x := by have := (List.getElem?_eq_some_iff.1 hj).1; simp at this; omega
    rw [List.getElem?_take_of_lt hjk] at hj
    have := h1 j y hjk hj
    simp; omega
  have e2 : [x].filter (fun y => decide (x < y)) = [] := by simp
  have e3 : (xs.drop (cntLt xs x + 1)).filter (fun y => decide (x < y)) = xs.drop (cntLt xs x + 1) := by
    rw [List.filter_eq_self]
    intro y hy
    obtain ⟨j, hj⟩ := List.mem_iff_getElem?.1 hy
    rw [List.getElem?_drop] at hj
    exact decide_eq_true (up_get hup h3 hj (by omega))
  rw [e1, e2, e3]; rfl
theorem up_gt_not {xs : List Int} (hup : Up xs) {x : Int} (hx : ¬ x ∈ xs) : xs.filter (fun y => decide (x < y)) = xs.drop (cntLt xs x) := by
  obtain ⟨h1, h2⟩ := up_split hup x
  conv => lhs; rw [← List.take_append_drop (cntLt xs x) xs]
  rw [List.filter_append, List.filter_eq_nil_iff.2, List.nil_append, List.filter_eq_self.2]
  · intro y hy
    obtain ⟨j, hj⟩ := List.mem_iff_getElem?.1 hy
    rw [List.getElem?_drop] at hj
    have := h2 _ y (by omega) hj
    have : y ≠ x := fun e => hx (e ▸ List.mem_of_getElem? hj)
    exact decide_eq_true (by omega)
  · intro y hy
    obtain ⟨j, hj⟩ := List.mem_iff_getElem?.1 hy
    have hjk : j < cntLt xs x := by have := (List.getElem?_eq_some_iff.1 hj).1; simp at this; omega
    rw [List.getElem?_take_of_lt hjk] at hj
    have := h1 j y hjk hj
    simp; omega
/-- The reference's With. -/
def wthR (xs : List Int) (x : Int) : List Int := xs.filter (fun y => decide (y < x)) ++ [x] ++ xs.filter (fun y => decide (x < y))
theorem wthR_eq {xs : List Int} (hup : Up xs) (x : Int) : wthR xs x = insU xs x := by
  unfold wthR insU
  split
  · rename_i h
    rw [up_lt hup, up_gt_mem hup h]; exact (up_cut hup h).symm
  · rename_i h
    rw [up_lt hup, up_gt_not hup h]
theorem ne_split (xs : List Int) (x : Int) (hup : Up xs) : xs.filter (fun y => decide (y ≠ x)) = xs.filter (fun y => decide (y < x)) ++ xs.filter (fun y => decide (x < y)) := by
  induction xs with
  | nil => rfl
  | cons a l ih =>
    obtain ⟨ha, hl⟩ := List.pairwise_cons.1 hup
    have ih := ih hl
    by_cases h1 : a < x
    · have h2 : ¬ x < a := by omega
      have h3 : a ≠ x := by omega
      simp [List.filter_cons, h1, h2, h3] at ih ⊢
      exact ih
    · have e1 : l.filter (fun y => decide (y < x)) = [] := by
        rw [List.filter_eq_nil_iff]; intro y hy; have := ha y hy; simp; omega
      by_cases h2 : a = x
      · subst h2
        simp [List.filter_cons, e1] at ih ⊢
        exact ih
      · have h3 : x < a := by omega
        simp [List.filter_cons, e1, h1, h2, h3] at ih ⊢
        exact ih
theorem del_eq {xs : List Int} (hup : Up xs) {x : Int} (hx : x ∈ xs) : delU xs x = xs.filter (fun y => decide (y ≠ x)) := by
  rw [ne_split xs x hup, up_lt hup, up_gt_mem hup hx]; rfl
theorem withoutR_in {xs : List Int} {x : Int} (h : typeB xs = true) (h1 : x ∈ xs) : withoutR xs x = (delU xs x, 0) := withoutR_c h h1
theorem del_ins {xs : List Int} (hup : Up xs) {x : Int} (hx : ¬ x ∈ xs) : delU (insU xs x) x = xs := by
  have h1 : x ∈ insU xs x := ins_mem.2 (.inl rfl)
  rw [del_eq (up_ins hup x) h1]
  have h2 : insU xs x = xs.take (cntLt xs x) ++ [x] ++ xs.drop (cntLt xs x) := by unfold insU; rw [if_neg hx]
  rw [h2, List.filter_append, List.filter_append]
  have h3 : [x].filter (fun y => decide (y ≠ x)) = [] := by simp
  rw [h3, List.append_nil, ← List.filter_append, List.take_append_drop, List.filter_eq_self]
  intro y hy
  exact decide_eq_true (fun e => hx (e ▸ hy))
theorem del_len {xs : List Int} (hup : Up xs) {x : Int} (hx : x ∈ xs) : (delU xs x).length + 1 = xs.length := by
  have h := cnt_lt hup hx
  unfold delU
  simp only [List.length_append, List.length_take, List.length_drop]
  omega
theorem del_not (xs : List Int) (hup : Up xs) {x : Int} (hx : x ∈ xs) : ¬ x ∈ delU xs x := by
  rw [del_eq hup hx]
  intro h
  have := (List.mem_filter.1 h).2
  simp at this
theorem has_not {xs : List Int} {x : Int} (h : ¬ x ∈ xs) : (!(someL xs (fun y => decide (y = x))).isEmpty) = false := by
  unfold someL
  split
  · have : xs.filter (fun y => decide (y = x)) = [] := by
      rw [List.filter_eq_nil_iff]
      intro y hy
      simp
      intro e
      exact h (e ▸ hy)
    rw [this]; rfl
  · rfl
theorem has_yes {xs : List Int} {x : Int} (h : typeB xs = true) (hx : x ∈ xs) : (!(someL xs (fun y => decide (y = x))).isEmpty) = true := by
  rw [someL_t h]
  have : x ∈ xs.filter (fun y => decide (y = x)) := List.mem_filter.2 ⟨hx, by simp⟩
  cases hl : xs.filter (fun y => decide (y = x)) with
  | nil => rw [hl] at this; cases this
  | cons a r => rfl
theorem has_mem {xs : List Int} {x : Int} (h : (!(someL xs (fun y => decide (y = x))).isEmpty) = true) : x ∈ xs := by
  by_cases hx : x ∈ xs
  · exact hx
  · rw [has_not hx] at h; cases h
theorem any_mem {xs : List Int} {x : Int} (h : xs.any (fun y => decide (y = x)) = true) : x ∈ xs := by
  obtain ⟨y, hy, h1⟩ := List.any_eq_true.1 h
  simp at h1; exact h1 ▸ hy
theorem any_not {xs : List Int} {x : Int} (h : xs.any (fun y => decide (y = x)) = false) : ¬ x ∈ xs := fun hx => by
  rw [List.any_eq_true.2 ⟨x, hx, by simp⟩] at h; cases h
end Go.SX
