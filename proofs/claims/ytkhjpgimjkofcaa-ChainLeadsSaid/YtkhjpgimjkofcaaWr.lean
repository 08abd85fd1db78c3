/- WR: links in order, each once; in plain Lean. -/
import Derived.Test.YtkhjpgimjkofcaaWq
import Derived.Test.YtkhjpgimjkofcaaSxF
set_option linter.unusedVariables false
set_option linter.unusedSimpArgs false
namespace Go.SX
open Go Go.Sort Go.Proofs
def compactL : List Lk → List Lk
  | [] => []
  | [a] => [a]
  | a :: b :: r => if a = b then compactL (b :: r) else a :: compactL (b :: r)
theorem compactL_snoc : ∀ (l : List Lk) (z y : Lk), compactL (l ++ [z] ++ [y]) = if y = z then compactL (l ++ [z]) else compactL (l ++ [z]) ++ [y]
  | [], z, y => by
    show compactL [z, y] = _
    by_cases h : y = z
    · subst h; simp [compactL]
    · simp [compactL, h, Ne.symm h]
  | [a], z, y => by
    have ih := compactL_snoc [] z y
    simp only [List.nil_append, List.cons_append] at ih ⊢
    show compactL (a :: z :: [y]) = if y = z then compactL [a, z] else compactL [a, z] ++ [y]
    by_cases h : a = z
    · simp only [compactL, if_pos h] at ih ⊢; exact ih
    · simp only [compactL, if_neg h] at ih ⊢
      by_cases e : y = z
      · rw [if_pos e] at ih ⊢; rw [ih]
      · rw [if_neg e] at ih ⊢; rw [ih]; rfl
  | a :: b :: l, z, y => by
    have ih := compactL_snoc (b :: l) z y
    simp only [List.cons_append] at ih ⊢
    by_cases h : a = b
    · simp only [compactL, if_pos h]; exact ih
    · simp only [compactL, if_neg h]
      by_cases e : y = z
      · rw [if_pos e] at ih ⊢; rw [ih]
      · rw [if_neg e] at ih ⊢; rw [ih]; rfl
theorem compact_take {xs : List Lk} {k : Nat} {z y : Lk} (hz : xs[k]? = some z) (hy : xs[k + 1]? = some y) : compactL (xs.take (k + 2)) = if y = z then compactL (xs.take (k + 1)) else compactL (xs.take (k + 1)) ++ [y] := by
  rw [take_snoc _ _ _ hy, take_snoc _ _ _ hz]
  exact compactL_snoc _ z y
theorem compact_len : ∀ l : List Lk, (compactL l).length ≤ l.length
  | [] => by simp [compactL]
  | [a] => by simp [compactL]
  | a :: b :: r => by
    have := compact_len (b :: r)
    unfold compactL
    split
    · simp only [List.length_cons] at this ⊢; omega
    · simp only [List.length_cons] at this ⊢; omega
theorem compact_mem : ∀ {l : List Lk} {x : Lk}, x ∈ compactL l ↔ x ∈ l
  | [], x => by simp [compactL]
  | [a], x => by simp [compactL]
  | a :: b :: r, x => by
    have ih := compact_mem (l := b :: r) (x := x)
    unfold compactL
    split
    · rename_i h; subst h; rw [ih]; simp
    · rw [List.mem_cons, ih, List.mem_cons (a := x) (b := a)]
theorem compact_up : ∀ {l : List Lk}, l.Pairwise (fun x y => ¬ ltP y x) → UpP (compactL l)
  | [], _ => by simp [compactL]
  | [a], _ => by simp [compactL]
  | a :: b :: r, h => by
    obtain ⟨h1, h2⟩ := List.pairwise_cons.1 h
    have ih := compact_up h2
    unfold compactL
    split
    · exact ih
    · rename_i hne
      refine List.pairwise_cons.2 ⟨fun y hy => ?_, ih⟩
      have hyb := compact_mem.1 hy
      have h3 := h1 b (List.mem_cons_self ..)
      have h4 : ¬ ltP y b := by
        rcases List.mem_cons.1 hyb with rfl | hyr
        · unfold ltP; omega
        · exact (List.pairwise_cons.1 h2).1 y hyr
      have h5 : a.1 ≠ b.1 ∨ a.2 ≠ b.2 := by
        by_cases e1 : a.1 = b.1
        · by_cases e2 : a.2 = b.2
          · exact absurd (Prod.ext e1 e2) hne
          · exact .inr e2
        · exact .inl e1
      unfold ltP at h3 h4 ⊢
      omega
theorem lt_cmp (x y : Lk) : ltOf cmpP x y = decide (ltP x y) := by
  unfold ltOf
  exact decide_eq_decide.2 cmpP_lt
theorem swo_cmp : SWO (ltOf cmpP) where
  irrefl x := by rw [lt_cmp]; exact decide_eq_false (by unfold ltP; omega)
  trans x y z h1 h2 := by rw [lt_cmp] at *; have a1 := of_decide_eq_true h1; have a2 := of_decide_eq_true h2; exact decide_eq_true (ltP_trans a1 a2)
  ntrans x y z h1 h2 := by rw [lt_cmp] at *; have a1 := of_decide_eq_false h1; have a2 := of_decide_eq_false h2; exact decide_eq_false (by unfold ltP at *; omega)
theorem tot_cmp (x y : Lk) (h1 : ltOf cmpP x y = false) (h2 : ltOf cmpP y x = false) : x = y := by
  rw [lt_cmp] at *
  have a1 := of_decide_eq_false h1; have a2 := of_decide_eq_false h2
  unfold ltP at a1 a2
  exact Prod.ext (by omega) (by omega)
theorem sortP_sorted (xs : List Lk) : (sortP cmpP xs).Pairwise (fun x y => ¬ ltP y x) := by
  have := List.pairwise_mergeSort (le := fun x y : Lk => !(ltOf cmpP) y x) (fun a b c h1 h2 => by
    simp only [lt_cmp, Bool.not_eq_true', decide_eq_false_iff_not] at *
    unfold ltP at *; omega) (fun a b => by
    simp only [lt_cmp, Bool.or_eq_true, Bool.not_eq_true', decide_eq_false_iff_not]
    unfold ltP; omega) xs
  exact this.imp (fun h => by simpa [lt_cmp] using h)
/-- Where a link goes. -/
def putKP (l : List Lk) (x : Lk) : Nat := (l.takeWhile (fun y => decide (ltP y x))).length
def putP (l : List Lk) (x : Lk) : List Lk := if l[putKP l x]? = some x then l else l.take (putKP l x) ++ [x] ++ l.drop (putKP l x)
theorem putKP_eq : ∀ {l : List Lk} {x : Lk} {k : Nat}, (∀ (j : Nat) y, j < k → l[j]? = some y → ltP y x) → k ≤ l.length → (∀ y, l[k]? = some y → ¬ ltP y x) → putKP l x = k
  | [], x, k, _, hk, _ => by simp at hk; subst hk; rfl
  | a :: l, x, 0, _, _, h => by
    have : ¬ ltP a x := h a rfl
    simp [putKP, List.takeWhile_cons, this]
  | a :: l, x, k + 1, h, hk, h2 => by
    have h1 : ltP a x := h 0 a (by omega) rfl
    have ih := putKP_eq (l := l) (x := x) (k := k) (fun j y hj hy => h (j + 1) y (by omega) (by simpa using hy)) (by simpa using hk) (fun y hy => h2 y (by simpa using hy))
    unfold putKP at ih ⊢
    simp [List.takeWhile_cons, h1, ih]
theorem putP_cons_lt {a x : Lk} {l : List Lk} (h : ltP a x) : putP (a :: l) x = a :: putP l x := by
  have e : putKP (a :: l) x = putKP l x + 1 := by unfold putKP; simp [List.takeWhile_cons, h]
  unfold putP
  rw [e]
  simp only [List.getElem?_cons_succ, List.take_succ_cons, List.drop_succ_cons]
  split <;> rfl
theorem putP_cons_ge {a x : Lk} {l : List Lk} (h : ¬ ltP a x) : putP (a :: l) x = if a = x then a :: l else x :: a :: l := by
  have e : putKP (a :: l) x = 0 := by unfold putKP; simp [List.takeWhile_cons, h]
  unfold putP
  rw [e]
  simp
theorem putP_mem : ∀ {l : List Lk} {x y : Lk}, y ∈ putP l x ↔ y = x ∨ y ∈ l
  | [], x, y => by simp [putP, putKP]
  | a :: l, x, y => by
    by_cases h : ltP a x
    · rw [putP_cons_lt h, List.mem_cons, putP_mem, List.mem_cons]
      constructor
      · rintro (h1 | h1 | h1)
        · exact .inr (.inl h1)
        · exact .inl h1
        · exact .inr (.inr h1)
      · rintro (h1 | h1 | h1)
        · exact .inr (.inl h1)
        · exact .inl h1
        · exact .inr (.inr h1)
    · rw [putP_cons_ge h]
      split
      · rename_i e; subst e
        constructor
        · exact .inr
        · rintro (rfl | h1)
          · exact List.mem_cons_self ..
          · exact h1
      · simp
theorem putP_up : ∀ {l : List Lk} {x : Lk}, UpP l → UpP (putP l x)
  | [], x, _ => by simp [putP, putKP]
  | a :: l, x, h => by
    obtain ⟨h1, h2⟩ := List.pairwise_cons.1 h
    by_cases ha : ltP a x
    · rw [putP_cons_lt ha]
      refine List.pairwise_cons.2 ⟨fun y hy => ?_, putP_up h2⟩
      rcases putP_mem.1 hy with rfl | hy
      · exact ha
      · exact h1 y hy
    · rw [putP_cons_ge ha]
      split
      · exact h
      · rename_i hne
        have hxa : ltP x a := by
          have h5 : a.1 ≠ x.1 ∨ a.2 ≠ x.2 := by
            by_cases e1 : a.1 = x.1
            · by_cases e2 : a.2 = x.2
              · exact absurd (Prod.ext e1 e2) hne
              · exact .inr e2
            · exact .inl e1
          unfold ltP at ha ⊢; omega
        refine List.pairwise_cons.2 ⟨fun y hy => ?_, h⟩
        rcases List.mem_cons.1 hy with rfl | hy
        · exact hxa
        · exact ltP_trans hxa (h1 y hy)
theorem putP_len (l : List Lk) (x : Lk) : (putP l x).length ≤ l.length + 1 := by
  unfold putP; split
  · omega
  · simp; omega
def ofP (xs : List Lk) : List Lk := xs.foldl putP []
theorem ofP_snoc {xs : List Lk} {k : Nat} {y : Lk} (h : xs[k]? = some y) : ofP (xs.take (k + 1)) = putP (ofP (xs.take k)) y := by
  unfold ofP; rw [take_snoc _ _ _ h, List.foldl_append]; rfl
theorem of_go : ∀ (xs acc : List Lk), UpP acc → UpP (xs.foldl putP acc) ∧ (∀ y, y ∈ xs.foldl putP acc ↔ y ∈ acc ∨ y ∈ xs) ∧ (xs.foldl putP acc).length ≤ acc.length + xs.length
  | [], acc, h => ⟨h, fun y => by simp, by simp⟩
  | x :: xs, acc, h => by
    obtain ⟨h1, h2, h3⟩ := of_go xs (putP acc x) (putP_up h)
    refine ⟨h1, fun y => ?_, ?_⟩
    · show y ∈ xs.foldl putP (putP acc x) ↔ _
      rw [h2, putP_mem, List.mem_cons]
      constructor
      · rintro ((h1 | h1) | h1)
        · exact .inr (.inl h1)
        · exact .inl h1
        · exact .inr (.inr h1)
      · rintro (h1 | h1 | h1)
        · exact .inl (.inr h1)
        · exact .inl (.inl h1)
        · exact .inr h1
    · have := putP_len acc x
      show (xs.foldl putP (putP acc x)).length ≤ _
      simp only [List.length_cons]; omega
theorem ofP_up (xs : List Lk) : UpP (ofP xs) := (of_go xs [] List.Pairwise.nil).1
theorem ofP_mem (xs : List Lk) (y : Lk) : y ∈ ofP xs ↔ y ∈ xs := by have := (of_go xs [] List.Pairwise.nil).2.1 y; simpa [ofP] using this
theorem ofP_len (xs : List Lk) : (ofP xs).length ≤ xs.length := by have := (of_go xs [] List.Pairwise.nil).2.2; simpa [ofP] using this
theorem upP_ext : ∀ {l m : List Lk}, UpP l → UpP m → (∀ x, x ∈ l ↔ x ∈ m) → l = m
  | [], [], _, _, _ => rfl
  | [], y :: m, _, _, h => by have := (h y).2 (List.mem_cons_self ..); cases this
  | x :: l, [], _, _, h => by have := (h x).1 (List.mem_cons_self ..); cases this
  | x :: l, y :: m, hl, hm, h => by
    have hl := List.pairwise_cons.1 hl
    have hm := List.pairwise_cons.1 hm
    have irr : ∀ a : Lk, ¬ ltP a a := fun a => by unfold ltP; omega
    have hxy : x = y := by
      rcases List.mem_cons.1 ((h x).1 (List.mem_cons_self ..)) with e | h1
      · exact e
      · rcases List.mem_cons.1 ((h y).2 (List.mem_cons_self ..)) with e | h2
        · exact e.symm
        · exact absurd (ltP_trans (hl.1 y h2) (hm.1 x h1)) (irr _)
    subst hxy
    rw [upP_ext hl.2 hm.2 (fun z => ?_)]
    have hz := h z
    constructor
    · intro hzl
      rcases List.mem_cons.1 (hz.1 (List.mem_cons_of_mem _ hzl)) with e | h1
      · have h2 := hl.1 z hzl; rw [e] at h2; exact absurd h2 (irr _)
      · exact h1
    · intro hzm
      rcases List.mem_cons.1 (hz.2 (List.mem_cons_of_mem _ hzm)) with e | h1
      · have h2 := hm.1 z hzm; rw [e] at h2; exact absurd h2 (irr _)
      · exact h1
/-- Sorted, and each once: as the reference puts them. -/
theorem of_eq (xs : List Lk) : compactL (sortP cmpP xs) = ofP xs :=
  upP_ext (compact_up (sortP_sorted xs)) (ofP_up xs) (fun y => by rw [compact_mem, (sortP_perm cmpP xs).mem_iff, ofP_mem])
def ofR (xs : List Lk) : List Lk × Int := if xs.all linkB then (if (ofP xs).length ≤ 2097152 then (ofP xs, 0) else ([], 3)) else ([], 2)
end Go.SX
namespace Go.SX
theorem compact_one (xs : List Lk) : compactL (xs.take 1) = xs.take 1 := by
  cases xs with
  | nil => rfl
  | cons a r => rfl
theorem compact_short {xs : List Lk} (h : xs.length < 2) : compactL xs = xs := by
  match xs, h with
  | [], _ => rfl
  | [a], _ => rfl
  | a :: b :: r, h => simp at h; omega
def allLink (xs : List Lk) : Bool := xs.all linkB
theorem not_all {xs : List Lk} : xs.any (fun y => !linkB y) = !allLink xs := by
  unfold allLink
  induction xs with
  | nil => rfl
  | cons a l ih => simp only [List.any_cons, List.all_cons, ih, Bool.not_and]
end Go.SX
