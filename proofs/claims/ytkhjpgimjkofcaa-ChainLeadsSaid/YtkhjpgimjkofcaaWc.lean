/- WC: links; in plain Lean. -/
import Derived.Test.YtkhjpgimjkofcaaPl
import Derived.Test.YtkhjpgimjkofcaaWi
import Derived.Test.YtkhjpgimjkofcaaSxB
set_option linter.unusedVariables false
set_option linter.unusedSimpArgs false
namespace Go.SX
open Go

abbrev Lk := Int × Int
def linkB (y : Lk) : Bool := decide (1 ≤ y.1) && decide (1 ≤ y.2) && decide (y.1 ≤ 1048578) && decide (y.2 ≤ 1048578)
def ltP (a b : Lk) : Prop := a.1 < b.1 ∨ a.1 = b.1 ∧ a.2 < b.2
instance (a b : Lk) : Decidable (ltP a b) := by unfold ltP; infer_instance
abbrev UpP (xs : List Lk) : Prop := xs.Pairwise ltP
def chainB (xs : List Lk) : Bool := decide (xs.length ≤ 2097152 ∧ (∀ y ∈ xs, linkB y = true) ∧ UpP xs)
theorem chainB_iff {xs : List Lk} : chainB xs = true ↔ xs.length ≤ 2097152 ∧ (∀ y ∈ xs, linkB y = true) ∧ UpP xs := by unfold chainB; simp
def cmpP (a b : Lk) : Int := if cmpI a.1 b.1 ≠ 0 then cmpI a.1 b.1 else cmpI a.2 b.2
theorem cmpP_lt {a b : Lk} : cmpP a b < 0 ↔ ltP a b := by
  unfold cmpP ltP cmpI
  repeat' split
  all_goals omega
theorem ltP_trans {a b c : Lk} (h : ltP a b) (h2 : ltP b c) : ltP a c := by unfold ltP at *; omega
theorem upP_get {xs : List Lk} (h : UpP xs) {i j : Nat} {a b : Lk} (hi : xs[i]? = some a) (hj : xs[j]? = some b) (hij : i < j) : ltP a b := by
  obtain ⟨h1, rfl⟩ := List.getElem?_eq_some_iff.1 hi
  obtain ⟨h2, rfl⟩ := List.getElem?_eq_some_iff.1 hj
  exact (List.pairwise_iff_getElem.1 h) i j h1 h2 hij
def orI (xs : List Int) : Int := (xs.find? (fun y => decide (y ≠ 0))).getD 0
theorem orI_two (a b : Int) : orI [a, b] = if a ≠ 0 then a else b := by
  unfold orI
  by_cases h : a = 0
  · subst h
    by_cases h2 : b = 0
    · subst h2; rfl
    · simp [h2]
  · simp [h]
theorem pair_nth (y : Lk) : ([.int .i64 y.1, .int .i64 y.2] : List Value)[0]? = some (.int .i64 y.1) := rfl
theorem link_t {y : Lk} (h : (if y.2 < y.1 then y.2 else y.1) ≥ 1) : decide ((if y.1 < y.2 then y.2 else y.1) ≤ 1048578) = linkB y := by
  rw [Bool.eq_iff_iff]
  unfold linkB
  simp only [Bool.and_eq_true, decide_eq_true_eq]
  by_cases h1 : y.2 < y.1
  · rw [if_pos h1] at h
    rw [if_neg (by omega)]; omega
  · rw [if_neg h1] at h
    by_cases h2 : y.1 < y.2
    · rw [if_pos h2]; omega
    · rw [if_neg h2]; omega
theorem link_f {y : Lk} (h : ¬ (if y.2 < y.1 then y.2 else y.1) ≥ 1) : linkB y = false := by
  cases hl : linkB y with
  | false => rfl
  | true =>
    unfold linkB at hl
    simp only [Bool.and_eq_true, decide_eq_true_eq] at hl
    exfalso; apply h
    split <;> omega
theorem cmpP_or (a b : Lk) : orI [cmpI a.1 b.1, cmpI a.2 b.2] = cmpP a b := by rw [orI_two]; rfl
theorem ltP_dec (a b : Lk) : decide (ltP a b) = (decide (a.1 < b.1) || (decide (a.1 = b.1) && decide (a.2 < b.2))) := by
  rw [Bool.eq_iff_iff, decide_eq_true_eq]
  simp only [Bool.or_eq_true, Bool.and_eq_true, decide_eq_true_eq]
  exact Iff.rfl
theorem zero_snoc {xs : List Int} {k : Nat} {y : Int} (hw : ∀ z ∈ xs.take k, z = 0) (hy : xs[k]? = some y) (h : y = 0) : ∀ z ∈ xs.take (k + 1), z = 0 := by
  intro z hz
  rw [List.take_add_one, hy] at hz
  rcases List.mem_append.1 hz with hz | hz
  · exact hw z hz
  · simp at hz; rw [hz]; exact h
theorem orI_at {xs : List Int} {k : Nat} {y : Int} (hy : xs[k]? = some y) (hw : ∀ z ∈ xs.take k, z = 0) (hne : y ≠ 0) : orI xs = y := by
  have h1 : xs = xs.take k ++ y :: xs.drop (k + 1) := by
    have h2 := List.getElem?_eq_some_iff.1 hy
    conv => lhs; rw [← List.take_append_drop k xs]
    rw [List.drop_eq_getElem_cons h2.1, h2.2]
  have h3 : (xs.take k).find? (fun y => decide (y ≠ 0)) = none := by
    rw [List.find?_eq_none]; intro z hz; simp [hw z hz]
  refine (congrArg orI h1).trans ?_
  unfold orI
  rw [List.find?_append, h3]
  simp [hne]
theorem orI_none {xs : List Int} (hw : ∀ z ∈ xs, z = 0) : orI xs = 0 := by
  unfold orI
  have h3 : xs.find? (fun y => decide (y ≠ 0)) = none := by
    rw [List.find?_eq_none]; intro z hz; simp [hw z hz]
  rw [h3]; rfl
theorem lk_not {xs : List Lk} {k : Nat} {y : Lk} (hy : xs[k]? = some y) (h : linkB y = false) : chainB xs = false := by
  cases hc : chainB xs with
  | false => rfl
  | true => have := (chainB_iff.1 hc).2.1 y (List.mem_of_getElem? hy); rw [h] at this; cases this
theorem lk_not_up {xs : List Lk} {k : Nat} {y z : Lk} (h0 : k ≠ 0) (hy : xs[k]? = some y) (hz : xs[k - 1]? = some z) (h : ¬ ltP z y) : chainB xs = false := by
  cases hc : chainB xs with
  | false => rfl
  | true => exact absurd (upP_get (chainB_iff.1 hc).2.2 hz hy (by omega)) h
theorem lk_long {xs : List Lk} (h : ¬ (xs.length : Int) ≤ 2097152) : chainB xs = false := by
  cases hc : chainB xs with
  | false => rfl
  | true => have := (chainB_iff.1 hc).1; omega
theorem upP_snoc {l : List Lk} {y : Lk} (h : UpP l) (hl : ∀ z, l.getLast? = some z → ltP z y) : UpP (l ++ [y]) := by
  unfold UpP
  rw [List.pairwise_append]
  refine ⟨h, by simp, fun x hx y' hy' => ?_⟩
  simp at hy'; subst hy'
  obtain ⟨j, hj⟩ := List.mem_iff_getElem?.1 hx
  have hjl := (List.getElem?_eq_some_iff.1 hj).1
  obtain ⟨z, hz⟩ := getk (xs := l) (k := l.length - 1) (by omega)
  have h1 := hl z (by rw [List.getLast?_eq_getElem?]; exact hz)
  rcases Nat.lt_or_ge j (l.length - 1) with h2 | h2
  · exact ltP_trans (upP_get h hj hz h2) h1
  · have : j = l.length - 1 := by omega
    subst this; rw [hj] at hz; injection hz with hz; rw [hz]; exact h1
theorem lk_snoc {xs : List Lk} {k : Nat} {y : Lk} (hy : xs[k]? = some y) (hm : ∀ x ∈ xs.take k, linkB x = true) (hu : UpP (xs.take k)) (h1 : linkB y = true) (h2 : k = 0 ∨ ∃ z, xs[k - 1]? = some z ∧ ltP z y) :
    (∀ x ∈ xs.take (k + 1), linkB x = true) ∧ UpP (xs.take (k + 1)) := by
  have e : xs.take (k + 1) = xs.take k ++ [y] := by rw [List.take_add_one, hy]; rfl
  rw [e]
  refine ⟨fun x hx => ?_, upP_snoc hu (fun z hz => ?_)⟩
  · rcases List.mem_append.1 hx with hx | hx
    · exact hm x hx
    · simp at hx; rw [hx]; exact h1
  · rcases h2 with rfl | ⟨z', h3, h4⟩
    · simp at hz
    · have hk := (List.getElem?_eq_some_iff.1 hy).1
      have hl : (xs.take k).length = k := by simp; omega
      rw [List.getLast?_eq_getElem?, hl] at hz
      rcases Nat.eq_zero_or_pos k with h0 | h0
      · subst h0; simp at hz
      · rw [List.getElem?_take_of_lt (by omega), h3] at hz
        injection hz with hz; rw [← hz]; exact h4
theorem lk_end {xs : List Lk} (hm : ∀ x ∈ xs, linkB x = true) (hu : UpP xs) : decide ((xs.length : Int) ≤ 2097152) = chainB xs := by
  unfold chainB
  have : ((xs.length : Int) ≤ 2097152) ↔ (xs.length ≤ 2097152 ∧ (∀ x ∈ xs, linkB x = true) ∧ UpP xs) := ⟨fun h => ⟨by omega, hm, hu⟩, fun h => by have := h.1; omega⟩
  exact decide_eq_decide.2 this
attribute [local semireducible] T TL
theorem R.ldP {fr : Fr} {x : Cx} {Q : Post} {σ : Env} {H : Heap} {L : Own} {ds : List Nat} {ol rest : List Oper} {d : Nat} {ty : TypeId} {p : String} {af : Array Edge} {g : Option (Nat × Bool)}
    {t : TypeId} {A : Operand} {b o : Nat} {y : Lk} (hagg : ∀ w, (isAgg t).run fr.P w = .ok true w) (hsz : ∀ w, (sizeOf t).run fr.P w = .ok 2 w) (hw : wan fr.N ol σ d g = true) (ha : ev σ A = .pointer (some ⟨b, o, none⟩))
    (he : ElemAt pairE H b o y) (h : TL fr x ol rest Q (upd σ d (.agg #[.int .i64 y.1, .int .i64 y.2])) H L ds) : TL fr x ol (⟨some d, .load t A, ty, p, af, g⟩ :: rest) Q σ H L ds :=
  R.ldA hagg hsz hw ha he (fun cs q => by
    obtain rfl : cs = [.int .i64 y.1, .int .i64 y.2] := q
    exact h)
/-- Where n goes into a row. -/
def putK (l : List Int) (n : Int) : Nat := (l.takeWhile (fun y => decide (y < n))).length
def putL (l : List Int) (n : Int) : List Int := if l[putK l n]? = some n then l else l.take (putK l n) ++ [n] ++ l.drop (putK l n)
theorem putK_eq : ∀ {l : List Int} {n : Int} {k : Nat}, (∀ (j : Nat) y, j < k → l[j]? = some y → y < n) → k ≤ l.length → (∀ y, l[k]? = some y → ¬ y < n) → putK l n = k
  | [], n, k, _, hk, _ => by simp at hk; subst hk; rfl
  | a :: l, n, 0, _, _, h => by
    have : ¬ a < n := h a rfl
    simp [putK, List.takeWhile_cons, this]
  | a :: l, n, k + 1, h, hk, h2 => by
    have h1 : a < n := h 0 a (by omega) rfl
    have ih := putK_eq (l := l) (n := n) (k := k) (fun j y hj hy => h (j + 1) y (by omega) (by simpa using hy)) (by simpa using hk) (fun y hy => h2 y (by simpa using hy))
    unfold putK at ih ⊢
    simp [List.takeWhile_cons, h1, ih]
theorem putL_len (l : List Int) (n : Int) : (putL l n).length ≤ l.length + 1 := by
  unfold putL; split
  · omega
  · simp; omega
def toL (xs : List Lk) (v : Int) : List Int := if chainB xs then (xs.filter (fun y => decide (y.1 = v))).map (·.2) else []
def fromL (xs : List Lk) (v : Int) : List Int := if chainB xs then (xs.filter (fun y => decide (y.2 = v))).map (·.1) else []
theorem toL_eq (xs : List Lk) (v : Int) : (xs.filter (fun y => decide (y.1 = v) && chainB xs)).map (·.2) = toL xs v := by
  unfold toL
  cases chainB xs <;> simp
theorem fromL_eq (xs : List Lk) (v : Int) : (xs.filter (fun y => decide (y.2 = v) && chainB xs)).map (·.1) = fromL xs v := by
  unfold fromL
  cases chainB xs <;> simp
theorem filtP_yes {xs : List Lk} {p : Lk → Bool} {f : Lk → Int} {k : Nat} {y : Lk} (hy : xs[k]? = some y) (hp : p y = true) : ((xs.take (k + 1)).filter p).map f = ((xs.take k).filter p).map f ++ [f y] := by
  rw [List.take_add_one, hy, List.filter_append, List.map_append]; simp [hp]
theorem filtP_no {xs : List Lk} {p : Lk → Bool} {f : Lk → Int} {k : Nat} {y : Lk} (hy : xs[k]? = some y) (hp : p y = false) : ((xs.take (k + 1)).filter p).map f = ((xs.take k).filter p).map f := by
  rw [List.take_add_one, hy, List.filter_append, List.map_append]; simp [hp]
end Go.SX
