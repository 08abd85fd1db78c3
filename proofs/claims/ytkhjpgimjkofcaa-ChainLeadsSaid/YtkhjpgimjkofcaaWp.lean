/- WP: what the laws of chapter 18 say of ways; in plain Lean. -/
import Derived.Test.YtkhjpgimjkofcaaWo
set_option linter.unusedVariables false
set_option linter.unusedSimpArgs false
namespace Go.SX
open Go
theorem Wk.split {to : Int → List Int} : ∀ {p : List Int} {y : Int} {r : List Int}, Wk to (p ++ y :: r) ↔ Wk to (p ++ [y]) ∧ Wk to (y :: r)
  | [], y, r => ⟨fun h => ⟨trivial, h⟩, fun h => h.2⟩
  | [a], y, r => by
    show (y ∈ to a ∧ Wk to (y :: r)) ↔ ((y ∈ to a ∧ True) ∧ Wk to (y :: r))
    simp
  | a :: b :: p, y, r => by
    have ih := Wk.split (to := to) (p := b :: p) (y := y) (r := r)
    show (b ∈ to a ∧ Wk to ((b :: p) ++ y :: r)) ↔ ((b ∈ to a ∧ Wk to ((b :: p) ++ [y])) ∧ Wk to (y :: r))
    rw [ih]
    simp [and_assoc]
theorem lastI_app (p : List Int) (y : Int) (r : List Int) : lastI (p ++ y :: r) = lastI (y :: r) := by
  unfold lastI; rw [List.getLast?_append]; simp [List.getLast?_cons]
theorem Wy.pre {to : Int → List Int} {a z y : Int} {p r : List Int} (h : Wy to a z (p ++ y :: r)) : Wy to a y (p ++ [y]) := by
  obtain ⟨h1, h2, h3⟩ := h
  refine ⟨(Wk.split.1 h1).1, ?_, lastI_snoc _ _⟩
  cases p with
  | nil => exact h2
  | cons x q => exact h2
theorem Wy.suf {to : Int → List Int} {a z y : Int} {p r : List Int} (h : Wy to a z (p ++ y :: r)) : Wy to y z (y :: r) := by
  obtain ⟨h1, h2, h3⟩ := h
  exact ⟨(Wk.split.1 h1).2, rfl, by rw [← h3, lastI_app]⟩
theorem Wy.join {to : Int → List Int} {a z y : Int} {q r : List Int} (h : Wy to a y q) (k : Wy to y z (y :: r)) : Wy to a z (q ++ r) := by
  rcases h.unsnoc with ⟨rfl, rfl⟩ | ⟨p, v, rfl, h4, h5⟩
  · exact k
  · obtain ⟨h1, h2, h3⟩ := h
    have e : p ++ [y] ++ r = p ++ y :: r := by simp
    rw [e]
    refine ⟨Wk.split.2 ⟨h1, k.1⟩, ?_, by rw [lastI_app]; exact k.2.2⟩
    cases p with
    | nil => exact h2
    | cons x q => exact h2
theorem lessB_app_r {a b : List Int} (r : List Int) (h : lessB a b = true) : lessB (a ++ r) (b ++ r) = true := by
  have h1 := lessB_le h
  by_cases e : a.length = b.length
  · unfold lessB at h ⊢
    rw [if_pos e] at h
    rw [if_pos (by simp [e])]
    exact lexB_app h
  · exact lessB_len (by simp; omega)
theorem lessB_pre : ∀ (p a b : List Int), lessB (p ++ a) (p ++ b) = lessB a b
  | [], a, b => rfl
  | x :: p, a, b => by rw [List.cons_append, List.cons_append, lessB_cons]; exact lessB_pre p a b
theorem Lst.pre {to : Int → List Int} {a z y : Int} {p r : List Int} (h : Lst to a z (p ++ y :: r)) : Lst to a y (p ++ [y]) := by
  refine ⟨h.1.pre, fun q hq => ?_⟩
  cases hl : lessB q (p ++ [y]) with
  | false => rfl
  | true =>
    have h1 := h.2 _ (hq.join h.1.suf)
    have h2 := lessB_app_r r hl
    rw [List.append_assoc] at h2
    rw [show [y] ++ r = y :: r from rfl] at h2
    rw [h1] at h2; cases h2
theorem Lst.suf {to : Int → List Int} {a z y : Int} {p r : List Int} (h : Lst to a z (p ++ y :: r)) : Lst to y z (y :: r) := by
  refine ⟨h.1.suf, fun q hq => ?_⟩
  cases hl : lessB q (y :: r) with
  | false => rfl
  | true =>
    obtain ⟨q1, q2, q3⟩ := hq
    cases q with
    | nil => exact q1.elim
    | cons x q =>
      injection q2 with q2
      subst q2
      have h1 := h.2 _ (h.1.pre.join ⟨q1, rfl, q3⟩)
      have e : p ++ [x] ++ q = p ++ x :: q := by simp
      rw [e, lessB_pre] at h1
      rw [h1] at hl; cases hl
theorem split_at {l : List Int} {i : Nat} {y : Int} (h : l[i]? = some y) : l = l.take i ++ y :: l.drop (i + 1) ∧ l.take (i + 1) = l.take i ++ [y] ∧ l.drop i = y :: l.drop (i + 1) := by
  have h1 := drop_at h
  refine ⟨?_, by rw [List.take_add_one, h]; rfl, h1⟩
  conv => lhs; rw [← List.take_append_drop i l]
  rw [h1]
theorem way_parts {xs : List Lk} {a z y : Int} {i : Nat} (h : (wayR xs a z)[i]? = some y) : wayR xs a y = (wayR xs a z).take (i + 1) ∧ wayR xs y z = (wayR xs a z).drop i := by
  have hne : wayR xs a z ≠ [] := fun e => by rw [e] at h; simp at h
  by_cases hp : ∃ p, Wy (toL xs) a z p
  · obtain ⟨p, hp⟩ := hp
    have hl := (wayR_least hp).1
    obtain ⟨h1, h2, h3⟩ := split_at h
    rw [h1] at hl
    exact ⟨by rw [h2]; exact wayR_of hl.pre, by rw [h3]; exact wayR_of hl.suf⟩
  · exact absurd (wayR_none (fun p h => hp ⟨p, h⟩)) hne
theorem way_links {xs : List Lk} {a z x y : Int} {i : Nat} (h0 : 0 < i) (h : (wayR xs a z)[i]? = some y) (hx : (wayR xs a z)[i - 1]? = some x) : y ∈ toL xs x := by
  have hne : wayR xs a z ≠ [] := fun e => by rw [e] at h; simp at h
  by_cases hp : ∃ p, Wy (toL xs) a z p
  · obtain ⟨p, hp⟩ := hp
    have hl := (wayR_least hp).1
    obtain ⟨h1, h2, h3⟩ := split_at hx
    rw [h1] at hl
    have h4 : (wayR xs a z).drop (i - 1 + 1) = y :: (wayR xs a z).drop (i + 1) := by rw [show i - 1 + 1 = i by omega]; exact (split_at h).2.2
    have h5 := hl.suf.1.1
    rw [h4] at h5
    exact h5.1
  · exact absurd (wayR_none (fun p h => hp ⟨p, h⟩)) hne
theorem way_ends {xs : List Lk} {a z : Int} (hne : wayR xs a z ≠ []) : (wayR xs a z)[0]? = some a ∧ lastI (wayR xs a z) = z := by
  by_cases hp : ∃ p, Wy (toL xs) a z p
  · obtain ⟨p, hp⟩ := hp
    have hl := (wayR_least hp).1.1
    exact ⟨by rw [← List.head?_eq_getElem?]; exact hl.2.1, hl.2.2⟩
  · exact absurd (wayR_none (fun p h => hp ⟨p, h⟩)) hne
theorem way_leads {xs : List Lk} {a z : Int} : wayR xs a z = [] ↔ leadsR xs a z = false ∧ z ≠ a := by
  have hl := leads_way (xs := xs) (a := a) (z := z)
  constructor
  · intro h
    have hn : ¬ ∃ p, Wy (toL xs) a z p := fun ⟨p, hp⟩ => (wayR_least hp).2 h
    rw [← hl] at hn
    refine ⟨?_, fun e => hn (.inr e)⟩
    cases hh : leadsR xs a z with
    | false => rfl
    | true => exact absurd (.inl hh) hn
  · rintro ⟨h1, h2⟩
    refine wayR_none (fun p hp => ?_)
    rcases hl.2 ⟨p, hp⟩ with h3 | h3
    · rw [h1] at h3; cases h3
    · exact h2 h3
theorem way_asked {xs : List Lk} {a z : Int} (hne : wayR xs a z ≠ []) : z ∈ (askL xs a).map lastI := by
  obtain ⟨h1, h2⟩ := way_in hne
  exact List.mem_map.2 ⟨_, h1, h2⟩
theorem asked_way {xs : List Lk} {a v : Int} (h : v ∈ (askL xs a).map lastI) : wayR xs a v ≠ [] := by
  obtain ⟨p, hp, rfl⟩ := List.mem_map.1 h
  rw [← ask_way hp]; exact askL_ne hp
-- one more owner
theorem ownerGo_snoc {xs : List Lk} {a o : Int} : ∀ (os best : List Int), ownerGo xs a (os ++ [o]) best = if wayR xs a o ≠ [] ∧ (ownerGo xs a os best = [] ∨ lessB (wayR xs a o) (ownerGo xs a os best) = true) then wayR xs a o else ownerGo xs a os best
  | [], best => rfl
  | x :: os, best => by rw [List.cons_append, ownerGo, ownerGo]; exact ownerGo_snoc os _
theorem more_not {xs : List Lk} {v m : Int} {os : List Int} (h : wayR xs v m = []) : ownerW xs v (os ++ [m]) = ownerW xs v os := by
  unfold ownerW; rw [ownerGo_snoc, if_neg (fun k => k.1 h)]
theorem more_leads {xs : List Lk} {v m : Int} {os : List Int} (h : wayR xs v m ≠ []) : ownerW xs v (os ++ [m]) ≠ [] ∧ (lastI (ownerW xs v (os ++ [m])) = m ∨ (ownerW xs v os ≠ [] ∧ ownerW xs v (os ++ [m]) = ownerW xs v os)) := by
  unfold ownerW
  rw [ownerGo_snoc]
  by_cases k : wayR xs v m ≠ [] ∧ (ownerGo xs v os [] = [] ∨ lessB (wayR xs v m) (ownerGo xs v os []) = true)
  · rw [if_pos k]
    exact ⟨h, .inl (way_in h).2⟩
  · rw [if_neg k]
    have h1 : ownerGo xs v os [] ≠ [] := fun e => k ⟨h, .inl e⟩
    exact ⟨h1, .inr ⟨h1, rfl⟩⟩
theorem way_self (xs : List Lk) (a : Int) : wayR xs a a = [a] := by
  refine wayR_of ⟨Wy.one _ _, fun q hq => ?_⟩
  rcases hq.un with ⟨rfl, _⟩ | ⟨v, r, rfl, _, _⟩
  · exact lessB_irr _
  · exact lessB_not (by simp)
theorem more_self {xs : List Lk} {m : Int} {os : List Int} : lastI (ownerW xs m (os ++ [m])) = m := by
  have h0 : wayR xs m m ≠ [] := by rw [way_self]; simp
  obtain ⟨h1, h2⟩ := more_leads (os := os) h0
  obtain ⟨k1, _, k3, _⟩ := owner_go (xs := xs) (a := m) (os ++ [m]) [] _ rfl
  change (ownerW xs m (os ++ [m]) = [] ∨ ∃ o ∈ os ++ [m], ownerW xs m (os ++ [m]) = wayR xs m o) at k1
  change (∀ o ∈ os ++ [m], wayR xs m o = [] ∨ lessB (wayR xs m o) (ownerW xs m (os ++ [m])) = false) at k3
  obtain ⟨o, _, ho⟩ := k1.resolve_left h1
  have k4 := (k3 m (by simp)).resolve_left h0
  rw [way_self] at k4
  rw [ho] at h1 k4 ⊢
  have hw := (way_ends h1).1
  have hl : (wayR xs m o).length ≤ 1 := by
    rcases Nat.lt_or_ge 1 (wayR xs m o).length with h | h
    · rw [lessB_len (by simpa using h)] at k4; cases k4
    · exact h
  cases hc : wayR xs m o with
  | nil => exact absurd hc h1
  | cons x r =>
    rw [hc] at hw hl
    simp at hw hl
    subst hw; subst hl; rfl
theorem heirs_mem {xs : List Lk} {f : Int} {os : List Int} {v : Int} (hc : chainB xs = true) (h : v ∈ heirsR xs f os) : (firstR xs v (ownP os)).2.2 = 0 ∧ (firstR xs v (ownP os)).1 = f ∧ v ≠ f := by
  unfold heirsR heirsK at h
  rw [if_pos hc] at h
  obtain ⟨i, hi, rfl⟩ := List.mem_map.1 h
  have h1 := (List.mem_filter.1 hi).2
  unfold heirAt at h1
  cases hx : xs[i]? with
  | none => rw [hx] at h1; cases h1
  | some y =>
    rw [hx] at h1
    simp only [Bool.and_eq_true, Bool.not_eq_true', decide_eq_false_iff_not, decide_eq_true_eq] at h1
    exact ⟨h1.1.2, h1.2, h1.1.1.1⟩
theorem heirs_sorted {xs : List Lk} {f : Int} {os : List Int} : (heirsR xs f os).Pairwise (· ≤ ·) := by
  unfold heirsR
  split
  · rename_i hc
    have hu := (chainB_iff.1 hc).2.2
    unfold heirsK
    refine List.pairwise_map.2 ?_
    refine (List.Pairwise.sublist List.filter_sublist (List.pairwise_lt_range)).imp_of_mem (fun {i j} hi hj hij => ?_)
    have h1 := (List.mem_filter.1 hi).1
    have h2 := (List.mem_filter.1 hj).1
    rw [List.mem_range] at h1 h2
    rw [List.getElem?_eq_getElem h1, List.getElem?_eq_getElem h2]
    have := (List.pairwise_iff_getElem.1 hu) i j h1 h2 hij
    show (xs[i]).1 ≤ (xs[j]).1
    unfold ltP at this; omega
  · exact List.Pairwise.nil
-- the first that is asked
theorem first_none {p : Int → Bool} {l : List (List Int)} (h : l.find? (fun w => p (lastI w)) = none) : fidxI p (l.map lastI) = -1 := by
  refine fidxI_none (fun j z hz => ?_)
  rw [List.getElem?_map] at hz
  cases hj : l[j]? with
  | none => rw [hj] at hz; cases hz
  | some w =>
    rw [hj] at hz; simp at hz; subst hz
    have := List.find?_eq_none.1 h w (List.mem_of_getElem? hj)
    simpa using this
theorem first_at {p : Int → Bool} : ∀ {l : List (List Int)} {w : List Int}, l.find? (fun w => p (lastI w)) = some w → ∃ i : Nat, l[i]? = some w ∧ p (lastI w) = true ∧ ∀ (j : Nat) z, j < i → (l.map lastI)[j]? = some z → p z = false
  | [], _, h => by cases h
  | x :: l, w, h => by
    rw [List.find?_cons] at h
    cases hx : p (lastI x) with
    | true =>
      rw [hx] at h; injection h with h; subst h
      exact ⟨0, rfl, hx, fun j z hj => absurd hj (Nat.not_lt_zero _)⟩
    | false =>
      rw [hx] at h
      obtain ⟨i, h1, h2, h3⟩ := first_at h
      refine ⟨i + 1, by simpa using h1, h2, fun j z hj hz => ?_⟩
      cases j with
      | zero => simp at hz; subst hz; exact hx
      | succ j => exact h3 j z (by omega) (by simpa using hz)
/-- The first that is asked and owns, by its place. -/
theorem first_place {xs : List Lk} (hc : chainB xs = true) (a : Int) (p : Int → Bool) : (fidxI p ((askL xs a).map lastI) = -1 ∧ firstR xs a p = (0, [], 4)) ∨
    ∃ (i : Nat) (w : List Int), fidxI p ((askL xs a).map lastI) = i ∧ ((askL xs a).map lastI)[i]? = some (lastI w) ∧ firstR xs a p = (lastI w, w, 0) ∧ wayR xs a (lastI w) = w ∧ w ≠ [] := by
  unfold firstR
  rw [if_pos hc]
  cases hf : (askL xs a).find? (fun w => p (lastI w)) with
  | none => exact .inl ⟨first_none hf, rfl⟩
  | some w =>
    obtain ⟨i, h1, h2, h3⟩ := first_at hf
    have h4 : ((askL xs a).map lastI)[i]? = some (lastI w) := by rw [List.getElem?_map, h1]; rfl
    exact .inr ⟨i, w, fidxI_at h4 h2 h3, h4, rfl, (ask_way (List.mem_of_getElem? h1)).symm, askL_ne (List.mem_of_getElem? h1)⟩
theorem ask_nodup (xs : List Lk) (a : Int) : ((askL xs a).map lastI).Nodup := by
  refine List.pairwise_map.2 ?_
  have hA := askL_all xs a
  refine hA.sorted.imp_of_mem (fun {p q} hp hq hpq e => ?_)
  have h1 := hA.least p hp
  have h2 := hA.least q hq
  rw [e] at h1
  rw [h1.uniq h2, lessB_irr] at hpq; cases hpq
theorem ask_len_up {xs : List Lk} {a : Int} {i j : Nat} {v w : Int} (hi : ((askL xs a).map lastI)[i]? = some v) (hj : ((askL xs a).map lastI)[j]? = some w) (hij : i ≤ j) : (wayR xs a v).length ≤ (wayR xs a w).length := by
  rw [List.getElem?_map] at hi hj
  cases hp : (askL xs a)[i]? with
  | none => rw [hp] at hi; cases hi
  | some p =>
    cases hq : (askL xs a)[j]? with
    | none => rw [hq] at hj; cases hj
    | some q =>
      rw [hp] at hi; rw [hq] at hj
      simp at hi hj
      subst hi; subst hj
      rw [← ask_way (List.mem_of_getElem? hp), ← ask_way (List.mem_of_getElem? hq)]
      rcases Nat.lt_or_ge i j with h | h
      · have h1 := List.getElem?_eq_some_iff.1 hp
        have h2 := List.getElem?_eq_some_iff.1 hq
        have := (List.pairwise_iff_getElem.1 (askL_all xs a).sorted) i j h1.1 h2.1 h
        rw [h1.2, h2.2] at this
        exact lessB_le this
      · have : i = j := by omega
        subst this
        rw [hp] at hq; injection hq with hq; subst hq; exact Nat.le_refl _
theorem wave_asked {xs : List Lk} {a : Int} {k : Nat} {w : List Int} {v : Int} (hk : (wavesL false xs a)[k]? = some w) (hv : v ∈ w) : v ∈ (askL xs a).map lastI := by
  obtain ⟨p, hp⟩ := ((waves_flat xs a).2 v).1 (List.mem_flatten.2 ⟨w, List.mem_of_getElem? hk, hv⟩)
  exact way_asked (wayR_least hp).2
theorem ask_first (xs : List Lk) (a : Int) : ((askL xs a).map lastI)[0]? = some a := by
  have : askL xs a = [a] :: askGo (toL xs) (xs.length + 1) (askIn [a] (toL xs (lastI [a])) ([a], [])) := rfl
  rw [this]; rfl
end Go.SX
namespace Go.SX
open Go
theorem parts_a {xs : List Lk} {a z : Int} (h : (firstR xs a (fun x => decide (x = z))).2.2 ≠ 0) : (firstR xs a (fun x => decide (x = z))).2.1 = [] := by
  rw [way_tell] at h ⊢
  cases hc : chainB xs with
  | false => rw [if_neg (by simp)]
  | true =>
    rw [hc, if_pos rfl] at h
    rw [if_pos rfl]
    unfold tellW at h ⊢
    split
    · rfl
    · rename_i k; rw [if_neg k] at h; exact absurd rfl h
theorem parts_b {xs : List Lk} {a z : Int} (h : (firstR xs a (fun x => decide (x = z))).2.2 ≠ 0) : (decide ((firstR xs a (fun x => decide (x = z))).2.2 = 260) == decide ((if chainB xs = true then (0 : Int) else 260) ≠ 0)) = true := by
  rw [way_tell] at h ⊢
  cases hc : chainB xs with
  | false => simp
  | true =>
    rw [hc, if_pos rfl] at h
    unfold tellW at h ⊢
    by_cases k : wayR xs a z = []
    · rw [if_pos rfl, if_pos k]; rfl
    · rw [if_neg k] at h; exact absurd rfl h
theorem parts_c {xs : List Lk} {a z : Int} (h : (firstR xs a (fun x => decide (x = z))).2.2 ≠ 0) (h2 : ¬ (firstR xs a (fun x => decide (x = z))).2.2 = 260) : a ≠ z ∧ leadsR xs a z = false := by
  rw [way_tell] at h h2
  cases hc : chainB xs with
  | false => rw [hc, if_neg (by simp)] at h2; exact absurd rfl h2
  | true =>
    rw [hc, if_pos rfl] at h h2
    unfold tellW at h h2
    by_cases k : wayR xs a z = []
    · have := way_leads.1 k; exact ⟨fun e => this.2 e.symm, this.1⟩
    · rw [if_neg k] at h; exact absurd rfl h
theorem parts_d {xs : List Lk} {a z : Int} (h : (firstR xs a (fun x => decide (x = z))).2.2 = 0) : chainB xs = true ∧ (firstR xs a (fun x => decide (x = z))).2.1 = wayR xs a z ∧ wayR xs a z ≠ [] := by
  rw [way_tell] at h ⊢
  cases hc : chainB xs with
  | false => rw [hc, if_neg (by simp)] at h; cases h
  | true =>
    rw [hc, if_pos rfl] at h
    unfold tellW at h ⊢
    by_cases k : wayR xs a z = []
    · rw [if_pos k] at h; cases h
    · rw [if_pos rfl, if_neg k]; exact ⟨rfl, rfl, k⟩
theorem parts_e {xs : List Lk} {a z : Int} (hc : chainB xs = true) (h : wayR xs a z ≠ []) : firstR xs a (fun x => decide (x = z)) = (z, wayR xs a z, 0) := by
  rw [way_tell, hc, if_pos rfl]
  unfold tellW
  rw [if_neg h, (way_ends h).2]
end Go.SX
namespace Go.SX
open Go
theorem fp1 {xs : List Lk} (hc : chainB xs = true) (a : Int) (p : Int → Bool) : (decide (fidxI p ((askL xs a).map lastI) < 0) != decide ((firstR xs a p).2.2 = 4)) = false := by
  rcases first_place hc a p with ⟨h1, h2⟩ | ⟨i, w, h1, _, h2, _⟩
  · rw [h1, h2]; rfl
  · rw [h1, h2]
    have : ¬ ((i : Int) < 0) := by omega
    simp [this]
theorem fp2 {xs : List Lk} (hc : chainB xs = true) (a : Int) (p : Int → Bool) (h : 0 ≤ fidxI p ((askL xs a).map lastI)) : ∃ w, firstR xs a p = (lastI w, w, 0) ∧ ((askL xs a).map lastI)[(fidxI p ((askL xs a).map lastI)).toNat]? = some (lastI w) ∧ wayR xs a (lastI w) = w ∧ w ≠ [] := by
  rcases first_place hc a p with ⟨h1, h2⟩ | ⟨i, w, h1, h2, h3, h4, h5⟩
  · rw [h1] at h; omega
  · exact ⟨w, h3, by rw [h1]; simpa using h2, h4, h5⟩
theorem more1 {xs : List Lk} {v m : Int} {os : List Int} (h : wayR xs v m = []) : firstR xs v (ownP (os ++ [m])) = firstR xs v (ownP os) := by
  rw [owner_tell, owner_tell, more_not h]
theorem more2 {xs : List Lk} (hc : chainB xs = true) {v m : Int} {os : List Int} (h : wayR xs v m ≠ []) : (firstR xs v (ownP (os ++ [m]))).2.2 = 0 ∧ ((firstR xs v (ownP (os ++ [m]))).1 ≠ m → (firstR xs v (ownP os)).2.2 = 0 ∧ (firstR xs v (ownP (os ++ [m]))).1 = (firstR xs v (ownP os)).1) := by
  rw [owner_first hc, owner_first hc]
  obtain ⟨h1, h2⟩ := more_leads (os := os) h
  unfold tellW
  rw [if_neg h1]
  refine ⟨rfl, fun h3 => ?_⟩
  rcases h2 with h2 | ⟨h2, h4⟩
  · exact absurd h2 h3
  · rw [if_neg h2, h4]; exact ⟨rfl, rfl⟩
theorem more3 {xs : List Lk} (hc : chainB xs = true) {m : Int} {os : List Int} : (firstR xs m (ownP (os ++ [m]))).1 = m := by
  rw [owner_first hc]
  have h0 : wayR xs m m ≠ [] := by rw [way_self]; simp
  unfold tellW
  rw [if_neg (more_leads (os := os) h0).1]
  exact more_self
theorem no_way {xs : List Lk} {v m : Int} (h1 : leadsR xs v m = false) (h2 : ¬ v = m) : wayR xs v m = [] := way_leads.2 ⟨h1, fun e => h2 e.symm⟩
theorem yes_way {xs : List Lk} {v m : Int} (h1 : leadsR xs v m = true) : wayR xs v m ≠ [] := fun e => by
  have := (way_leads.1 e).1; rw [h1] at this; cases this
theorem not_take {l : List Int} (h : l.Nodup) {k : Nat} {v : Int} (hv : l[k]? = some v) : v ∉ l.take k := fun hm => by
  obtain ⟨j, hj⟩ := List.mem_iff_getElem?.1 hm
  have hjl := (List.getElem?_eq_some_iff.1 hj).1
  have hjk : j < k := by simp at hjl; omega
  rw [List.getElem?_take_of_lt hjk] at hj
  obtain ⟨h1, h2⟩ := List.getElem?_eq_some_iff.1 hj
  obtain ⟨h3, h4⟩ := List.getElem?_eq_some_iff.1 hv
  exact (List.pairwise_iff_getElem.1 h) j k h1 h3 hjk (h2.trans h4.symm)
end Go.SX
namespace Go.SX
theorem not_short {xs : List Lk} {a v : Int} {k last : Nat} (hla : last = 0 ∨ ∃ v2, ((askL xs a).map lastI)[k - 1]? = some v2 ∧ last = (wayR xs a v2).length) (hv : ((askL xs a).map lastI)[k]? = some v) : ¬ (((wayR xs a v).length : Int) < (last : Int)) := by
  rcases hla with h | ⟨v2, h1, h2⟩
  · omega
  · have := ask_len_up h1 hv (by omega)
    omega
end Go.SX
