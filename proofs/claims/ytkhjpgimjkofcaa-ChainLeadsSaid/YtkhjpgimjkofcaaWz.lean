/- WZ: a ring, and one link more; what leads on over a third; in plain Lean. -/
import Derived.Test.YtkhjpgimjkofcaaWx
set_option linter.unusedVariables false
set_option linter.unusedSimpArgs false
namespace Go.SX
open Go
def Rch (to : Int → List Int) (a z : Int) : Prop := ∃ p, Wy to a z p
theorem Rch.refl (to : Int → List Int) (a : Int) : Rch to a a := ⟨_, Wy.one to a⟩
theorem Rch.cons {to : Int → List Int} {a v z : Int} (hv : v ∈ to a) (h : Rch to v z) : Rch to a z := by
  obtain ⟨p, hp⟩ := h
  exact ⟨_, hp.cons hv⟩
theorem Rch.un {to : Int → List Int} {a z : Int} (h : Rch to a z) : z = a ∨ ∃ v, v ∈ to a ∧ Rch to v z := by
  obtain ⟨p, hp⟩ := h
  rcases hp.un with ⟨_, h⟩ | ⟨v, r, _, h1, h2⟩
  · exact .inl h
  · exact .inr ⟨v, h1, _, h2⟩
theorem Rch.trans {to : Int → List Int} {a y z : Int} (h : Rch to a y) (k : Rch to y z) : Rch to a z := by
  obtain ⟨p, hp⟩ := h
  obtain ⟨q, hq⟩ := k
  rcases hq.un with ⟨rfl, rfl⟩ | ⟨v, r, rfl, h1, h2⟩
  · exact ⟨p, hp⟩
  · exact ⟨_, hp.join hq⟩
/-- A link more: what is reached is reached without it, or over it. -/
theorem Rch.more {to to' : Int → List Int} {m : Lk} (h : ∀ x y, y ∈ to' x → y ∈ to x ∨ (x = m.1 ∧ y = m.2)) : ∀ {p : List Int} {a z : Int}, Wy to' a z p → Rch to a z ∨ (Rch to a m.1 ∧ Rch to m.2 z)
  | [], a, z, hp => hp.1.elim
  | x :: p, a, z, hp => by
    rcases hp.un with ⟨e, rfl⟩ | ⟨v, r, e, hv, hr⟩
    · exact .inl (Rch.refl _ _)
    · injection e with e1 e2
      subst e1; subst e2
      have ih := Rch.more h hr
      rcases h _ _ hv with h1 | ⟨h1, h2⟩
      · rcases ih with h3 | ⟨h3, h4⟩
        · exact .inl (.cons h1 h3)
        · exact .inr ⟨.cons h1 h3, h4⟩
      · subst h1; subst h2
        rcases ih with h3 | ⟨h3, h4⟩
        · exact .inr ⟨Rch.refl _ _, h3⟩
        · exact .inr ⟨Rch.refl _ _, h4⟩
theorem Rch.mono {to to' : Int → List Int} (h : ∀ x y, y ∈ to x → y ∈ to' x) : ∀ {p : List Int} {a z : Int}, Wy to a z p → Rch to' a z
  | [], a, z, hp => hp.1.elim
  | x :: p, a, z, hp => by
    rcases hp.un with ⟨e, rfl⟩ | ⟨v, r, e, hv, hr⟩
    · exact Rch.refl _ _
    · injection e with e1 e2
      subst e1; subst e2
      exact .cons (h _ _ hv) (Rch.mono h hr)
theorem leads_rch {xs : List Lk} {a z : Int} : leadsR xs a z = true ↔ ∃ v ∈ toL xs a, Rch (toL xs) v z := leads_iff
theorem mem_toL {xs : List Lk} (hc : chainB xs = true) {x y : Int} : y ∈ toL xs x ↔ (x, y) ∈ xs := by
  unfold toL
  rw [if_pos hc]
  simp only [List.mem_map, List.mem_filter, decide_eq_true_eq]
  constructor
  · rintro ⟨l, ⟨h1, h2⟩, h3⟩
    subst h2; subst h3
    exact h1
  · intro h
    exact ⟨_, ⟨h, rfl⟩, rfl⟩
theorem round_iff {xs : List Lk} (hc : chainB xs = true) : roundR xs = true ↔ ∃ x y, (x, y) ∈ xs ∧ Rch (toL xs) y x := by
  unfold roundR
  rw [hc, Bool.true_and, List.any_eq_true]
  constructor
  · rintro ⟨y, _, h2⟩
    obtain ⟨v, hv, h3⟩ := leads_rch.1 h2
    exact ⟨y.1, v, (mem_toL hc).1 hv, h3⟩
  · rintro ⟨x, y, h1, h2⟩
    exact ⟨_, h1, leads_rch.2 ⟨y, (mem_toL hc).2 h1, h2⟩⟩
theorem closes_rch {xs : List Lk} {a z : Int} : (decide (a = z) || leadsR xs z a) = true ↔ Rch (toL xs) z a := by
  rw [Bool.or_eq_true, decide_eq_true_eq, leads_rch]
  constructor
  · rintro (rfl | ⟨v, h1, h2⟩)
    · exact Rch.refl _ _
    · exact .cons h1 h2
  · intro h
    exact h.un
/-- The stage's theorem, in plain words. -/
theorem ring_more {xs n : List Lk} {m : Lk} (hc : chainB xs = true) (hn : chainB n = true) (hmem : ∀ y, y ∈ n ↔ y ∈ xs ∨ y = m) : roundR n = (roundR xs || (decide (m.1 = m.2) || leadsR xs m.2 m.1)) := by
  have h1 : ∀ x y, y ∈ toL n x → y ∈ toL xs x ∨ (x = m.1 ∧ y = m.2) := fun x y h => by
    rcases (hmem _).1 ((mem_toL hn).1 h) with h | h
    · exact .inl ((mem_toL hc).2 h)
    · exact .inr (by rw [← h]; exact ⟨rfl, rfl⟩)
  have h2 : ∀ x y, y ∈ toL xs x → y ∈ toL n x := fun x y h => (mem_toL hn).2 ((hmem _).2 (.inl ((mem_toL hc).1 h)))
  rw [Bool.eq_iff_iff, Bool.or_eq_true, closes_rch, round_iff hc, round_iff hn]
  constructor
  · rintro ⟨x, y, hxy, p, hp⟩
    rcases (hmem _).1 hxy with hxy | hxy
    · rcases Rch.more h1 hp with h | ⟨h, h'⟩
      · exact .inl ⟨x, y, hxy, h⟩
      · exact .inr (h'.trans (.cons ((mem_toL hc).2 hxy) h))
    · subst hxy
      rcases Rch.more h1 hp with h | ⟨h, h'⟩
      · exact .inr h
      · exact .inr h'
  · rintro (⟨x, y, hxy, p, hp⟩ | ⟨p, hp⟩)
    · exact ⟨x, y, (hmem _).2 (.inl hxy), Rch.mono h2 hp⟩
    · exact ⟨m.1, m.2, (hmem _).2 (.inr rfl), Rch.mono h2 hp⟩
theorem ofR_short {zs : List Lk} (h : zs.length ≤ 1000) : (zs.all linkB = true ∧ ofR zs = (ofP zs, 0)) ∨ ofR zs = ([], 2) := by
  unfold ofR
  have := ofP_len zs
  by_cases h1 : zs.all linkB = true
  · rw [if_pos h1, if_pos (by omega)]; exact .inl ⟨h1, rfl⟩
  · rw [if_neg h1]; exact .inr rfl
theorem ofP_chain {zs : List Lk} (h : zs.length ≤ 1000) (ha : zs.all linkB = true) : chainB (ofP zs) = true := by
  rw [chainB_iff]
  have := ofP_len zs
  exact ⟨by omega, fun y hy => List.all_eq_true.1 ha y ((ofP_mem zs y).1 hy), ofP_up zs⟩
theorem ofR_code {zs : List Lk} (h : zs.length ≤ 1000) (h0 : (ofR zs).2 ≠ 0) : (ofR zs).2 = 2 := by
  rcases ofR_short h with ⟨_, h1⟩ | h1
  · rw [h1] at h0; exact absurd rfl h0
  · rw [h1]
theorem ring_of {xs : List Lk} {m : Lk} (hl : xs.length ≤ 900) (hc : chainB xs = true) (h0 : (ofR (xs ++ [m])).2 = 0) : roundR (ofR (xs ++ [m])).1 = (roundR xs || (decide (m.1 = m.2) || leadsR xs m.2 m.1)) := by
  have hlen : (xs ++ [m]).length ≤ 1000 := by simp; omega
  rcases ofR_short hlen with ⟨ha, h1⟩ | h1
  · rw [h1]
    exact ring_more hc (ofP_chain hlen ha) (fun y => by rw [ofP_mem]; simp)
  · rw [h1] at h0; simp at h0
theorem round_not {xs : List Lk} (h : chainB xs = false) : roundR xs = false := by unfold roundR; rw [h]; rfl
/-- Leads goes on over a third. -/
theorem leads_trans {xs : List Lk} {a b c : Int} (h1 : leadsR xs a b = true) (h2 : leadsR xs b c = true) : leadsR xs a c = true := by
  obtain ⟨v, hv, h3⟩ := leads_rch.1 h1
  obtain ⟨u, hu, h4⟩ := leads_rch.1 h2
  exact leads_rch.2 ⟨v, hv, h3.trans (.cons hu h4)⟩
theorem leads_first (xs : List Lk) (a c : Int) : leadsR xs a c = (toL xs a).any (fun v => decide (v = c) || leadsR xs v c) := by
  rw [Bool.eq_iff_iff, leads_rch, List.any_eq_true]
  constructor
  · rintro ⟨v, hv, h⟩
    exact ⟨v, hv, by rw [show decide (v = c) = decide (c = v) from decide_eq_decide.2 ⟨fun h => h.symm, fun h => h.symm⟩]; exact closes_rch.2 h⟩
  · rintro ⟨v, hv, h⟩
    exact ⟨v, hv, closes_rch.1 (by rw [show decide (c = v) = decide (v = c) from decide_eq_decide.2 ⟨fun h => h.symm, fun h => h.symm⟩]; exact h)⟩
end Go.SX
namespace Go.SX
open Go
theorem ofR_len {zs : List Lk} (h : zs.length ≤ 1000) : (ofR zs).1.length ≤ 1000 := by
  have := ofP_len zs
  rcases ofR_short h with ⟨_, h1⟩ | h1 <;> rw [h1] <;> simp <;> omega
theorem leads_right (xs : List Lk) (a z : Int) : leadsR xs a z = (chainB xs && leadsQ xs a z) := by
  rw [leadsQ_eq]
  cases h : chainB xs with
  | true => simp
  | false =>
    rw [Bool.false_and, Bool.eq_false_iff]
    intro h2
    obtain ⟨v, hv, _⟩ := leads_rch.1 h2
    unfold toL at hv
    rw [h] at hv; simp at hv
theorem third_has (xs : List Lk) (a b : Int) : (toL xs a).any (fun y => decide (b = y)) = (xs.any (fun y => decide ((a, b) = y)) && chainB xs) := by
  cases h : chainB xs with
  | false => unfold toL; rw [h]; simp
  | true =>
    rw [Bool.and_true, Bool.eq_iff_iff, List.any_eq_true, List.any_eq_true]
    constructor
    · rintro ⟨y, h1, h2⟩
      have := of_decide_eq_true h2
      subst this
      exact ⟨_, (mem_toL h).1 h1, decide_eq_true rfl⟩
    · rintro ⟨y, h1, h2⟩
      have := of_decide_eq_true h2
      subst this
      exact ⟨b, (mem_toL h).2 h1, decide_eq_true rfl⟩
theorem ofR_want {xs : List Lk} (hl : xs.length ≤ 1000) (h : (!xs.any (fun y => !linkB y)) = true) : ofR xs = (ofP xs, 0) := by
  have ha : xs.all linkB = true := by
    rw [Bool.not_eq_true', List.any_eq_false] at h
    rw [List.all_eq_true]
    intro y hy
    have := h y hy
    simpa using this
  rcases ofR_short hl with ⟨_, h1⟩ | h1
  · exact h1
  · unfold ofR at h1
    rw [if_pos ha] at h1
    have := ofP_len xs
    rw [if_pos (by omega)] at h1
    simp at h1
theorem ofR_no {xs : List Lk} (h : (!xs.any (fun y => !linkB y)) = false) : ofR xs = ([], 2) := by
  unfold ofR
  rw [if_neg]
  intro ha
  rw [Bool.not_eq_false', List.any_eq_true] at h
  obtain ⟨y, h1, h2⟩ := h
  rw [List.all_eq_true.1 ha y h1] at h2
  simp at h2
end Go.SX
