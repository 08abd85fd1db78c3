/- 'DepthOrder' answers true, whatever it is handed, and what it is handed reads behind it as it did. -/
import Derived.RangeFuncNested
import Derived.RangeFuncBound
import Derived.RangeFuncCalls
import Derived.RangeFuncLeaves
import Derived.Shelf.Abstract
import Derived.Laws.AppendOwn
import Derived.Laws.OwnMore
import Derived.KernelRfl
import Derived.IntWalk
import Derived.Laws.Append
import Derived.WideLaws
import Derived.Laws.Slices
import Derived.Laws.MakeOwn
import Derived.OrdersIn
import Derived.Laws.Cover3
import Derived.Test.YtfidlmknejooeaaGreatProg
import Derived.Sort.OwnSortedInts
import Derived.Shelf.Sort.Plain
import Derived.Laws.StructEq
import Derived.Maps.RangeRun
import Derived.Shelf.SlSortCmp.NoneTotal
import Derived.Deep.Draws
import Derived.Shelf.Slices.In.SortNone
import Derived.ProofKit
import Derived.ChangeSlices
import Derived.Carry
import Derived.Deep.Slices
import Derived.OpenShut
import Derived.Test.YtfidlmknejooeaaGreatRows
import Derived.Test.YtfidlmknejooeaaGreatKDOrder3
set_option linter.unusedVariables false
set_option linter.unusedSimpArgs false
namespace Go.SX
open Go
def Rch (to : Int → List Int) (a z : Int) : Prop := ∃ p, Wy to a z p
theorem Rch.refl (to : Int → List Int) (a : Int) : Rch to a a := ⟨_, Wy.one to a⟩
theorem Rch.cons {to : Int → List Int} {a v z : Int} (hv : v ∈ to a) (h : Rch to v z) : Rch to a z := by
  obtain ⟨p, hp⟩ := h
  exact ⟨_, hp.cons hv⟩
theorem Rch.un {to : Int → List Int} {a z : Int} (h : Rch to a z) : z = a ∨ ∃ v, v ∈ to a ∧ Rch to v z := by
  obtain ⟨p, hp⟩ := h
  rcases hp.un with ⟨_, h⟩ | ⟨v, r, _, h1, h2⟩
  · exact .inl h
  · exact .inr ⟨v, h1, _, h2⟩
theorem Rch.trans {to : Int → List Int} {a y z : Int} (h : Rch to a y) (k : Rch to y z) : Rch to a z := by
  obtain ⟨p, hp⟩ := h
  obtain ⟨q, hq⟩ := k
  rcases hq.un with ⟨rfl, rfl⟩ | ⟨v, r, rfl, h1, h2⟩
  · exact ⟨p, hp⟩
  · exact ⟨_, hp.join hq⟩
/-- A link more: what is reached is reached without it, or over it. -/
theorem Rch.more {to to' : Int → List Int} {m : Lk} (h : ∀ x y, y ∈ to' x → y ∈ to x ∨ (x = m.1 ∧ y = m.2)) : ∀ {p : List Int} {a z : Int}, Wy to' a z p → Rch to a z ∨ (Rch to a m.1 ∧ Rch to m.2 z)
  | [], a, z, hp => hp.1.elim
  | x :: p, a, z, hp => by
    rcases hp.un with ⟨e, rfl⟩ | ⟨v, r, e, hv, hr⟩
    · exact .inl (Rch.refl _ _)
    · injection e with e1 e2
      subst e1; subst e2
      have ih := Rch.more h hr
      rcases h _ _ hv with h1 | ⟨h1, h2⟩
      · rcases ih with h3 | ⟨h3, h4⟩
        · exact .inl (.cons h1 h3)
        · exact .inr ⟨.cons h1 h3, h4⟩
      · subst h1; subst h2
        rcases ih with h3 | ⟨h3, h4⟩
        · exact .inr ⟨Rch.refl _ _, h3⟩
        · exact .inr ⟨Rch.refl _ _, h4⟩
theorem Rch.mono {to to' : Int → List Int} (h : ∀ x y, y ∈ to x → y ∈ to' x) : ∀ {p : List Int} {a z : Int}, Wy to a z p → Rch to' a z
  | [], a, z, hp => hp.1.elim
  | x :: p, a, z, hp => by
    rcases hp.un with ⟨e, rfl⟩ | ⟨v, r, e, hv, hr⟩
    · exact Rch.refl _ _
    · injection e with e1 e2
      subst e1; subst e2
      exact .cons (h _ _ hv) (Rch.mono h hr)
theorem leads_rch {xs : List Lk} {a z : Int} : leadsR xs a z = true ↔ ∃ v ∈ toL xs a, Rch (toL xs) v z := leads_iff
theorem mem_toL {xs : List Lk} (hc : chainB xs = true) {x y : Int} : y ∈ toL xs x ↔ (x, y) ∈ xs := by
  unfold toL
  rw [if_pos hc]
  simp only [List.mem_map, List.mem_filter, decide_eq_true_eq]
  constructor
  · rintro ⟨l, ⟨h1, h2⟩, h3⟩
    subst h2; subst h3
    exact h1
  · intro h
    exact ⟨_, ⟨h, rfl⟩, rfl⟩
theorem round_iff {xs : List Lk} (hc : chainB xs = true) : roundR xs = true ↔ ∃ x y, (x, y) ∈ xs ∧ Rch (toL xs) y x := by
  unfold roundR
  rw [hc, Bool.true_and, List.any_eq_true]
  constructor
  · rintro ⟨y, _, h2⟩
    obtain ⟨v, hv, h3⟩ := leads_rch.1 h2
    exact ⟨y.1, v, (mem_toL hc).1 hv, h3⟩
  · rintro ⟨x, y, h1, h2⟩
    exact ⟨_, h1, leads_rch.2 ⟨y, (mem_toL hc).2 h1, h2⟩⟩
theorem closes_rch {xs : List Lk} {a z : Int} : (decide (a = z) || leadsR xs z a) = true ↔ Rch (toL xs) z a := by
  rw [Bool.or_eq_true, decide_eq_true_eq, leads_rch]
  constructor
  · rintro (rfl | ⟨v, h1, h2⟩)
    · exact Rch.refl _ _
    · exact .cons h1 h2
  · intro h
    exact h.un
/-- The stage's theorem, in plain words. -/
theorem ring_more {xs n : List Lk} {m : Lk} (hc : chainB xs = true) (hn : chainB n = true) (hmem : ∀ y, y ∈ n ↔ y ∈ xs ∨ y = m) : roundR n = (roundR xs || (decide (m.1 = m.2) || leadsR xs m.2 m.1)) := by
  have h1 : ∀ x y, y ∈ toL n x → y ∈ toL xs x ∨ (x = m.1 ∧ y = m.2) := fun x y h => by
    rcases (hmem _).1 ((mem_toL hn).1 h) with h | h
    · exact .inl ((mem_toL hc).2 h)
    · exact .inr (by rw [← h]; exact ⟨rfl, rfl⟩)
  have h2 : ∀ x y, y ∈ toL xs x → y ∈ toL n x := fun x y h => (mem_toL hn).2 ((hmem _).2 (.inl ((mem_toL hc).1 h)))
  rw [Bool.eq_iff_iff, Bool.or_eq_true, closes_rch, round_iff hc, round_iff hn]
  constructor
  · rintro ⟨x, y, hxy, p, hp⟩
    rcases (hmem _).1 hxy with hxy | hxy
    · rcases Rch.more h1 hp with h | ⟨h, h'⟩
      · exact .inl ⟨x, y, hxy, h⟩
      · exact .inr (h'.trans (.cons ((mem_toL hc).2 hxy) h))
    · subst hxy
      rcases Rch.more h1 hp with h | ⟨h, h'⟩
      · exact .inr h
      · exact .inr h'
  · rintro (⟨x, y, hxy, p, hp⟩ | ⟨p, hp⟩)
    · exact ⟨x, y, (hmem _).2 (.inl hxy), Rch.mono h2 hp⟩
    · exact ⟨m.1, m.2, (hmem _).2 (.inr rfl), Rch.mono h2 hp⟩
theorem ofP_chain {zs : List Lk} (h : zs.length ≤ 1000) (ha : zs.all linkB = true) : chainB (ofP zs) = true := by
  rw [chainB_iff]
  have := ofP_len zs
  exact ⟨by omega, fun y hy => List.all_eq_true.1 ha y ((ofP_mem zs y).1 hy), ofP_up zs⟩
end Go.SX
namespace Go.SX
open Go
end Go.SX

set_option linter.unusedVariables false
set_option linter.unusedSimpArgs false
namespace Go.SX
open Go
def Acyc (xs : List Lk) : Prop := chainB xs = true ∧ roundR xs = false
def maxL (l : List Int) : Int := l.foldl max 0
theorem maxL_snoc (l : List Int) (a : Int) : maxL (l ++ [a]) = max (maxL l) a := by unfold maxL; rw [List.foldl_append]; rfl
theorem maxL_fold : ∀ (l : List Int) (b c : Int), (∀ a ∈ l, a ≤ c) → b ≤ c → l.foldl max b ≤ c
  | [], b, c, _, h => h
  | a :: l, b, c, h, hb => maxL_fold l (max b a) c (fun x hx => h x (List.mem_cons_of_mem _ hx)) (by have := h a (List.mem_cons_self ..); omega)
theorem maxL_base : ∀ (l : List Int) (b : Int), b ≤ l.foldl max b
  | [], b => Int.le_refl _
  | a :: l, b => by have := maxL_base l (max b a); simp only [List.foldl_cons]; omega
theorem maxL_has : ∀ (l : List Int) (b : Int) {a : Int}, a ∈ l → a ≤ l.foldl max b
  | x :: l, b, a, h => by
    rcases List.mem_cons.1 h with rfl | h
    · have := maxL_base l (max b a); simp only [List.foldl_cons]; omega
    · exact maxL_has l _ h
theorem maxL_nn (l : List Int) : 0 ≤ maxL l := maxL_base l 0
theorem maxL_mem {l : List Int} {a : Int} (h : a ∈ l) : a ≤ maxL l := maxL_has l 0 h
theorem maxL_le {l : List Int} {c : Int} (h : ∀ a ∈ l, a ≤ c) (hc : 0 ≤ c) : maxL l ≤ c := maxL_fold l 0 c h hc
theorem filter_lt {α : Type} {p q : α → Bool} : ∀ {l : List α} {y : α}, (∀ x ∈ l, p x = true → q x = true) → y ∈ l → q y = true → p y = false → (l.filter p).length < (l.filter q).length
  | [], y, _, h, _, _ => by simp at h
  | x :: l, y, hpq, h, hq, hp => by
    have hle : ∀ m : List α, (∀ x ∈ m, p x = true → q x = true) → (m.filter p).length ≤ (m.filter q).length := fun m => by
      induction m with
      | nil => intro _; simp
      | cons z m ih =>
        intro hm
        have i1 := ih (fun x hx => hm x (List.mem_cons_of_mem _ hx))
        by_cases hz : p z = true
        · rw [List.filter_cons_of_pos hz, List.filter_cons_of_pos (hm z (List.mem_cons_self ..) hz)]; simp; exact i1
        · rw [List.filter_cons_of_neg hz]
          by_cases hz2 : q z = true
          · rw [List.filter_cons_of_pos hz2]; simp only [List.length_cons]; omega
          · rw [List.filter_cons_of_neg hz2]; exact i1
    have h1 := hle l (fun x hx => hpq x (List.mem_cons_of_mem _ hx))
    rcases List.mem_cons.1 h with rfl | h
    · rw [List.filter_cons_of_neg (by rw [hp]; simp), List.filter_cons_of_pos hq]; simp only [List.length_cons]; omega
    · have ih := filter_lt (fun x hx => hpq x (List.mem_cons_of_mem _ hx)) h hq hp
      by_cases hx : p x = true
      · rw [List.filter_cons_of_pos hx, List.filter_cons_of_pos (hpq x (List.mem_cons_self ..) hx)]; simp only [List.length_cons]; omega
      · rw [List.filter_cons_of_neg hx]
        by_cases hx2 : q x = true
        · rw [List.filter_cons_of_pos hx2]; simp only [List.length_cons]; omega
        · rw [List.filter_cons_of_neg hx2]; exact ih
def rankL (xs : List Lk) (n : Int) : Nat := (xs.filter (fun x => decide (x.1 = n) || leadsR xs n x.1)).length
theorem acyc_no {xs : List Lk} (h : Acyc xs) {n t : Int} (hl : (n, t) ∈ xs) : ¬ Rch (toL xs) t n := fun hr => by
  have := (round_iff h.1).2 ⟨n, t, hl, hr⟩
  rw [h.2] at this; cases this
theorem rank_lt {xs : List Lk} (h : Acyc xs) {n t : Int} (ht : t ∈ toL xs n) : rankL xs t < rankL xs n := by
  have hm := (mem_toL h.1).1 ht
  refine filter_lt (y := (n, t)) (fun x _ hx => closes_rch.2 (.cons ht (closes_rch.1 hx))) hm (closes_rch.2 (Rch.refl _ _)) ?_
  rw [Bool.eq_false_iff]
  intro hx
  exact acyc_no h hm (closes_rch.1 hx)
theorem rank_le (xs : List Lk) (n : Int) : rankL xs n ≤ xs.length := List.length_filter_le _ _
def depF (xs : List Lk) : Nat → Int → Int
  | 0, _ => 0
  | k + 1, n => maxL ((toL xs n).map (fun t => depF xs k t + 1))
def depL (xs : List Lk) (n : Int) : Int := depF xs xs.length n
theorem depF_eq {xs : List Lk} (h : Acyc xs) : ∀ (k j : Nat) (n : Int), rankL xs n ≤ k → rankL xs n ≤ j → depF xs k n = depF xs j n
  | 0, 0, n, _, _ => rfl
  | 0, j + 1, n, h1, h2 => by
    have h0 : toL xs n = [] := by
      cases e : toL xs n with
      | nil => rfl
      | cons t r => have := rank_lt h (n := n) (t := t) (by rw [e]; exact List.mem_cons_self ..); omega
    simp [depF, h0, maxL]
  | k + 1, 0, n, h1, h2 => by
    have h0 : toL xs n = [] := by
      cases e : toL xs n with
      | nil => rfl
      | cons t r => have := rank_lt h (n := n) (t := t) (by rw [e]; exact List.mem_cons_self ..); omega
    simp [depF, h0, maxL]
  | k + 1, j + 1, n, h1, h2 => by
    unfold depF
    congr 1
    refine List.map_congr_left fun t ht => ?_
    have := rank_lt h ht
    rw [depF_eq h k j t (by omega) (by omega)]
theorem dep_eq {xs : List Lk} (h : Acyc xs) (n : Int) : depL xs n = maxL ((toL xs n).map (fun t => depL xs t + 1)) := by
  have := depF_eq h xs.length (xs.length + 1) n (rank_le _ _) (by have := rank_le xs n; omega)
  unfold depL
  rw [this]; rfl
theorem depF_bd (xs : List Lk) : ∀ (k : Nat) (n : Int), 0 ≤ depF xs k n ∧ depF xs k n ≤ k
  | 0, n => by simp [depF]
  | k + 1, n => ⟨maxL_nn _, maxL_le (fun a ha => by
    obtain ⟨t, _, rfl⟩ := List.mem_map.1 ha
    have := (depF_bd xs k t).2
    omega) (by omega)⟩
theorem dep_bd (xs : List Lk) (n : Int) : 0 ≤ depL xs n ∧ depL xs n ≤ xs.length := depF_bd xs _ n
theorem dep_lt {xs : List Lk} (h : Acyc xs) {n t : Int} (ht : t ∈ toL xs n) : depL xs t < depL xs n := by
  have := maxL_mem (List.mem_map.2 ⟨t, ht, rfl⟩ : depL xs t + 1 ∈ (toL xs n).map (fun t => depL xs t + 1))
  rw [dep_eq h n]; omega
theorem dep_none {xs : List Lk} (h : Acyc xs) {n : Int} (hn : toL xs n = []) : depL xs n = 0 := by rw [dep_eq h n, hn]; rfl

/-- each once, of neighbours -/
def compactI : List Int → List Int
  | [] => []
  | [a] => [a]
  | a :: b :: r => if a = b then compactI (b :: r) else a :: compactI (b :: r)
theorem compactI_snoc : ∀ (l : List Int) (z y : Int), compactI (l ++ [z] ++ [y]) = if y = z then compactI (l ++ [z]) else compactI (l ++ [z]) ++ [y]
  | [], z, y => by
    show compactI [z, y] = _
    by_cases h : y = z
    · subst h; simp [compactI]
    · simp [compactI, h, Ne.symm h]
  | [a], z, y => by
    have ih := compactI_snoc [] z y
    simp only [List.nil_append, List.cons_append] at ih ⊢
    show compactI (a :: z :: [y]) = if y = z then compactI [a, z] else compactI [a, z] ++ [y]
    by_cases h : a = z
    · simp only [compactI, if_pos h] at ih ⊢; exact ih
    · simp only [compactI, if_neg h] at ih ⊢
      by_cases e : y = z
      · rw [if_pos e] at ih ⊢; rw [ih]
      · rw [if_neg e] at ih ⊢; rw [ih]; rfl
  | a :: b :: l, z, y => by
    have ih := compactI_snoc (b :: l) z y
    simp only [List.cons_append] at ih ⊢
    by_cases h : a = b
    · simp only [compactI, if_pos h]; exact ih
    · simp only [compactI, if_neg h]
      by_cases e : y = z
      · rw [if_pos e] at ih ⊢; rw [ih]
      · rw [if_neg e] at ih ⊢; rw [ih]; rfl
theorem compactI_take {xs : List Int} {k : Nat} {z y : Int} (hz : xs[k]? = some z) (hy : xs[k + 1]? = some y) : compactI (xs.take (k + 2)) = if y = z then compactI (xs.take (k + 1)) else compactI (xs.take (k + 1)) ++ [y] := by
  rw [take_snoc _ _ _ hy, take_snoc _ _ _ hz]
  exact compactI_snoc _ z y
theorem compactI_len : ∀ l : List Int, (compactI l).length ≤ l.length
  | [] => by simp [compactI]
  | [a] => by simp [compactI]
  | a :: b :: r => by
    have := compactI_len (b :: r)
    unfold compactI
    split
    · simp only [List.length_cons] at this ⊢; omega
    · simp only [List.length_cons] at this ⊢; omega
theorem compactI_mem : ∀ {l : List Int} {x : Int}, x ∈ compactI l ↔ x ∈ l
  | [], x => by simp [compactI]
  | [a], x => by simp [compactI]
  | a :: b :: r, x => by
    have ih := compactI_mem (l := b :: r) (x := x)
    unfold compactI
    split
    · rename_i h; subst h; rw [ih]; simp
    · rw [List.mem_cons, ih, List.mem_cons (a := x) (b := a)]
theorem compactI_up : ∀ {l : List Int}, l.Pairwise (· ≤ ·) → (compactI l).Pairwise (· < ·)
  | [], _ => by simp [compactI]
  | [a], _ => by simp [compactI]
  | a :: b :: r, h => by
    obtain ⟨h1, h2⟩ := List.pairwise_cons.1 h
    have ih := compactI_up h2
    unfold compactI
    split
    · exact ih
    · rename_i hne
      refine List.pairwise_cons.2 ⟨fun y hy => ?_, ih⟩
      have hyb := compactI_mem.1 hy
      have h3 := h1 b (List.mem_cons_self ..)
      rcases List.mem_cons.1 hyb with rfl | hyr
      · omega
      · have h4 := (List.pairwise_cons.1 h2).1 y hyr
        omega
theorem compactI_one (xs : List Int) : compactI (xs.take 1) = xs.take 1 := by
  cases xs with
  | nil => rfl
  | cons a r => rfl
theorem compactI_short {xs : List Int} (h : xs.length < 2) : compactI xs = xs := by
  match xs, h with
  | [], _ => rfl
  | [a], _ => rfl
def allL (xs : List Lk) : List Int := compactI (xs.map (·.1))
theorem all_mem {xs : List Lk} {n : Int} : n ∈ allL xs ↔ ∃ y ∈ xs, y.1 = n := by unfold allL; rw [compactI_mem, List.mem_map]
theorem all_up {xs : List Lk} (h : chainB xs = true) : (allL xs).Pairwise (· < ·) := by
  refine compactI_up (List.pairwise_map.2 ((chainB_iff.1 h).2.2.imp fun {a b} hab => ?_))
  unfold ltP at hab; omega
theorem all_len (xs : List Lk) : (allL xs).length ≤ xs.length := by have := compactI_len (xs.map (·.1)); simpa [allL] using this
theorem all_pos {xs : List Lk} (h : Acyc xs) {n : Int} (hn : n ∈ allL xs) : 0 < depL xs n := by
  obtain ⟨y, hy, rfl⟩ := all_mem.1 hn
  have h1 : y.2 ∈ toL xs y.1 := (mem_toL h.1).2 hy
  have := dep_lt h h1
  have := (dep_bd xs y.2).1
  omega
theorem all_not {xs : List Lk} (h : Acyc xs) {n : Int} (hn : n ∉ allL xs) : depL xs n = 0 := by
  refine dep_none h ?_
  cases e : toL xs n with
  | nil => rfl
  | cons t r =>
    have : t ∈ toL xs n := by rw [e]; exact List.mem_cons_self ..
    exact absurd (all_mem.2 ⟨(n, t), (mem_toL h.1).1 this, rfl⟩) hn
def ofD (xs : List Lk) : List Lk := (allL xs).map (fun n => (n, depL xs n))
theorem ofD_len (xs : List Lk) : (ofD xs).length ≤ xs.length := by unfold ofD; rw [List.length_map]; exact all_len xs
/-- Depths that may be. -/
def rightD (d : List Lk) : Bool := decide ((∀ y ∈ d, 1 ≤ y.1 ∧ y.1 ≤ 1048578 ∧ 1 ≤ y.2) ∧ d.Pairwise (fun a b => a.1 < b.1))
theorem rightD_iff {d : List Lk} : rightD d = true ↔ (∀ y ∈ d, 1 ≤ y.1 ∧ y.1 ≤ 1048578 ∧ 1 ≤ y.2) ∧ d.Pairwise (fun a b => a.1 < b.1) := by unfold rightD; simp
theorem ofD_right {xs : List Lk} (h : Acyc xs) : rightD (ofD xs) = true := by
  rw [rightD_iff]
  constructor
  · intro y hy
    obtain ⟨n, hn, rfl⟩ := List.mem_map.1 hy
    have h1 := all_pos h hn
    obtain ⟨z, hz, rfl⟩ := all_mem.1 hn
    have := (chainB_iff.1 h.1).2.1 z hz
    unfold linkB at this
    simp at this
    exact ⟨by omega, by omega, by omega⟩
  · exact List.pairwise_map.2 (all_up h.1)
theorem rightD_nil : rightD [] = true := by rw [rightD_iff]; exact ⟨fun y h => by simp at h, List.Pairwise.nil⟩
def atD (d : List Lk) (n : Int) : Int := ((d.find? (fun x => decide (x.1 = n))).map (·.2)).getD 0
theorem at_map {l : List Int} {f : Int → Int} {n : Int} : atD (l.map (fun n => (n, f n))) n = if n ∈ l then f n else 0 := by
  unfold atD
  induction l with
  | nil => simp
  | cons a l ih =>
    rw [List.map_cons]
    by_cases h : a = n
    · subst h; simp
    · rw [List.find?_cons_of_neg (by simpa using h), ih]
      by_cases h2 : n ∈ l
      · rw [if_pos h2, if_pos (List.mem_cons_of_mem _ h2)]
      · rw [if_neg h2, if_neg (by simp; exact ⟨fun e => h e.symm, h2⟩)]
theorem at_ofD {xs : List Lk} (h : Acyc xs) (n : Int) : atD (ofD xs) n = depL xs n := by
  unfold ofD
  rw [at_map]
  by_cases hn : n ∈ allL xs
  · rw [if_pos hn]
  · rw [if_neg hn, all_not h hn]
/-- Where a number stands among depths that may be. -/
def BSI (d : List Lk) (n : Int) (i : Nat) : Prop := i ≤ d.length ∧ (∀ (k : Nat) y, d[k]? = some y → (y.1 < n ↔ k < i))
theorem rise_get {d : List Lk} (h : rightD d = true) {j k : Nat} {x y : Lk} (hx : d[j]? = some x) (hy : d[k]? = some y) (hjk : j < k) : x.1 < y.1 := by
  have hp := (rightD_iff.1 h).2
  obtain ⟨h1, rfl⟩ := List.getElem?_eq_some_iff.1 hx
  obtain ⟨h2, rfl⟩ := List.getElem?_eq_some_iff.1 hy
  exact List.pairwise_iff_getElem.1 hp j k h1 h2 hjk
theorem bs_at {d : List Lk} (h : rightD d = true) {n : Int} {i : Nat} (hb : BSI d n i) : atD d n = (match d[i]? with | some y => if y.1 = n then y.2 else 0 | none => 0) := by
  have key : ∀ (d : List Lk) (i : Nat), d.Pairwise (fun a b => a.1 < b.1) → i ≤ d.length → (∀ (k : Nat) y, d[k]? = some y → (y.1 < n ↔ k < i)) → atD d n = (match d[i]? with | some y => if y.1 = n then y.2 else 0 | none => 0) := fun d => by
    induction d with
    | nil => intro i _ hi _; have : i = 0 := by simpa using hi
             subst this; rfl
    | cons x d ih =>
      intro i hp hi hk
      cases i with
      | zero =>
        have h0 := hk 0 x rfl
        have hx : ¬ x.1 < n := fun e => by have := h0.1 e; omega
        show atD (x :: d) n = if x.1 = n then x.2 else 0
        unfold atD
        by_cases e : x.1 = n
        · rw [List.find?_cons_of_pos (by simpa using e), if_pos e]; rfl
        · rw [List.find?_cons_of_neg (by simpa using e), if_neg e]
          have : d.find? (fun x => decide (x.1 = n)) = none := by
            rw [List.find?_eq_none]
            intro y hy
            have := (List.pairwise_cons.1 hp).1 y hy
            simp; omega
          rw [this]; rfl
      | succ i =>
        have h0 := (hk 0 x rfl).2 (by omega)
        have i1 := ih i (List.pairwise_cons.1 hp).2 (by simpa using hi) (fun k y hy => by have := hk (k + 1) y (by simpa using hy); omega)
        show atD (x :: d) n = (match d[i]? with | some y => if y.1 = n then y.2 else 0 | none => 0)
        rw [← i1]
        unfold atD
        rw [List.find?_cons_of_neg (by simp; omega)]
  exact key d i (rightD_iff.1 h).2 hb.1 hb.2
end Go.SX

set_option linter.unusedVariables false
set_option linter.unusedSimpArgs false
namespace Go.SX
open Go Go.Sort Go.Proofs
theorem maxL_ext {l m : List Int} (h : ∀ a, a ∈ l → a ∈ m) : maxL l ≤ maxL m := maxL_le (fun a ha => maxL_mem (h a ha)) (maxL_nn _)
/-- Who does not lead to it is as deep as it was. -/
theorem dep_same {xs ys : List Lk} (hx : Acyc xs) (hy : Acyc ys) {a : Int} (h : ∀ n, n ≠ a → ∀ t, t ∈ toL xs n ↔ t ∈ toL ys n) : ∀ (k : Nat) (n : Int), rankL xs n ≤ k → ¬ Rch (toL xs) n a → depL xs n = depL ys n := fun k => by
  induction k with
  | zero =>
    intro n hk hn
    have h0 : toL xs n = [] := by
      cases e : toL xs n with
      | nil => rfl
      | cons t r => have := rank_lt hx (n := n) (t := t) (by rw [e]; exact List.mem_cons_self ..); omega
    have hne : n ≠ a := fun e => hn (e ▸ Rch.refl _ _)
    have h1 : toL ys n = [] := by
      cases e : toL ys n with
      | nil => rfl
      | cons t r =>
        have := (h n hne t).2 (by rw [e]; exact List.mem_cons_self ..)
        rw [h0] at this; simp at this
    rw [dep_none hx h0, dep_none hy h1]
  | succ k ih =>
    intro n hk hn
    have hne : n ≠ a := fun e => hn (e ▸ Rch.refl _ _)
    have hstep : ∀ t ∈ toL xs n, depL xs t = depL ys t := fun t ht => ih t (by have := rank_lt hx ht; omega) (fun hr => hn (.cons ht hr))
    rw [dep_eq hx n, dep_eq hy n]
    apply Int.le_antisymm
    · refine maxL_ext (fun b hb => ?_)
      obtain ⟨t, ht, rfl⟩ := List.mem_map.1 hb
      exact List.mem_map.2 ⟨t, (h n hne t).1 ht, by rw [hstep t ht]⟩
    · refine maxL_ext (fun b hb => ?_)
      obtain ⟨t, ht, rfl⟩ := List.mem_map.1 hb
      have ht' := (h n hne t).2 ht
      exact List.mem_map.2 ⟨t, ht', by rw [hstep t ht']⟩
theorem back_mem {xs : List Lk} {a v : Int} : v ∈ (wavesL true xs a).flatten ↔ Rch (toL xs) v a := by
  have hW := wavesL_all true xs a
  constructor
  · intro h
    obtain ⟨w, h1, h2⟩ := List.mem_flatten.1 h
    obtain ⟨k, hk⟩ := List.mem_iff_getElem?.1 h1
    have hd : Dist (fromL xs) a v k := (hW.lv k v).1 ⟨w, hk, h2⟩
    obtain ⟨⟨p, hp, _⟩, _⟩ := hd.rev (fr := toL xs) (fun x y => (to_from y x).symm)
    exact ⟨p, hp⟩
  · rintro ⟨p, hp⟩
    obtain ⟨n, hn, _⟩ := Dist.of hp
    obtain ⟨w, h1, h2⟩ := (hW.lv n v).2 (hn.rev to_from)
    exact List.mem_flatten.2 ⟨w, List.mem_of_getElem? h1, h2⟩
/-- the links with one more -/
theorem more_mem {xs : List Lk} {m y : Lk} : y ∈ ofP (xs ++ [m]) ↔ y ∈ xs ∨ y = m := by rw [ofP_mem]; simp
theorem link_all {xs : List Lk} {m : Lk} (hc : chainB xs = true) (hm : linkB m = true) : (xs ++ [m]).all linkB = true := by
  rw [List.all_eq_true]
  intro y hy
  rcases List.mem_append.1 hy with h | h
  · exact (chainB_iff.1 hc).2.1 y h
  · rw [List.mem_singleton.1 h]; exact hm
theorem more_acyc {xs : List Lk} {m : Lk} (h : Acyc xs) (hl : xs.length ≤ 900) (hm : linkB m = true) (hn : (decide (m.1 = m.2) || leadsR xs m.2 m.1) = false) : Acyc (ofP (xs ++ [m])) := by
  have hch : chainB (ofP (xs ++ [m])) = true := ofP_chain (by simp; omega) (link_all h.1 hm)
  refine ⟨hch, ?_⟩
  rw [ring_more h.1 hch (fun y => more_mem), h.2, hn]; rfl
/-- .. with one less -/
def delL (xs : List Lk) (m : Lk) : List Lk := xs.filter (fun y => !decide (y = m))
theorem more_out {xs : List Lk} {m : Lk} (hc : chainB xs = true) (hl : xs.length ≤ 900) (hm : linkB m = true) : ∀ n, n ≠ m.1 → ∀ t, t ∈ toL (ofP (xs ++ [m])) n ↔ t ∈ toL xs n := fun n hn t => by
  have hch : chainB (ofP (xs ++ [m])) = true := ofP_chain (by simp; omega) (link_all hc hm)
  rw [mem_toL hch, mem_toL hc, more_mem]
  constructor
  · rintro (h | h)
    · exact h
    · exact absurd (by rw [← h]) hn
  · exact .inl
theorem perm_sorted {α : Type} {r : α → α → Prop} (has : ∀ a b, r a b → r b a → a = b) : ∀ {l m : List α}, l.Perm m → l.Pairwise r → m.Pairwise r → l = m
  | [], m, hp, _, _ => (hp.nil_eq).trans rfl
  | a :: l, [], hp, _, _ => absurd hp.length_eq (by simp)
  | a :: l, b :: m, hp, hl, hm => by
    have hab : a = b := by
      have h1 : a ∈ b :: m := hp.subset (List.mem_cons_self ..)
      have h2 : b ∈ a :: l := hp.symm.subset (List.mem_cons_self ..)
      rcases List.mem_cons.1 h1 with e | h1
      · exact e
      · rcases List.mem_cons.1 h2 with e | h2
        · exact e.symm
        · exact has a b ((List.pairwise_cons.1 hl).1 b h2) ((List.pairwise_cons.1 hm).1 a h1)
    subst hab
    rw [perm_sorted has (hp.cons_inv) (List.pairwise_cons.1 hl).2 (List.pairwise_cons.1 hm).2]
/-- how numbers stand -/
def leO (d : List Lk) (a b : Int) : Prop := atD d a < atD d b ∨ (atD d a = atD d b ∧ a ≤ b)
theorem leO_anti (d : List Lk) (a b : Int) (h : leO d a b) (k : leO d b a) : a = b := by unfold leO at *; omega
theorem leO_trans {d : List Lk} {a b c : Int} (h : leO d a b) (k : leO d b c) : leO d a c := by unfold leO at *; omega
instance (d : List Lk) (a b : Int) : Decidable (leO d a b) := by unfold leO; infer_instance
/-- the reference: each put behind all that stand not behind it, from the front -/
def insO (d : List Lk) (out : List Int) (n : Int) : List Int := out.takeWhile (fun y => decide (leO d y n)) ++ [n] ++ out.dropWhile (fun y => decide (leO d y n))
def refO (d : List Lk) (l : List Int) : List Int := l.foldl (insO d) []
theorem insO_perm (d : List Lk) (out : List Int) (n : Int) : (insO d out n).Perm (n :: out) := by
  unfold insO
  have h := List.takeWhile_append_dropWhile (p := fun y => decide (leO d y n)) (l := out)
  rw [List.append_assoc]
  refine List.perm_middle.trans ?_
  show (n :: (out.takeWhile (fun y => decide (leO d y n)) ++ out.dropWhile (fun y => decide (leO d y n)))).Perm (n :: out)
  rw [h]
theorem insO_sorted {d : List Lk} {out : List Int} (n : Int) (h : out.Pairwise (leO d)) : (insO d out n).Pairwise (leO d) := by
  unfold insO
  induction out with
  | nil => simp
  | cons a out ih =>
    obtain ⟨h1, h2⟩ := List.pairwise_cons.1 h
    by_cases ha : leO d a n
    · rw [List.takeWhile_cons_of_pos (by simpa using ha), List.dropWhile_cons_of_pos (by simpa using ha)]
      refine List.pairwise_cons.2 ⟨fun y hy => ?_, ih h2⟩
      have hp := insO_perm d out n
      unfold insO at hp
      rcases List.mem_cons.1 (hp.subset hy) with rfl | hy
      · exact ha
      · exact h1 y hy
    · rw [List.takeWhile_cons_of_neg (by simpa using ha), List.dropWhile_cons_of_neg (by simpa using ha)]
      have hna : leO d n a := by unfold leO at *; omega
      refine List.pairwise_cons.2 ⟨fun y hy => ?_, h⟩
      rcases List.mem_cons.1 hy with rfl | hy
      · exact hna
      · exact leO_trans hna (h1 y hy)
theorem refO_go (d : List Lk) : ∀ (l out : List Int), out.Pairwise (leO d) → (l.foldl (insO d) out).Pairwise (leO d) ∧ (l.foldl (insO d) out).Perm (l ++ out)
  | [], out, h => ⟨h, List.Perm.refl _⟩
  | a :: l, out, h => by
    have ih := refO_go d l (insO d out a) (insO_sorted a h)
    refine ⟨ih.1, ih.2.trans ?_⟩
    refine ((insO_perm d out a).append_left l).trans ?_
    exact List.perm_middle
theorem refO_sorted (d : List Lk) (l : List Int) : (refO d l).Pairwise (leO d) := (refO_go d l [] List.Pairwise.nil).1
theorem refO_perm (d : List Lk) (l : List Int) : (refO d l).Perm l := by have := (refO_go d l [] List.Pairwise.nil).2; rwa [List.append_nil] at this
theorem orderO_eq {d : List Lk} {l out : List Int} (hp : out.Perm l) (hs : out.Pairwise (leO d)) : out = refO d l := perm_sorted (leO_anti d) (hp.trans (refO_perm d l).symm) hs (refO_sorted d l)
end Go.SX
namespace Go.SX
open Go
theorem refO_len (d : List Lk) (l : List Int) : (refO d l).length = l.length := (refO_perm d l).length_eq
/-- the indexes from which the first k links lead -/
def allK (xs : List Lk) (k : Nat) : List Int := compactI ((xs.take k).map (·.1))
/-- the greatest depth behind the first k links of one -/
def mostL (xs : List Lk) (n : Int) (k : Nat) : Int := maxL (((xs.take k).filter (fun y => decide (y.1 = n))).map (fun y => depL xs y.2 + 1))
/-- what is known of depths: a map whose entries are right -/
def KOK (xs : List Lk) (m : MapL) : Prop := ∀ k v, mget m k = some v → v = .int .i64 (depL xs k)
theorem KOK.nil (xs : List Lk) : KOK xs [] := fun k v h => by simp [mget] at h
theorem KOK.put {xs : List Lk} {m : MapL} (h : KOK xs m) {k d : Int} (hd : d = depL xs k) : KOK xs (mput m k (.int .i64 d)) := fun j v hj => by
  rw [mget_mput] at hj
  by_cases e : j = k
  · rw [if_pos e] at hj; injection hj with hj; rw [← hj, hd, e]
  · rw [if_neg e] at hj; exact h j v hj
def KLe (m m' : MapL) : Prop := ∀ k, mget m k ≠ none → mget m' k ≠ none
theorem KLe.refl (m : MapL) : KLe m m := fun k h => h
theorem KLe.trans {a b c : MapL} (h : KLe a b) (k : KLe b c) : KLe a c := fun j hj => k j (h j hj)
theorem KLe.put (m : MapL) (k : Int) (v : Value) : KLe m (mput m k v) := fun j hj => by
  rw [mget_mput]; split
  · simp
  · exact hj
theorem mput_at (m : MapL) (k : Int) (v : Value) : mget (mput m k v) k ≠ none := by rw [mget_mput, if_pos rfl]; simp
theorem KOK.is {xs : List Lk} {m : MapL} (h : KOK xs m) {k : Int} (hk : mget m k ≠ none) {z : Value} : (mget m k).getD z = .int .i64 (depL xs k) := by
  cases e : mget m k with
  | none => exact absurd e hk
  | some v => exact h k v e
end Go.SX
namespace Go.SX
open Go
def ofDR (xs : List Lk) : List Lk × Int := if chainB xs then (if roundR xs then ([], 270) else (ofD xs, 0)) else ([], 260)
theorem ofDR_a {xs : List Lk} (h : chainB xs = false) : ofDR xs = ([], 260) := by unfold ofDR; rw [h]; rfl
theorem ofDR_b {xs : List Lk} (h : chainB xs = true) (h2 : roundR xs = true) : ofDR xs = ([], 270) := by unfold ofDR; rw [h, h2]; rfl
theorem ofDR_c {xs : List Lk} (h : Acyc xs) : ofDR xs = (ofD xs, 0) := by unfold ofDR; rw [h.1, h.2]; rfl
end Go.SX

set_option linter.unusedVariables false
set_option linter.unusedSimpArgs false
namespace Go.SX
open Go
attribute [local semireducible] T TL
theorem St.ctx {w0 : World} {H0 H : Heap} {A B L : Chunk} {w : World} (h : St ⟨w0, H0, A⟩ H L w) (hp : A.Perm B) : St ⟨w0, H0, B⟩ H L w := by
  have hk : ∀ b, b ∈ keys A ↔ b ∈ keys B := fun b => (hp.map Prod.fst).mem_iff
  exact ⟨h.sat, ⟨h.chg.os, h.chg.tape, h.chg.output, h.chg.size, fun b h1 h2 => h.chg.same b h1 (fun q => h2 ((hk b).1 q)), h.chg.drawn⟩, h.le,
    fun b o h1 h2 => (h.hn b o h1 h2).imp (hk b).1 id, fun b hb => (h.ln b hb).imp (hk b).1 id⟩
theorem Fc.perm {P : Program} {fv : Value} {vs : List Value} {H : Heap} {L1 L2 : Own} {post : Value → Heap → Own → Prop} (h : Fc P fv vs H L1 post) (hp : L1.flatten.Perm L2.flatten) : Fc P fv vs H L2 post :=
  fun w hs => (h w (hs.perm hp.symm)).mono fun _ _ ⟨v, H', L', h1, h2, h3⟩ => ⟨v, H', L', h1, h2.ctx hp, h3⟩
theorem Fc.cut {P : Program} {fv : Value} {vs : List Value} {H : Heap} {L : Own} {p q : Value → Heap → Own → Prop} (h : Fc P fv vs H L p) (hq : ∀ v H' L', HLe H H' → p v H' L' → ∃ L2, List.Sublist (L2 : Own).flatten L'.flatten ∧ q v H' L2) : Fc P fv vs H L q :=
  fun w hs => (h w hs).mono fun _ _ ⟨v, H', L', h1, h2, h3⟩ => by
    obtain ⟨L2, h4, h5⟩ := hq v H' L' h2.le h3
    exact ⟨v, H', L2, h1, h2.sub h4, h5⟩
theorem Fc.permR {P : Program} {fv : Value} {vs : List Value} {H : Heap} {L : Own} {p q : Value → Heap → Own → Prop} (h : Fc P fv vs H L p) (hq : ∀ v H' L', HLe H H' → p v H' L' → ∃ L2, L'.flatten.Perm (L2 : Own).flatten ∧ q v H' L2) : Fc P fv vs H L q :=
  fun w hs => (h w hs).mono fun _ _ ⟨v, H', L', h1, h2, h3⟩ => by
    obtain ⟨L2, h4, h5⟩ := hq v H' L' h2.le h3
    exact ⟨v, H', L2, h1, h2.perm h4, h5⟩
theorem perm_two {a b : Chunk} {L : Own} : (a :: b :: L : Own).flatten.Perm (b :: a :: L : Own).flatten := by
  simp only [List.flatten_cons]
  rw [← List.append_assoc, ← List.append_assoc]
  exact List.perm_append_comm.append_right _

/-- v, called with a loop's yield, hands over the members of xs in their order, until it is told to stop; a chunk that is its caller's goes to and fro. -/
def IterR {α : Type} (P : Program) (v : Value) (Y : Heap → List Value → α → Prop) (RS : List α → Heap → Chunk → Prop) (H0 : Heap) (xs : List α) : Prop :=
  ∀ (l : Nat) (J Jx : List α → Heap → Own → Prop) (H : Heap) (c : Chunk) (Lc : Own), HLe H0 H →
    (∀ pre H H' L, HLe H H' → J pre H L → J pre H' L) → (∀ pre H H' L, HLe H H' → Jx pre H L → Jx pre H' L) →
    (∀ pre y vs H2 c L, HLe H H2 → (pre ++ [y]) <+: xs → J pre H2 L → RS (pre ++ [y]) H2 c → Y H2 vs y →
      Fc P (yieldv l) vs H2 (c :: L) (fun v H' L' => (v = .bool true ∧ ∃ c' L2, L' = c' :: L2 ∧ RS (pre ++ [y]) H' c' ∧ J (pre ++ [y]) H' L2) ∨ (v = .bool false ∧ ∃ c' L2, L' = c' :: L2 ∧ RS (pre ++ [y]) H' c' ∧ Jx (pre ++ [y]) H' L2))) →
    RS [] H c → J [] H Lc →
    Fc P v [yieldv l] H (c :: Lc) (fun _ H' L' => (∃ c' L2, L' = c' :: L2 ∧ RS xs H' c' ∧ J xs H' L2) ∨ ∃ pre y, (pre ++ [y]) <+: xs ∧ ∃ c' L2, L' = c' :: L2 ∧ RS (pre ++ [y]) H' c' ∧ Jx (pre ++ [y]) H' L2)
theorem IterR.mono {α : Type} {P : Program} {v : Value} {Y : Heap → List Value → α → Prop} {RS : List α → Heap → Chunk → Prop} {H H' : Heap} {xs : List α} (h : IterR P v Y RS H xs) (hl : HLe H H') : IterR P v Y RS H' xs :=
  fun l J Jx H1 c Lc h1 h2 h3 h4 h5 h6 => h l J Jx H1 c Lc (hl.trans h1) h2 h3 h4 h5 h6

section
variable {α : Type} {P : Program} {N : Nat} {Q : Post} {σ : Env} {H : Heap} {L : Own} {ds : List Nat} {x : Cx}

/-- 'for .. := range g { .. }', in a function's own frame: what stands ahead of a round (Ib) and behind it (I) may differ. -/
theorem T.rangeFuncG {G : Operand} {ps : List Nat} {ag body : Code} {v : Value} {gf : Nat} {lb : Array Value} {Y : Heap → List Value → α → Prop} {xs : List α} (hg : ev σ G = v) (hv : v = .func (.func gf) #[] lb) (hen : Go.Proofs.Enters P gf)
    (hYl : ∀ H vs y, Y H vs y → vs.length = ps.length) (hps : ps.all (fun q => Nat.blt q N) = true)
    (Ib : List α → α → Heap → Own → Prop) (I : List α → Heap → Own → Prop) (Ix : Code → List α → Heap → Own → Prop)
    (hit : ∀ (l : Nat) (ca : Chunk) (cx : Code → Chunk),
      (∀ pre y vs H2 L1, HLe H H2 → (pre ++ [y]) <+: xs → Ib pre y H2 L1 → Y H2 vs y → Fc P (yieldv l) vs H2 (ca :: L1) (fun v H' L' => (v = .bool true ∧ ∃ L2, L' = ca :: L2 ∧ I (pre ++ [y]) H' L2) ∨ (v = .bool false ∧ ∃ c L2, L' = cx c :: L2 ∧ Ix c (pre ++ [y]) H' L2))) →
      Fc P v [yieldv l] H (ca :: L) (fun _ H' L' => (∃ L2, L' = ca :: L2 ∧ I xs H' L2) ∨ ∃ pre y, (pre ++ [y]) <+: xs ∧ ∃ c L2, L' = cx c :: L2 ∧ Ix c (pre ++ [y]) H' L2))
    (hbody : ∀ l r w1 pre y vs H1 L1, HLe H H1 → (pre ++ [y]) <+: xs → Ib pre y H1 L1 → Y H1 vs y →
      T ⟨P, N, some (l, r)⟩ w1 ag (onlyN (fun σ2 H2 L2 => T ⟨P, N, some (l, { r with state := .busy })⟩ w1 body (rndPost I Ix (pre ++ [y])) σ2 H2 L2 [])) (setps σ ps vs) H1 L1 [])
    (hdone : ∀ D H1 L1, HLe H H1 → I xs H1 L1 → Q .normal σ H1 L1 (D :: ds))
    (hstop : ∀ D c pre y H1 L1, HLe H H1 → (pre ++ [y]) <+: xs → Ix c (pre ++ [y]) H1 L1 → T ⟨P, N, none⟩ x c Q σ H1 L1 (D :: ds)) :
    T ⟨P, N, none⟩ x (.rangeFunc G ps.toArray ag body) Q σ H L ds := by
  intro a w hs hd hst
  refine wpIn_rangeFunc ?_
  intro fn _
  obtain ⟨r0, hr0⟩ : ∃ r0 : Loop, r0 = { state := .ready, pending := none, fn, tmps := a.tmps, params := ps.toArray, assign := ag, body, defers := w.heap.size } := ⟨_, rfl⟩
  have hst1 := (hst.alloc (.deferred (some []))).alloc (.loop r0)
  rw [World.size_alloc] at hst1
  generalize hw1 : (w.alloc (.deferred (some []))).alloc (.loop r0) = w1 at hst1
  have hl : r0.defers = w.heap.size := by rw [hr0]
  -- the iterator's call
  have hcall := hit (w.heap.size + 1) (rc (w.heap.size + 1) r0) (fun c => rc (w.heap.size + 1) { r0 with state := .done, pending := some c })
    (fun pre y vs H2 L1 hle hpre h2 hY => by
      refine (yield_Fc (ps := ps) (σ := σ) (N := N) (I := I) (Ix := Ix) (pre := pre) (y := y) (by rw [hr0]) (by rw [hr0]) (hYl _ _ _ hY) (by rw [hr0]; exact hs) hps (fun w1 => ?_)).mono ?_
      · rw [hr0]; exact hbody _ _ w1 pre y vs H2 L1 hle hpre h2 hY
      · rintro v H' L' _ (⟨h3, L2, h4, h5⟩ | ⟨h3, c, L2, h4, h5⟩)
        · refine .inl ⟨h3, L2, ?_, h5⟩
          rw [h4, hr0]
        · exact .inr ⟨h3, c, L2, h4, h5⟩)
  have hsatc : Sat H (rc (w.heap.size + 1) r0 :: L : Own).flatten w1 := by
    refine (hst1.sat.sub (L' := (w.heap.size + 1, .loop r0) :: (w.heap.size, .deferred (some [])) :: L.flatten) ?_).perm ?_
    · exact List.Sublist.cons_cons _ (List.Sublist.cons_cons _ (List.sublist_append_left _ _))
    · simp only [List.flatten_cons, rc, hl]; exact List.Perm.refl _
  obtain ⟨nx, w2, hrun, hnx⟩ := hcall w1 hsatc
  have hst1' : St x H ((rc (w.heap.size + 1) r0 :: L : Own).flatten ++ hid none ds) w1 := by
    refine hst1.perm ?_
    simp only [List.flatten_cons, rc, hl, List.cons_append, List.nil_append]
    exact List.Perm.refl _
  have hev : (ev σ G) = a.eval G := by rw [hs.eval]
  subst hv
  have hd1 : (Deferred.ofValue (.func (.func gf) #[] lb) #[yieldv (w.heap.size + 1)]).run P w1 = .ok { target := .fn (.func gf) lb, args := #[yieldv (w.heap.size + 1)] } w1 := by simp [Deferred.ofValue]
  have hd2 : (invoke (.fn (.func gf) lb) #[yieldv (w.heap.size + 1)]).run P w1 = .ok (.enter gf (#[yieldv (w.heap.size + 1)] ++ lb)) w1 := by
    simp only [invoke]; exact hen _ _
  have hnx2 : nx = .enter gf (#[yieldv (w.heap.size + 1)] ++ lb) ∧ w2 = w1 := by
    have h1 : Sem.run P (do let d ← Deferred.ofValue (.func (.func gf) #[] lb) [yieldv (w.heap.size + 1)].toArray; invoke d.target d.args) w1 = .ok (.enter gf (#[yieldv (w.heap.size + 1)] ++ lb)) w1 := by
      rw [Sem.run_bind, hd1]; exact hd2
    rw [h1] at hrun
    injection hrun with h2 h3
    exact ⟨h2.symm, h3.symm⟩
  obtain ⟨rfl, rfl⟩ := hnx2
  refine ⟨w.heap.size + 1, [mk w.heap.size], w2, { target := .fn (.func gf) lb, args := #[yieldv (w.heap.size + 1)] }, w2, gf, #[yieldv (w.heap.size + 1)] ++ lb, w2, ?_, ?_, fun f' _ => trivial, hd2, (fun h => by cases h), ?_⟩
  · rw [← hw1, hr0]; exact run_enterLoop_outer fn a.tmps ps.toArray ag body
  · simp only [resolve]
    rw [← hev, hg]
    simpa [Act.eval] using hd1
  · refine CallsIn.mono (calls_fence hnx) ?_
    rintro e w3 ⟨v3, H3, L3, rfl, hst3, hpost⟩
    have hj := hst1'.join hst3
    rcases hpost with ⟨L1, rfl, hI1⟩ | ⟨pre, y, hpre, c, L1, rfl, hI1⟩
    · have h4 : St x H3 ((w.heap.size + 1, .loop r0) :: ((w.heap.size, .deferred (some [])) :: (L1.flatten ++ hid none ds))) w3 := by
        have := hj; simpa [rc, hl] using this
      have hl3 := h4.sat.l _ (List.mem_cons_self ..)
      refine ⟨none, _, by have := run_endLoop (P := P) hl3 (by rw [hr0]; simp); rw [hr0] at this; exact this, ?_⟩
      have h5 := h4.turn (w' := w3.putObj (w.heap.size + 1) (.loop { r0 with state := .exhausted })) (o' := .loop { r0 with state := .exhausted }) rfl rfl rfl (by simp [World.putObj]) (World.putObj_heap_same (heap_lt hl3)) (fun c hc => World.putObj_heap_other (by first | exact hc | exact fun e => hc e.symm))
      refine lift_intro (ds := w.heap.size :: ds) hs (by simp [hd]) ?_ (hdone _ H3 L1 hst3.le hI1)
      have h6 := (h5.sub (List.sublist_cons_self _ _)).perm (L' := L1.flatten ++ hid none (w.heap.size :: ds)) (by
        simp only [hid, List.map_cons, List.nil_append]
        exact List.perm_middle.symm)
      rw [hr0] at h6
      exact h6
    · have h4 : St x H3 ((w.heap.size + 1, .loop { r0 with state := .done, pending := some c }) :: ((w.heap.size, .deferred (some [])) :: (L1.flatten ++ hid none ds))) w3 := by
        have := hj; simpa [rc, hl] using this
      have hl3 := h4.sat.l _ (List.mem_cons_self ..)
      refine ⟨some c, _, by have := run_endLoop (P := P) hl3 (by simp); exact this, ?_⟩
      have h5 := h4.turn (w' := w3.putObj (w.heap.size + 1) (.loop { { r0 with state := .done, pending := some c } with state := .exhausted })) (o' := .loop { { r0 with state := .done, pending := some c } with state := .exhausted }) rfl rfl rfl (by simp [World.putObj]) (World.putObj_heap_same (heap_lt hl3)) (fun c hc => World.putObj_heap_other (by first | exact hc | exact fun e => hc e.symm))
      refine hstop w.heap.size c pre y H3 L1 hst3.le hpre hI1 _ _ hs (by simp [hd]) ?_
      exact (h5.sub (List.sublist_cons_self _ _)).perm (L' := L1.flatten ++ hid none (w.heap.size :: ds)) (by
        simp only [hid, List.map_cons, List.nil_append]
        exact List.perm_middle.symm)

/-- .. over an iterator that turns a chunk. -/
theorem T.rangeFuncR {G : Operand} {ps : List Nat} {ag body : Code} {v : Value} {gf : Nat} {lb : Array Value} {Y : Heap → List Value → α → Prop} {RS : List α → Heap → Chunk → Prop} {xs : List α} {c : Chunk} (hg : ev σ G = v) (hv : v = .func (.func gf) #[] lb) (hen : Go.Proofs.Enters P gf) (hit : IterR P v Y RS H xs)
    (hYl : ∀ H vs y, Y H vs y → vs.length = ps.length) (hps : ps.all (fun q => Nat.blt q N) = true)
    (I : List α → Heap → Own → Prop) (Ix : Code → List α → Heap → Own → Prop) (hI : ∀ pre H H' L, HLe H H' → I pre H L → I pre H' L) (hIx : ∀ c pre H H' L, HLe H H' → Ix c pre H L → Ix c pre H' L)
    (hr : RS [] H c) (h0 : I [] H L)
    (hbody : ∀ l r w1 pre y vs H1 c1 L1, HLe H H1 → (pre ++ [y]) <+: xs → I pre H1 L1 → RS (pre ++ [y]) H1 c1 → Y H1 vs y →
      T ⟨P, N, some (l, r)⟩ w1 ag (onlyN (fun σ2 H2 L2 => T ⟨P, N, some (l, { r with state := .busy })⟩ w1 body (rndPost (fun xs H L => ∃ c L1, L = c :: L1 ∧ RS xs H c ∧ I xs H L1) (fun cd xs H L => ∃ c L1, L = c :: L1 ∧ RS xs H c ∧ Ix cd xs H L1) (pre ++ [y])) σ2 H2 L2 [])) (setps σ ps vs) H1 (c1 :: L1) [])
    (hdone : ∀ D H1 c1 L1, HLe H H1 → RS xs H1 c1 → I xs H1 L1 → Q .normal σ H1 (c1 :: L1) (D :: ds))
    (hstop : ∀ D cd pre y H1 c1 L1, HLe H H1 → (pre ++ [y]) <+: xs → RS (pre ++ [y]) H1 c1 → Ix cd (pre ++ [y]) H1 L1 → T ⟨P, N, none⟩ x cd Q σ H1 (c1 :: L1) (D :: ds)) :
    T ⟨P, N, none⟩ x (.rangeFunc G ps.toArray ag body) Q σ H (c :: L) ds := by
  refine T.rangeFuncG (xs := xs) hg hv hen hYl hps (fun pre y H L => ∃ c L1, L = c :: L1 ∧ I pre H L1 ∧ RS (pre ++ [y]) H c) (fun xs H L => ∃ c L1, L = c :: L1 ∧ RS xs H c ∧ I xs H L1) (fun cd xs H L => ∃ c L1, L = c :: L1 ∧ RS xs H c ∧ Ix cd xs H L1) ?_ ?_ ?_ ?_
  · intro l ca cx hy
    have h1 := hit l (fun pre H' L' => ∃ L1, L' = ca :: L1 ∧ I pre H' L1) (fun pre H' L' => ∃ cd L1, L' = cx cd :: L1 ∧ Ix cd pre H' L1) H c (ca :: L) (HLe.refl _)
      (fun pre H H' L hle ⟨L1, h1, h2⟩ => ⟨L1, h1, hI pre H H' L1 hle h2⟩) (fun pre H H' L hle ⟨cd, L1, h1, h2⟩ => ⟨cd, L1, h1, hIx cd pre H H' L1 hle h2⟩)
      (fun pre y vs H2 c2 L2 hle hpre ⟨L1, e1, hi⟩ hrs hY => by
        subst e1
        refine ((hy pre y vs H2 (c2 :: L1) hle hpre ⟨c2, L1, rfl, hi, hrs⟩ hY).perm perm_two).permR ?_
        rintro v' H' L' _ (⟨h3, L3, rfl, c3, L4, rfl, h4, h5⟩ | ⟨h3, cd, L3, rfl, c3, L4, rfl, h4, h5⟩)
        · exact ⟨c3 :: ca :: L4, perm_two, .inl ⟨h3, c3, ca :: L4, rfl, h4, L4, rfl, h5⟩⟩
        · exact ⟨c3 :: cx cd :: L4, perm_two, .inr ⟨h3, c3, cx cd :: L4, rfl, h4, cd, L4, rfl, h5⟩⟩)
      hr ⟨L, rfl, h0⟩
    refine (h1.perm perm_two).permR ?_
    rintro v' H' L' _ (⟨c3, L3, rfl, h4, L4, rfl, h5⟩ | ⟨pre, y, hpre, c3, L3, rfl, h4, cd, L4, rfl, h5⟩)
    · exact ⟨ca :: c3 :: L4, perm_two, .inl ⟨c3 :: L4, rfl, c3, L4, rfl, h4, h5⟩⟩
    · exact ⟨cx cd :: c3 :: L4, perm_two, .inr ⟨pre, y, hpre, cd, c3 :: L4, rfl, c3, L4, rfl, h4, h5⟩⟩
  · rintro l r w1 pre y vs H1 L1 hle hpre ⟨c1, L2, rfl, hi, hrs⟩ hY
    exact hbody l r w1 pre y vs H1 c1 L2 hle hpre hi hrs hY
  · rintro D H1 L1 hle ⟨c1, L2, rfl, hrs, hi⟩
    exact hdone D H1 c1 L2 hle hrs hi
  · rintro D cd pre y H1 L1 hle hpre ⟨c1, L2, rfl, hrs, hi⟩
    exact hstop D cd pre y H1 c1 L2 hle hpre hrs hi
end
end Go.SX
namespace Go.SX
open Go
attribute [local semireducible] T TL
theorem run_lookupOk_is {P : Program} {w : World} {t kt et : TypeId} {ik : IntKind} {es : Array MapEntry} {clock b : Nat} {m : MapL} {k : Int} {z : Value} (hm : P.underlying t = some (.map kt et)) (hk : P.underlying kt = some (.int ik)) (hz : ∀ w, (zeroValue et).run P w = .ok z w) (hb : w.heap[b]? = some (.map es clock)) (hi : MapIs ik es m) :
    (Instr.lookup t (.map (some b)) (.int ik k) true).run P w = .ok (.tuple #[(mget m k).getD z, .bool (mget m k).isSome]) w := by
  have hf := run_findKey_is (P := P) (w := w) (k := k) hk hi
  rcases mget_idx m k with ⟨h1, h2⟩ | ⟨j, v, h1, h2, _⟩
  · rw [h1] at hf
    simp [Instr.lookup, run_underlying hm, run_getObj_map (w := w) b es clock hb, run_checkKey_int hk, hf, hz, h2]
  · rw [h1, h2] at hf
    simp only [Option.bind_some, Option.map_some] at hf
    simp [Instr.lookup, run_underlying hm, run_getObj_map (w := w) b es clock hb, run_checkKey_int hk, hf, hz, h2]
section
variable {fr : Fr} {x : Cx} {Q : Post} {σ : Env} {H : Heap} {L : Own} {ds : List Nat} {ol rest : List Oper}
variable {d : Nat} {ty : TypeId} {p : String} {af : Array Edge} {g : Option (Nat × Bool)}
/-- v, is := m[k] of a map of one's own. -/
theorem R.lkok {t kt et : TypeId} {M K : Operand} {b clock : Nat} {es : Array MapEntry} {m : MapL} {ik : IntKind} {k : Int} {z : Value} (hm : fr.P.underlying t = some (.map kt et)) (hk : fr.P.underlying kt = some (.int ik)) (hz : ∀ w, (zeroValue et).run fr.P w = .ok z w)
    (hw : wan fr.N ol σ d g = true) (hM : ev σ M = .map (some b)) (hK : ev σ K = .int ik k) (hin : In L [(b, .map es clock)]) (hi : MapIs ik es m)
    (h : TL fr x ol rest Q (upd σ d (.tuple #[(mget m k).getD z, .bool (mget m k).isSome])) H L ds) : TL fr x ol (⟨some d, .lookup t M K true, ty, p, af, g⟩ :: rest) Q σ H L ds :=
  TL.value hw rfl (fun w hst => by
    have hb := hst.sat.l (b, .map es clock) (List.mem_append_left _ (hin.mem (List.mem_singleton.2 rfl)))
    have hr := run_lookupOk_is (P := fr.P) (w := w) (k := k) hm hk hz hb hi
    exact ⟨_, w, H, L, by simp [execOp, hM, hK, hr], hst, h⟩)
end
end Go.SX
