/- 'DepthRises' answers true, whatever it is handed, and what it is handed reads behind it as it did. -/
import Derived.RangeFuncNested
import Derived.RangeFuncBound
import Derived.RangeFuncCalls
import Derived.RangeFuncLeaves
import Derived.Shelf.Abstract
import Derived.Laws.AppendOwn
import Derived.Laws.OwnMore
import Derived.KernelRfl
import Derived.IntWalk
import Derived.Laws.Append
import Derived.WideLaws
import Derived.Laws.Slices
import Derived.Laws.MakeOwn
import Derived.OrdersIn
import Derived.Laws.Cover3
import Derived.Test.YtfidlmknejooeaaGreatProg
import Derived.Sort.OwnSortedInts
import Derived.Shelf.Sort.Plain
import Derived.Laws.StructEq
import Derived.Maps.RangeRun
import Derived.Shelf.SlSortCmp.NoneTotal
import Derived.Deep.Draws
import Derived.Shelf.Slices.In.SortNone
import Derived.ProofKit
import Derived.ChangeSlices
import Derived.Carry
import Derived.Deep.Slices
import Derived.OpenShut
import Derived.Test.YtfidlmknejooeaaGreatRows
import Derived.Test.YtfidlmknejooeaaGreatKDRises3
set_option linter.unusedVariables false
set_option linter.unusedSimpArgs false
namespace Go.SX
open Go
def Rch (to : Int → List Int) (a z : Int) : Prop := ∃ p, Wy to a z p
theorem Rch.refl (to : Int → List Int) (a : Int) : Rch to a a := ⟨_, Wy.one to a⟩
theorem Rch.cons {to : Int → List Int} {a v z : Int} (hv : v ∈ to a) (h : Rch to v z) : Rch to a z := by
  obtain ⟨p, hp⟩ := h
  exact ⟨_, hp.cons hv⟩
theorem Rch.un {to : Int → List Int} {a z : Int} (h : Rch to a z) : z = a ∨ ∃ v, v ∈ to a ∧ Rch to v z := by
  obtain ⟨p, hp⟩ := h
  rcases hp.un with ⟨_, h⟩ | ⟨v, r, _, h1, h2⟩
  · exact .inl h
  · exact .inr ⟨v, h1, _, h2⟩
theorem Rch.trans {to : Int → List Int} {a y z : Int} (h : Rch to a y) (k : Rch to y z) : Rch to a z := by
  obtain ⟨p, hp⟩ := h
  obtain ⟨q, hq⟩ := k
  rcases hq.un with ⟨rfl, rfl⟩ | ⟨v, r, rfl, h1, h2⟩
  · exact ⟨p, hp⟩
  · exact ⟨_, hp.join hq⟩
/-- A link more: what is reached is reached without it, or over it. -/
theorem Rch.more {to to' : Int → List Int} {m : Lk} (h : ∀ x y, y ∈ to' x → y ∈ to x ∨ (x = m.1 ∧ y = m.2)) : ∀ {p : List Int} {a z : Int}, Wy to' a z p → Rch to a z ∨ (Rch to a m.1 ∧ Rch to m.2 z)
  | [], a, z, hp => hp.1.elim
  | x :: p, a, z, hp => by
    rcases hp.un with ⟨e, rfl⟩ | ⟨v, r, e, hv, hr⟩
    · exact .inl (Rch.refl _ _)
    · injection e with e1 e2
      subst e1; subst e2
      have ih := Rch.more h hr
      rcases h _ _ hv with h1 | ⟨h1, h2⟩
      · rcases ih with h3 | ⟨h3, h4⟩
        · exact .inl (.cons h1 h3)
        · exact .inr ⟨.cons h1 h3, h4⟩
      · subst h1; subst h2
        rcases ih with h3 | ⟨h3, h4⟩
        · exact .inr ⟨Rch.refl _ _, h3⟩
        · exact .inr ⟨Rch.refl _ _, h4⟩
theorem Rch.mono {to to' : Int → List Int} (h : ∀ x y, y ∈ to x → y ∈ to' x) : ∀ {p : List Int} {a z : Int}, Wy to a z p → Rch to' a z
  | [], a, z, hp => hp.1.elim
  | x :: p, a, z, hp => by
    rcases hp.un with ⟨e, rfl⟩ | ⟨v, r, e, hv, hr⟩
    · exact Rch.refl _ _
    · injection e with e1 e2
      subst e1; subst e2
      exact .cons (h _ _ hv) (Rch.mono h hr)
theorem leads_rch {xs : List Lk} {a z : Int} : leadsR xs a z = true ↔ ∃ v ∈ toL xs a, Rch (toL xs) v z := leads_iff
theorem mem_toL {xs : List Lk} (hc : chainB xs = true) {x y : Int} : y ∈ toL xs x ↔ (x, y) ∈ xs := by
  unfold toL
  rw [if_pos hc]
  simp only [List.mem_map, List.mem_filter, decide_eq_true_eq]
  constructor
  · rintro ⟨l, ⟨h1, h2⟩, h3⟩
    subst h2; subst h3
    exact h1
  · intro h
    exact ⟨_, ⟨h, rfl⟩, rfl⟩
theorem round_iff {xs : List Lk} (hc : chainB xs = true) : roundR xs = true ↔ ∃ x y, (x, y) ∈ xs ∧ Rch (toL xs) y x := by
  unfold roundR
  rw [hc, Bool.true_and, List.any_eq_true]
  constructor
  · rintro ⟨y, _, h2⟩
    obtain ⟨v, hv, h3⟩ := leads_rch.1 h2
    exact ⟨y.1, v, (mem_toL hc).1 hv, h3⟩
  · rintro ⟨x, y, h1, h2⟩
    exact ⟨_, h1, leads_rch.2 ⟨y, (mem_toL hc).2 h1, h2⟩⟩
theorem closes_rch {xs : List Lk} {a z : Int} : (decide (a = z) || leadsR xs z a) = true ↔ Rch (toL xs) z a := by
  rw [Bool.or_eq_true, decide_eq_true_eq, leads_rch]
  constructor
  · rintro (rfl | ⟨v, h1, h2⟩)
    · exact Rch.refl _ _
    · exact .cons h1 h2
  · intro h
    exact h.un
/-- The stage's theorem, in plain words. -/
theorem ring_more {xs n : List Lk} {m : Lk} (hc : chainB xs = true) (hn : chainB n = true) (hmem : ∀ y, y ∈ n ↔ y ∈ xs ∨ y = m) : roundR n = (roundR xs || (decide (m.1 = m.2) || leadsR xs m.2 m.1)) := by
  have h1 : ∀ x y, y ∈ toL n x → y ∈ toL xs x ∨ (x = m.1 ∧ y = m.2) := fun x y h => by
    rcases (hmem _).1 ((mem_toL hn).1 h) with h | h
    · exact .inl ((mem_toL hc).2 h)
    · exact .inr (by rw [← h]; exact ⟨rfl, rfl⟩)
  have h2 : ∀ x y, y ∈ toL xs x → y ∈ toL n x := fun x y h => (mem_toL hn).2 ((hmem _).2 (.inl ((mem_toL hc).1 h)))
  rw [Bool.eq_iff_iff, Bool.or_eq_true, closes_rch, round_iff hc, round_iff hn]
  constructor
  · rintro ⟨x, y, hxy, p, hp⟩
    rcases (hmem _).1 hxy with hxy | hxy
    · rcases Rch.more h1 hp with h | ⟨h, h'⟩
      · exact .inl ⟨x, y, hxy, h⟩
      · exact .inr (h'.trans (.cons ((mem_toL hc).2 hxy) h))
    · subst hxy
      rcases Rch.more h1 hp with h | ⟨h, h'⟩
      · exact .inr h
      · exact .inr h'
  · rintro (⟨x, y, hxy, p, hp⟩ | ⟨p, hp⟩)
    · exact ⟨x, y, (hmem _).2 (.inl hxy), Rch.mono h2 hp⟩
    · exact ⟨m.1, m.2, (hmem _).2 (.inr rfl), Rch.mono h2 hp⟩
theorem ofP_chain {zs : List Lk} (h : zs.length ≤ 1000) (ha : zs.all linkB = true) : chainB (ofP zs) = true := by
  rw [chainB_iff]
  have := ofP_len zs
  exact ⟨by omega, fun y hy => List.all_eq_true.1 ha y ((ofP_mem zs y).1 hy), ofP_up zs⟩
end Go.SX
namespace Go.SX
open Go
end Go.SX

set_option linter.unusedVariables false
set_option linter.unusedSimpArgs false
namespace Go.SX
open Go
def Acyc (xs : List Lk) : Prop := chainB xs = true ∧ roundR xs = false
def maxL (l : List Int) : Int := l.foldl max 0
theorem maxL_snoc (l : List Int) (a : Int) : maxL (l ++ [a]) = max (maxL l) a := by unfold maxL; rw [List.foldl_append]; rfl
theorem maxL_fold : ∀ (l : List Int) (b c : Int), (∀ a ∈ l, a ≤ c) → b ≤ c → l.foldl max b ≤ c
  | [], b, c, _, h => h
  | a :: l, b, c, h, hb => maxL_fold l (max b a) c (fun x hx => h x (List.mem_cons_of_mem _ hx)) (by have := h a (List.mem_cons_self ..); omega)
theorem maxL_base : ∀ (l : List Int) (b : Int), b ≤ l.foldl max b
  | [], b => Int.le_refl _
  | a :: l, b => by have := maxL_base l (max b a); simp only [List.foldl_cons]; omega
theorem maxL_has : ∀ (l : List Int) (b : Int) {a : Int}, a ∈ l → a ≤ l.foldl max b
  | x :: l, b, a, h => by
    rcases List.mem_cons.1 h with rfl | h
    · have := maxL_base l (max b a); simp only [List.foldl_cons]; omega
    · exact maxL_has l _ h
theorem maxL_nn (l : List Int) : 0 ≤ maxL l := maxL_base l 0
theorem maxL_mem {l : List Int} {a : Int} (h : a ∈ l) : a ≤ maxL l := maxL_has l 0 h
theorem maxL_le {l : List Int} {c : Int} (h : ∀ a ∈ l, a ≤ c) (hc : 0 ≤ c) : maxL l ≤ c := maxL_fold l 0 c h hc
theorem filter_lt {α : Type} {p q : α → Bool} : ∀ {l : List α} {y : α}, (∀ x ∈ l, p x = true → q x = true) → y ∈ l → q y = true → p y = false → (l.filter p).length < (l.filter q).length
  | [], y, _, h, _, _ => by simp at h
  | x :: l, y, hpq, h, hq, hp => by
    have hle : ∀ m : List α, (∀ x ∈ m, p x = true → q x = true) → (m.filter p).length ≤ (m.filter q).length := fun m => by
      induction m with
      | nil => intro _; simp
      | cons z m ih =>
        intro hm
        have i1 := ih (fun x hx => hm x (List.mem_cons_of_mem _ hx))
        by_cases hz : p z = true
        · rw [List.filter_cons_of_pos hz, List.filter_cons_of_pos (hm z (List.mem_cons_self ..) hz)]; simp; exact i1
        · rw [List.filter_cons_of_neg hz]
          by_cases hz2 : q z = true
          · rw [List.filter_cons_of_pos hz2]; simp only [List.length_cons]; omega
          · rw [List.filter_cons_of_neg hz2]; exact i1
    have h1 := hle l (fun x hx => hpq x (List.mem_cons_of_mem _ hx))
    rcases List.mem_cons.1 h with rfl | h
    · rw [List.filter_cons_of_neg (by rw [hp]; simp), List.filter_cons_of_pos hq]; simp only [List.length_cons]; omega
    · have ih := filter_lt (fun x hx => hpq x (List.mem_cons_of_mem _ hx)) h hq hp
      by_cases hx : p x = true
      · rw [List.filter_cons_of_pos hx, List.filter_cons_of_pos (hpq x (List.mem_cons_self ..) hx)]; simp only [List.length_cons]; omega
      · rw [List.filter_cons_of_neg hx]
        by_cases hx2 : q x = true
        · rw [List.filter_cons_of_pos hx2]; simp only [List.length_cons]; omega
        · rw [List.filter_cons_of_neg hx2]; exact ih
def rankL (xs : List Lk) (n : Int) : Nat := (xs.filter (fun x => decide (x.1 = n) || leadsR xs n x.1)).length
theorem acyc_no {xs : List Lk} (h : Acyc xs) {n t : Int} (hl : (n, t) ∈ xs) : ¬ Rch (toL xs) t n := fun hr => by
  have := (round_iff h.1).2 ⟨n, t, hl, hr⟩
  rw [h.2] at this; cases this
theorem rank_lt {xs : List Lk} (h : Acyc xs) {n t : Int} (ht : t ∈ toL xs n) : rankL xs t < rankL xs n := by
  have hm := (mem_toL h.1).1 ht
  refine filter_lt (y := (n, t)) (fun x _ hx => closes_rch.2 (.cons ht (closes_rch.1 hx))) hm (closes_rch.2 (Rch.refl _ _)) ?_
  rw [Bool.eq_false_iff]
  intro hx
  exact acyc_no h hm (closes_rch.1 hx)
theorem rank_le (xs : List Lk) (n : Int) : rankL xs n ≤ xs.length := List.length_filter_le _ _
def depF (xs : List Lk) : Nat → Int → Int
  | 0, _ => 0
  | k + 1, n => maxL ((toL xs n).map (fun t => depF xs k t + 1))
def depL (xs : List Lk) (n : Int) : Int := depF xs xs.length n
theorem depF_eq {xs : List Lk} (h : Acyc xs) : ∀ (k j : Nat) (n : Int), rankL xs n ≤ k → rankL xs n ≤ j → depF xs k n = depF xs j n
  | 0, 0, n, _, _ => rfl
  | 0, j + 1, n, h1, h2 => by
    have h0 : toL xs n = [] := by
      cases e : toL xs n with
      | nil => rfl
      | cons t r => have := rank_lt h (n := n) (t := t) (by rw [e]; exact List.mem_cons_self ..); omega
    simp [depF, h0, maxL]
  | k + 1, 0, n, h1, h2 => by
    have h0 : toL xs n = [] := by
      cases e : toL xs n with
      | nil => rfl
      | cons t r => have := rank_lt h (n := n) (t := t) (by rw [e]; exact List.mem_cons_self ..); omega
    simp [depF, h0, maxL]
  | k + 1, j + 1, n, h1, h2 => by
    unfold depF
    congr 1
    refine List.map_congr_left fun t ht => ?_
    have := rank_lt h ht
    rw [depF_eq h k j t (by omega) (by omega)]
theorem dep_eq {xs : List Lk} (h : Acyc xs) (n : Int) : depL xs n = maxL ((toL xs n).map (fun t => depL xs t + 1)) := by
  have := depF_eq h xs.length (xs.length + 1) n (rank_le _ _) (by have := rank_le xs n; omega)
  unfold depL
  rw [this]; rfl
theorem depF_bd (xs : List Lk) : ∀ (k : Nat) (n : Int), 0 ≤ depF xs k n ∧ depF xs k n ≤ k
  | 0, n => by simp [depF]
  | k + 1, n => ⟨maxL_nn _, maxL_le (fun a ha => by
    obtain ⟨t, _, rfl⟩ := List.mem_map.1 ha
    have := (depF_bd xs k t).2
    omega) (by omega)⟩
theorem dep_bd (xs : List Lk) (n : Int) : 0 ≤ depL xs n ∧ depL xs n ≤ xs.length := depF_bd xs _ n
theorem dep_lt {xs : List Lk} (h : Acyc xs) {n t : Int} (ht : t ∈ toL xs n) : depL xs t < depL xs n := by
  have := maxL_mem (List.mem_map.2 ⟨t, ht, rfl⟩ : depL xs t + 1 ∈ (toL xs n).map (fun t => depL xs t + 1))
  rw [dep_eq h n]; omega
theorem dep_none {xs : List Lk} (h : Acyc xs) {n : Int} (hn : toL xs n = []) : depL xs n = 0 := by rw [dep_eq h n, hn]; rfl

/-- each once, of neighbours -/
def compactI : List Int → List Int
  | [] => []
  | [a] => [a]
  | a :: b :: r => if a = b then compactI (b :: r) else a :: compactI (b :: r)
theorem compactI_snoc : ∀ (l : List Int) (z y : Int), compactI (l ++ [z] ++ [y]) = if y = z then compactI (l ++ [z]) else compactI (l ++ [z]) ++ [y]
  | [], z, y => by
    show compactI [z, y] = _
    by_cases h : y = z
    · subst h; simp [compactI]
    · simp [compactI, h, Ne.symm h]
  | [a], z, y => by
    have ih := compactI_snoc [] z y
    simp only [List.nil_append, List.cons_append] at ih ⊢
    show compactI (a :: z :: [y]) = if y = z then compactI [a, z] else compactI [a, z] ++ [y]
    by_cases h : a = z
    · simp only [compactI, if_pos h] at ih ⊢; exact ih
    · simp only [compactI, if_neg h] at ih ⊢
      by_cases e : y = z
      · rw [if_pos e] at ih ⊢; rw [ih]
      · rw [if_neg e] at ih ⊢; rw [ih]; rfl
  | a :: b :: l, z, y => by
    have ih := compactI_snoc (b :: l) z y
    simp only [List.cons_append] at ih ⊢
    by_cases h : a = b
    · simp only [compactI, if_pos h]; exact ih
    · simp only [compactI, if_neg h]
      by_cases e : y = z
      · rw [if_pos e] at ih ⊢; rw [ih]
      · rw [if_neg e] at ih ⊢; rw [ih]; rfl
theorem compactI_take {xs : List Int} {k : Nat} {z y : Int} (hz : xs[k]? = some z) (hy : xs[k + 1]? = some y) : compactI (xs.take (k + 2)) = if y = z then compactI (xs.take (k + 1)) else compactI (xs.take (k + 1)) ++ [y] := by
  rw [take_snoc _ _ _ hy, take_snoc _ _ _ hz]
  exact compactI_snoc _ z y
theorem compactI_len : ∀ l : List Int, (compactI l).length ≤ l.length
  | [] => by simp [compactI]
  | [a] => by simp [compactI]
  | a :: b :: r => by
    have := compactI_len (b :: r)
    unfold compactI
    split
    · simp only [List.length_cons] at this ⊢; omega
    · simp only [List.length_cons] at this ⊢; omega
theorem compactI_mem : ∀ {l : List Int} {x : Int}, x ∈ compactI l ↔ x ∈ l
  | [], x => by simp [compactI]
  | [a], x => by simp [compactI]
  | a :: b :: r, x => by
    have ih := compactI_mem (l := b :: r) (x := x)
    unfold compactI
    split
    · rename_i h; subst h; rw [ih]; simp
    · rw [List.mem_cons, ih, List.mem_cons (a := x) (b := a)]
theorem compactI_up : ∀ {l : List Int}, l.Pairwise (· ≤ ·) → (compactI l).Pairwise (· < ·)
  | [], _ => by simp [compactI]
  | [a], _ => by simp [compactI]
  | a :: b :: r, h => by
    obtain ⟨h1, h2⟩ := List.pairwise_cons.1 h
    have ih := compactI_up h2
    unfold compactI
    split
    · exact ih
    · rename_i hne
      refine List.pairwise_cons.2 ⟨fun y hy => ?_, ih⟩
      have hyb := compactI_mem.1 hy
      have h3 := h1 b (List.mem_cons_self ..)
      rcases List.mem_cons.1 hyb with rfl | hyr
      · omega
      · have h4 := (List.pairwise_cons.1 h2).1 y hyr
        omega
theorem compactI_one (xs : List Int) : compactI (xs.take 1) = xs.take 1 := by
  cases xs with
  | nil => rfl
  | cons a r => rfl
theorem compactI_short {xs : List Int} (h : xs.length < 2) : compactI xs = xs := by
  match xs, h with
  | [], _ => rfl
  | [a], _ => rfl
def allL (xs : List Lk) : List Int := compactI (xs.map (·.1))
theorem all_mem {xs : List Lk} {n : Int} : n ∈ allL xs ↔ ∃ y ∈ xs, y.1 = n := by unfold allL; rw [compactI_mem, List.mem_map]
theorem all_up {xs : List Lk} (h : chainB xs = true) : (allL xs).Pairwise (· < ·) := by
  refine compactI_up (List.pairwise_map.2 ((chainB_iff.1 h).2.2.imp fun {a b} hab => ?_))
  unfold ltP at hab; omega
theorem all_len (xs : List Lk) : (allL xs).length ≤ xs.length := by have := compactI_len (xs.map (·.1)); simpa [allL] using this
theorem all_pos {xs : List Lk} (h : Acyc xs) {n : Int} (hn : n ∈ allL xs) : 0 < depL xs n := by
  obtain ⟨y, hy, rfl⟩ := all_mem.1 hn
  have h1 : y.2 ∈ toL xs y.1 := (mem_toL h.1).2 hy
  have := dep_lt h h1
  have := (dep_bd xs y.2).1
  omega
theorem all_not {xs : List Lk} (h : Acyc xs) {n : Int} (hn : n ∉ allL xs) : depL xs n = 0 := by
  refine dep_none h ?_
  cases e : toL xs n with
  | nil => rfl
  | cons t r =>
    have : t ∈ toL xs n := by rw [e]; exact List.mem_cons_self ..
    exact absurd (all_mem.2 ⟨(n, t), (mem_toL h.1).1 this, rfl⟩) hn
def ofD (xs : List Lk) : List Lk := (allL xs).map (fun n => (n, depL xs n))
theorem ofD_len (xs : List Lk) : (ofD xs).length ≤ xs.length := by unfold ofD; rw [List.length_map]; exact all_len xs
/-- Depths that may be. -/
def rightD (d : List Lk) : Bool := decide ((∀ y ∈ d, 1 ≤ y.1 ∧ y.1 ≤ 1048578 ∧ 1 ≤ y.2) ∧ d.Pairwise (fun a b => a.1 < b.1))
theorem rightD_iff {d : List Lk} : rightD d = true ↔ (∀ y ∈ d, 1 ≤ y.1 ∧ y.1 ≤ 1048578 ∧ 1 ≤ y.2) ∧ d.Pairwise (fun a b => a.1 < b.1) := by unfold rightD; simp
theorem ofD_right {xs : List Lk} (h : Acyc xs) : rightD (ofD xs) = true := by
  rw [rightD_iff]
  constructor
  · intro y hy
    obtain ⟨n, hn, rfl⟩ := List.mem_map.1 hy
    have h1 := all_pos h hn
    obtain ⟨z, hz, rfl⟩ := all_mem.1 hn
    have := (chainB_iff.1 h.1).2.1 z hz
    unfold linkB at this
    simp at this
    exact ⟨by omega, by omega, by omega⟩
  · exact List.pairwise_map.2 (all_up h.1)
theorem rightD_nil : rightD [] = true := by rw [rightD_iff]; exact ⟨fun y h => by simp at h, List.Pairwise.nil⟩
def atD (d : List Lk) (n : Int) : Int := ((d.find? (fun x => decide (x.1 = n))).map (·.2)).getD 0
theorem at_map {l : List Int} {f : Int → Int} {n : Int} : atD (l.map (fun n => (n, f n))) n = if n ∈ l then f n else 0 := by
  unfold atD
  induction l with
  | nil => simp
  | cons a l ih =>
    rw [List.map_cons]
    by_cases h : a = n
    · subst h; simp
    · rw [List.find?_cons_of_neg (by simpa using h), ih]
      by_cases h2 : n ∈ l
      · rw [if_pos h2, if_pos (List.mem_cons_of_mem _ h2)]
      · rw [if_neg h2, if_neg (by simp; exact ⟨fun e => h e.symm, h2⟩)]
theorem at_ofD {xs : List Lk} (h : Acyc xs) (n : Int) : atD (ofD xs) n = depL xs n := by
  unfold ofD
  rw [at_map]
  by_cases hn : n ∈ allL xs
  · rw [if_pos hn]
  · rw [if_neg hn, all_not h hn]
/-- Where a number stands among depths that may be. -/
def BSI (d : List Lk) (n : Int) (i : Nat) : Prop := i ≤ d.length ∧ (∀ (k : Nat) y, d[k]? = some y → (y.1 < n ↔ k < i))
theorem rise_get {d : List Lk} (h : rightD d = true) {j k : Nat} {x y : Lk} (hx : d[j]? = some x) (hy : d[k]? = some y) (hjk : j < k) : x.1 < y.1 := by
  have hp := (rightD_iff.1 h).2
  obtain ⟨h1, rfl⟩ := List.getElem?_eq_some_iff.1 hx
  obtain ⟨h2, rfl⟩ := List.getElem?_eq_some_iff.1 hy
  exact List.pairwise_iff_getElem.1 hp j k h1 h2 hjk
theorem bs_at {d : List Lk} (h : rightD d = true) {n : Int} {i : Nat} (hb : BSI d n i) : atD d n = (match d[i]? with | some y => if y.1 = n then y.2 else 0 | none => 0) := by
  have key : ∀ (d : List Lk) (i : Nat), d.Pairwise (fun a b => a.1 < b.1) → i ≤ d.length → (∀ (k : Nat) y, d[k]? = some y → (y.1 < n ↔ k < i)) → atD d n = (match d[i]? with | some y => if y.1 = n then y.2 else 0 | none => 0) := fun d => by
    induction d with
    | nil => intro i _ hi _; have : i = 0 := by simpa using hi
             subst this; rfl
    | cons x d ih =>
      intro i hp hi hk
      cases i with
      | zero =>
        have h0 := hk 0 x rfl
        have hx : ¬ x.1 < n := fun e => by have := h0.1 e; omega
        show atD (x :: d) n = if x.1 = n then x.2 else 0
        unfold atD
        by_cases e : x.1 = n
        · rw [List.find?_cons_of_pos (by simpa using e), if_pos e]; rfl
        · rw [List.find?_cons_of_neg (by simpa using e), if_neg e]
          have : d.find? (fun x => decide (x.1 = n)) = none := by
            rw [List.find?_eq_none]
            intro y hy
            have := (List.pairwise_cons.1 hp).1 y hy
            simp; omega
          rw [this]; rfl
      | succ i =>
        have h0 := (hk 0 x rfl).2 (by omega)
        have i1 := ih i (List.pairwise_cons.1 hp).2 (by simpa using hi) (fun k y hy => by have := hk (k + 1) y (by simpa using hy); omega)
        show atD (x :: d) n = (match d[i]? with | some y => if y.1 = n then y.2 else 0 | none => 0)
        rw [← i1]
        unfold atD
        rw [List.find?_cons_of_neg (by simp; omega)]
  exact key d i (rightD_iff.1 h).2 hb.1 hb.2
end Go.SX

set_option linter.unusedVariables false
set_option linter.unusedSimpArgs false
namespace Go.SX
open Go Go.Sort Go.Proofs
theorem maxL_ext {l m : List Int} (h : ∀ a, a ∈ l → a ∈ m) : maxL l ≤ maxL m := maxL_le (fun a ha => maxL_mem (h a ha)) (maxL_nn _)
/-- Who does not lead to it is as deep as it was. -/
theorem dep_same {xs ys : List Lk} (hx : Acyc xs) (hy : Acyc ys) {a : Int} (h : ∀ n, n ≠ a → ∀ t, t ∈ toL xs n ↔ t ∈ toL ys n) : ∀ (k : Nat) (n : Int), rankL xs n ≤ k → ¬ Rch (toL xs) n a → depL xs n = depL ys n := fun k => by
  induction k with
  | zero =>
    intro n hk hn
    have h0 : toL xs n = [] := by
      cases e : toL xs n with
      | nil => rfl
      | cons t r => have := rank_lt hx (n := n) (t := t) (by rw [e]; exact List.mem_cons_self ..); omega
    have hne : n ≠ a := fun e => hn (e ▸ Rch.refl _ _)
    have h1 : toL ys n = [] := by
      cases e : toL ys n with
      | nil => rfl
      | cons t r =>
        have := (h n hne t).2 (by rw [e]; exact List.mem_cons_self ..)
        rw [h0] at this; simp at this
    rw [dep_none hx h0, dep_none hy h1]
  | succ k ih =>
    intro n hk hn
    have hne : n ≠ a := fun e => hn (e ▸ Rch.refl _ _)
    have hstep : ∀ t ∈ toL xs n, depL xs t = depL ys t := fun t ht => ih t (by have := rank_lt hx ht; omega) (fun hr => hn (.cons ht hr))
    rw [dep_eq hx n, dep_eq hy n]
    apply Int.le_antisymm
    · refine maxL_ext (fun b hb => ?_)
      obtain ⟨t, ht, rfl⟩ := List.mem_map.1 hb
      exact List.mem_map.2 ⟨t, (h n hne t).1 ht, by rw [hstep t ht]⟩
    · refine maxL_ext (fun b hb => ?_)
      obtain ⟨t, ht, rfl⟩ := List.mem_map.1 hb
      have ht' := (h n hne t).2 ht
      exact List.mem_map.2 ⟨t, ht', by rw [hstep t ht']⟩
theorem depF_mono {xs ys : List Lk} (h : ∀ n t, t ∈ toL xs n → t ∈ toL ys n) : ∀ (k : Nat) (n : Int), depF xs k n ≤ depF ys k n
  | 0, n => Int.le_refl _
  | k + 1, n => maxL_le (fun b hb => by
    obtain ⟨t, ht, rfl⟩ := List.mem_map.1 hb
    have h1 := depF_mono h k t
    have h2 := maxL_mem (List.mem_map.2 ⟨t, h n t ht, rfl⟩ : depF ys k t + 1 ∈ (toL ys n).map (fun t => depF ys k t + 1))
    show _ ≤ maxL ((toL ys n).map (fun t => depF ys k t + 1))
    omega) (maxL_nn _)
theorem dep_mono {xs ys : List Lk} (hx : Acyc xs) (hy : Acyc ys) (h : ∀ n t, t ∈ toL xs n → t ∈ toL ys n) (n : Int) : depL xs n ≤ depL ys n := by
  have h1 := depF_mono h (xs.length + ys.length) n
  have e1 := depF_eq hx xs.length (xs.length + ys.length) n (rank_le _ _) (by have := rank_le xs n; omega)
  have e2 := depF_eq hy ys.length (xs.length + ys.length) n (rank_le _ _) (by have := rank_le ys n; omega)
  unfold depL
  omega
theorem back_mem {xs : List Lk} {a v : Int} : v ∈ (wavesL true xs a).flatten ↔ Rch (toL xs) v a := by
  have hW := wavesL_all true xs a
  constructor
  · intro h
    obtain ⟨w, h1, h2⟩ := List.mem_flatten.1 h
    obtain ⟨k, hk⟩ := List.mem_iff_getElem?.1 h1
    have hd : Dist (fromL xs) a v k := (hW.lv k v).1 ⟨w, hk, h2⟩
    obtain ⟨⟨p, hp, _⟩, _⟩ := hd.rev (fr := toL xs) (fun x y => (to_from y x).symm)
    exact ⟨p, hp⟩
  · rintro ⟨p, hp⟩
    obtain ⟨n, hn, _⟩ := Dist.of hp
    obtain ⟨w, h1, h2⟩ := (hW.lv n v).2 (hn.rev to_from)
    exact List.mem_flatten.2 ⟨w, List.mem_of_getElem? h1, h2⟩
/-- the links with one more -/
theorem more_mem {xs : List Lk} {m y : Lk} : y ∈ ofP (xs ++ [m]) ↔ y ∈ xs ∨ y = m := by rw [ofP_mem]; simp
theorem link_all {xs : List Lk} {m : Lk} (hc : chainB xs = true) (hm : linkB m = true) : (xs ++ [m]).all linkB = true := by
  rw [List.all_eq_true]
  intro y hy
  rcases List.mem_append.1 hy with h | h
  · exact (chainB_iff.1 hc).2.1 y h
  · rw [List.mem_singleton.1 h]; exact hm
theorem more_acyc {xs : List Lk} {m : Lk} (h : Acyc xs) (hl : xs.length ≤ 900) (hm : linkB m = true) (hn : (decide (m.1 = m.2) || leadsR xs m.2 m.1) = false) : Acyc (ofP (xs ++ [m])) := by
  have hch : chainB (ofP (xs ++ [m])) = true := ofP_chain (by simp; omega) (link_all h.1 hm)
  refine ⟨hch, ?_⟩
  rw [ring_more h.1 hch (fun y => more_mem), h.2, hn]; rfl
/-- .. with one less -/
def delL (xs : List Lk) (m : Lk) : List Lk := xs.filter (fun y => !decide (y = m))
theorem del_mem {xs : List Lk} {m y : Lk} : y ∈ delL xs m ↔ y ∈ xs ∧ y ≠ m := by unfold delL; rw [List.mem_filter]; simp
theorem del_chain {xs : List Lk} (m : Lk) (hc : chainB xs = true) : chainB (delL xs m) = true := by
  obtain ⟨h1, h2, h3⟩ := chainB_iff.1 hc
  refine chainB_iff.2 ⟨Nat.le_trans (List.length_filter_le _ _) h1, fun y hy => h2 y (del_mem.1 hy).1, h3.sublist List.filter_sublist⟩
theorem del_acyc {xs : List Lk} (m : Lk) (h : Acyc xs) : Acyc (delL xs m) := by
  have hc := del_chain m h.1
  refine ⟨hc, ?_⟩
  rw [Bool.eq_false_iff]
  intro hr
  obtain ⟨x, y, hxy, p, hp⟩ := (round_iff hc).1 hr
  have hr2 := Rch.mono (to' := toL xs) (fun a b hb => (mem_toL h.1).2 (del_mem.1 ((mem_toL hc).1 hb)).1) hp
  exact acyc_no h (del_mem.1 hxy).1 hr2
theorem del_more {xs : List Lk} {m : Lk} (hc : chainB xs = true) (hl : xs.length ≤ 900) (hm : linkB m = true) (hn : m ∉ xs) : delL (ofP (xs ++ [m])) m = xs := by
  have hch : chainB (ofP (xs ++ [m])) = true := ofP_chain (by simp; omega) (link_all hc hm)
  refine upP_ext (chainB_iff.1 (del_chain m hch)).2.2 (chainB_iff.1 hc).2.2 (fun y => ?_)
  rw [del_mem, more_mem]
  constructor
  · rintro ⟨h1 | h1, h2⟩
    · exact h1
    · exact absurd h1 h2
  · intro h
    exact ⟨.inl h, fun e => hn (e ▸ h)⟩
theorem more_out {xs : List Lk} {m : Lk} (hc : chainB xs = true) (hl : xs.length ≤ 900) (hm : linkB m = true) : ∀ n, n ≠ m.1 → ∀ t, t ∈ toL (ofP (xs ++ [m])) n ↔ t ∈ toL xs n := fun n hn t => by
  have hch : chainB (ofP (xs ++ [m])) = true := ofP_chain (by simp; omega) (link_all hc hm)
  rw [mem_toL hch, mem_toL hc, more_mem]
  constructor
  · rintro (h | h)
    · exact h
    · exact absurd (by rw [← h]) hn
  · exact .inl
theorem del_out {xs : List Lk} {m : Lk} (hc : chainB xs = true) : ∀ n, n ≠ m.1 → ∀ t, t ∈ toL (delL xs m) n ↔ t ∈ toL xs n := fun n hn t => by
  rw [mem_toL (del_chain m hc), mem_toL hc, del_mem]
  constructor
  · exact fun h => h.1
  · exact fun h => ⟨h, fun e => hn (by rw [← e])⟩
/-! numbers by how deep they are -/
theorem perm_sorted {α : Type} {r : α → α → Prop} (has : ∀ a b, r a b → r b a → a = b) : ∀ {l m : List α}, l.Perm m → l.Pairwise r → m.Pairwise r → l = m
  | [], m, hp, _, _ => (hp.nil_eq).trans rfl
  | a :: l, [], hp, _, _ => absurd hp.length_eq (by simp)
  | a :: l, b :: m, hp, hl, hm => by
    have hab : a = b := by
      have h1 : a ∈ b :: m := hp.subset (List.mem_cons_self ..)
      have h2 : b ∈ a :: l := hp.symm.subset (List.mem_cons_self ..)
      rcases List.mem_cons.1 h1 with e | h1
      · exact e
      · rcases List.mem_cons.1 h2 with e | h2
        · exact e.symm
        · exact has a b ((List.pairwise_cons.1 hl).1 b h2) ((List.pairwise_cons.1 hm).1 a h1)
    subst hab
    rw [perm_sorted has (hp.cons_inv) (List.pairwise_cons.1 hl).2 (List.pairwise_cons.1 hm).2]
/-- how numbers stand -/
def leO (d : List Lk) (a b : Int) : Prop := atD d a < atD d b ∨ (atD d a = atD d b ∧ a ≤ b)
theorem leO_anti (d : List Lk) (a b : Int) (h : leO d a b) (k : leO d b a) : a = b := by unfold leO at *; omega
theorem leO_trans {d : List Lk} {a b c : Int} (h : leO d a b) (k : leO d b c) : leO d a c := by unfold leO at *; omega
instance (d : List Lk) (a b : Int) : Decidable (leO d a b) := by unfold leO; infer_instance
/-- the reference: each put behind all that stand not behind it, from the front -/
def insO (d : List Lk) (out : List Int) (n : Int) : List Int := out.takeWhile (fun y => decide (leO d y n)) ++ [n] ++ out.dropWhile (fun y => decide (leO d y n))
def refO (d : List Lk) (l : List Int) : List Int := l.foldl (insO d) []
theorem insO_perm (d : List Lk) (out : List Int) (n : Int) : (insO d out n).Perm (n :: out) := by
  unfold insO
  have h := List.takeWhile_append_dropWhile (p := fun y => decide (leO d y n)) (l := out)
  rw [List.append_assoc]
  refine List.perm_middle.trans ?_
  show (n :: (out.takeWhile (fun y => decide (leO d y n)) ++ out.dropWhile (fun y => decide (leO d y n)))).Perm (n :: out)
  rw [h]
theorem insO_sorted {d : List Lk} {out : List Int} (n : Int) (h : out.Pairwise (leO d)) : (insO d out n).Pairwise (leO d) := by
  unfold insO
  induction out with
  | nil => simp
  | cons a out ih =>
    obtain ⟨h1, h2⟩ := List.pairwise_cons.1 h
    by_cases ha : leO d a n
    · rw [List.takeWhile_cons_of_pos (by simpa using ha), List.dropWhile_cons_of_pos (by simpa using ha)]
      refine List.pairwise_cons.2 ⟨fun y hy => ?_, ih h2⟩
      have hp := insO_perm d out n
      unfold insO at hp
      rcases List.mem_cons.1 (hp.subset hy) with rfl | hy
      · exact ha
      · exact h1 y hy
    · rw [List.takeWhile_cons_of_neg (by simpa using ha), List.dropWhile_cons_of_neg (by simpa using ha)]
      have hna : leO d n a := by unfold leO at *; omega
      refine List.pairwise_cons.2 ⟨fun y hy => ?_, h⟩
      rcases List.mem_cons.1 hy with rfl | hy
      · exact hna
      · exact leO_trans hna (h1 y hy)
theorem refO_go (d : List Lk) : ∀ (l out : List Int), out.Pairwise (leO d) → (l.foldl (insO d) out).Pairwise (leO d) ∧ (l.foldl (insO d) out).Perm (l ++ out)
  | [], out, h => ⟨h, List.Perm.refl _⟩
  | a :: l, out, h => by
    have ih := refO_go d l (insO d out a) (insO_sorted a h)
    refine ⟨ih.1, ih.2.trans ?_⟩
    refine ((insO_perm d out a).append_left l).trans ?_
    exact List.perm_middle
theorem refO_sorted (d : List Lk) (l : List Int) : (refO d l).Pairwise (leO d) := (refO_go d l [] List.Pairwise.nil).1
theorem refO_perm (d : List Lk) (l : List Int) : (refO d l).Perm l := by have := (refO_go d l [] List.Pairwise.nil).2; rwa [List.append_nil] at this
theorem orderO_eq {d : List Lk} {l out : List Int} (hp : out.Perm l) (hs : out.Pairwise (leO d)) : out = refO d l := perm_sorted (leO_anti d) (hp.trans (refO_perm d l).symm) hs (refO_sorted d l)
end Go.SX
namespace Go.SX
open Go
/-- the indexes from which the first k links lead -/
def allK (xs : List Lk) (k : Nat) : List Int := compactI ((xs.take k).map (·.1))
/-- the greatest depth behind the first k links of one -/
def mostL (xs : List Lk) (n : Int) (k : Nat) : Int := maxL (((xs.take k).filter (fun y => decide (y.1 = n))).map (fun y => depL xs y.2 + 1))
/-- what is known of depths: a map whose entries are right -/
def KOK (xs : List Lk) (m : MapL) : Prop := ∀ k v, mget m k = some v → v = .int .i64 (depL xs k)
theorem KOK.nil (xs : List Lk) : KOK xs [] := fun k v h => by simp [mget] at h
theorem KOK.put {xs : List Lk} {m : MapL} (h : KOK xs m) {k d : Int} (hd : d = depL xs k) : KOK xs (mput m k (.int .i64 d)) := fun j v hj => by
  rw [mget_mput] at hj
  by_cases e : j = k
  · rw [if_pos e] at hj; injection hj with hj; rw [← hj, hd, e]
  · rw [if_neg e] at hj; exact h j v hj
def KLe (m m' : MapL) : Prop := ∀ k, mget m k ≠ none → mget m' k ≠ none
theorem KLe.refl (m : MapL) : KLe m m := fun k h => h
theorem KLe.trans {a b c : MapL} (h : KLe a b) (k : KLe b c) : KLe a c := fun j hj => k j (h j hj)
theorem KLe.put (m : MapL) (k : Int) (v : Value) : KLe m (mput m k v) := fun j hj => by
  rw [mget_mput]; split
  · simp
  · exact hj
theorem mput_at (m : MapL) (k : Int) (v : Value) : mget (mput m k v) k ≠ none := by rw [mget_mput, if_pos rfl]; simp
theorem KOK.is {xs : List Lk} {m : MapL} (h : KOK xs m) {k : Int} (hk : mget m k ≠ none) {z : Value} : (mget m k).getD z = .int .i64 (depL xs k) := by
  cases e : mget m k with
  | none => exact absurd e hk
  | some v => exact h k v e
end Go.SX
namespace Go.SX
open Go
def ofDR (xs : List Lk) : List Lk × Int := if chainB xs then (if roundR xs then ([], 270) else (ofD xs, 0)) else ([], 260)
theorem ofDR_a {xs : List Lk} (h : chainB xs = false) : ofDR xs = ([], 260) := by unfold ofDR; rw [h]; rfl
theorem ofDR_b {xs : List Lk} (h : chainB xs = true) (h2 : roundR xs = true) : ofDR xs = ([], 270) := by unfold ofDR; rw [h, h2]; rfl
theorem ofDR_c {xs : List Lk} (h : Acyc xs) : ofDR xs = (ofD xs, 0) := by unfold ofDR; rw [h.1, h.2]; rfl
end Go.SX

set_option linter.unusedVariables false
set_option linter.unusedSimpArgs false
namespace Go.SX
open Go Go.Proofs

set_option maxHeartbeats 1600000 in
theorem outs_c (H : Heap) (v : Value) (xs : List Lk) (hr : RdS pairE H v xs) (hcb : chainB xs = true) (hl : xs.length ≤ 1000) : Fp Tryz.prog (fnv 62) [v] H (fun v' H' => ∃ b es ck m, v' = .map (some b) ∧ H' b = some (.map es ck) ∧ MapIs .i64 es m ∧ ∀ j, RdS (intE .i64) H' ((mget m j).getD (.slice none 0 0)) (toL xs j)) := by
  refine Fc.of_body (N := 26) Tryz.func62 rfl (by kernel_rfl) rfl rfl ?_
  intro w0
  obtain ⟨A, c, rfl, hc1, hc2, hr⟩ := hr.shape
  refine T.seq ?_
  refine T.region ?_
  refine R.asE rfl (by conv => lhs; whnf) ?_
  refine TL.nil (Post.thnN ?_)
  refine T.seq ?_
  refine T.region ?_
  refine R.mkm rfl ?_
  intro b6
  refine R.asE rfl (by conv => lhs; whnf) ?_
  refine TL.nil (Post.thnN ?_)
  refine T.seq ?_
  refine T.seq ?_
  refine T.region ?_
  refine R.mvE rfl (by conv => lhs; whnf) ?_
  refine R.len Tryz.underlying22 rfl rfl ?_
  refine R.mvE rfl (by conv => lhs; whnf) ?_
  refine TL.nil (Post.thnN ?_)
  refine T.block ?_
  refine T.loop (ι := Nat × MapL × Own × Array MapEntry × Nat) (fun ⟨k, m, rows, es, ck⟩ H' L' ds' => k ≤ xs.length ∧ ds' = [] ∧ L' = [(b6, .map es ck)] :: rows ∧ MapIs .i64 es m ∧ F2 (intE .i64) 3 H' (tosN xs k) m rows ∧ (m.map Prod.fst).Nodup ∧ (∀ j, j ∉ m.map Prod.fst → tosN xs k j = [])) (fun ⟨k, m, rows, es, ck⟩ => [(3, .map (some b6)), (7, .slice A xs.length c), (8, .int .i64 xs.length), (9, .int .i64 k)]) (fun ⟨k, m, rows, es, ck⟩ => xs.length - k) ((0, [], [], #[], 0)) ?_ ?_ ?_
  · exact ⟨Nat.zero_le _, rfl, rfl, mapIs_nil _, trivial, List.nodup_nil, fun j _ => tosN_zero xs j⟩
  · exact ⟨rfl, rfl, rfl, rfl, trivial⟩
  · intro ⟨k, m, rows, es, ck⟩ σ0 H_0 L_0 ds_0 s_0 hI_0
    obtain ⟨hk, rfl, rfl, hm, hf, hnd, hno⟩ := hI_0
    refine T.seq ?_
    refine T.region ?_
    refine R.lss rfl rfl rfl ?_
    refine TL.nil (Post.thnN ?_)
    refine T.seq ?_
    refine T.condD rfl (fun c10 => ?_) (fun c10 => ?_)
    · have hlt : k < xs.length := by omega
      obtain ⟨y, hy⟩ := getk hlt
      refine T.skip (Post.thnN ?_)
      refine T.seq ?_
      refine T.block ?_
      refine T.seq ?_
      refine T.region ?_
      obtain ⟨b11, o11, i11, e11⟩ := (hr.mono s_0).elem (hy)
      refine R.ixp Tryz.underlying22 Tryz.sizeOf45 rfl rfl rfl (by omega) i11 ?_
      refine R.ldP Tryz.isAgg45 Tryz.sizeOf45 rfl rfl (e11) ?_
      refine R.alloc Tryz.zeroValue45 rfl ?_
      intro b5
      refine R.stA (old := [.int .i64 0, .int .i64 0]) Tryz.sizeOf45 rfl rfl rfl rfl rfl (by intro v hv; simp at hv; rcases hv with rfl | rfl <;> rfl) .hd ?_
      refine TL.nil (Post.thnN ?_)
      refine T.shut .hd ?_
      intro H5 s5 q5
      have h5 : H5 b5 = some (.cells #[.int .i64 y.1, .int .i64 y.2] 45) := shut1 q5
      obtain ⟨cr, RR, hpr, hoc, hput⟩ := F2.take y.1 (hf.mono s5) hnd (hno y.1)
      refine T.permL (L' := cr :: [(b6, .map es ck)] :: RR) (perm_take1 hpr) ?_
      have hbl := tosN_len xs k y.1
      refine T.draw Tryz_mixed (by kernel_rfl) ?_
      refine Plan.v 0 [1, 2, 3, 4, 5, 6, 7, 8, 9, 10, 11] (by kernel_rfl) (by kernel_rfl) (by kernel_rfl) (by kernel_rfl) rfl (fun _ _ h_ => R.mvE rfl (by conv => lhs; whnf) (TL.nil h_)) ?_
      refine Plan.v 1 [2, 3, 4, 5, 6, 7, 8, 9, 10, 11] (by kernel_rfl) (by kernel_rfl) (by kernel_rfl) (by kernel_rfl) rfl (fun _ _ h_ => R.fldA Tryz.underlying45 rfl Tryz.sizeOf3 (by decide) rfl rfl (TL.nil h_)) ?_
      refine Plan.v 2 [3, 4, 5, 6, 7, 8, 9, 10, 11] (by kernel_rfl) (by kernel_rfl) (by kernel_rfl) (by kernel_rfl) rfl (fun _ _ h_ => R.ldH Tryz.isAgg3 rfl rfl (h5) rfl (TL.nil h_)) ?_
      refine Plan.v 3 [4, 5, 6, 7, 8, 9, 10, 11] (by kernel_rfl) (by kernel_rfl) (by kernel_rfl) (by kernel_rfl) rfl (fun _ _ h_ => R.mvE rfl (by conv => lhs; whnf) (TL.nil h_)) ?_
      refine Plan.v 4 [5, 6, 7, 8, 9, 10, 11] (by kernel_rfl) (by kernel_rfl) (by kernel_rfl) (by kernel_rfl) rfl (fun _ _ h_ => R.fldA Tryz.underlying45 rfl Tryz.sizeOf3 (by decide) rfl rfl (TL.nil h_)) ?_
      refine Plan.v 5 [6, 7, 8, 9, 10, 11] (by kernel_rfl) (by kernel_rfl) (by kernel_rfl) (by kernel_rfl) rfl (fun _ _ h_ => R.ldH Tryz.isAgg3 rfl rfl (h5) rfl (TL.nil h_)) ?_
      refine Plan.v 7 [6, 8, 9, 10, 11] (by kernel_rfl) (by kernel_rfl) (by kernel_rfl) (by kernel_rfl) rfl (fun _ _ h_ => R.fldA Tryz.underlying45 rfl Tryz.sizeOf3 (by decide) rfl rfl (TL.nil h_)) ?_
      refine Plan.v 8 [6, 9, 10, 11] (by kernel_rfl) (by kernel_rfl) (by kernel_rfl) (by kernel_rfl) rfl (fun _ _ h_ => R.ldH Tryz.isAgg3 rfl rfl (h5) rfl (TL.nil h_)) ?_
      refine Plan.s2 6 9 [9, 10, 11] [6, 10, 11] (by kernel_rfl) (by kernel_rfl) (by kernel_rfl) rfl rfl ?_ ?_
      · refine R.lku Tryz.underlying90 Tryz.underlying3 Tryz.zeroValue24 rfl rfl rfl (by first | exact .hd | exact .tl .hd | exact .tl (.tl .hd) | exact .tl (.tl (.tl .hd)) | exact .tl (.tl (.tl (.tl .hd))) | exact .tl (.tl (.tl (.tl (.tl .hd)))) | exact .tl (.tl (.tl (.tl (.tl (.tl .hd))))) | exact .tl (.tl (.tl (.tl (.tl (.tl (.tl .hd)))))) | exact .tl (.tl (.tl (.tl (.tl (.tl (.tl (.tl .hd))))))) | exact .tl (.tl (.tl (.tl (.tl (.tl (.tl (.tl (.tl .hd))))))))) hm ?_
        refine TL.nil (Plan.e1 (HLe.refl _) ?_)
        refine Plan.s1 9 [10, 11] (by kernel_rfl) (by kernel_rfl) rfl ?_
        refine R.bs rfl (run_buildSlice1 Tryz.underlying24 Tryz.sizeOf3 Tryz.zeroValue3 rfl rfl) ?_
        intro b22
        refine TL.nil (Plan.e1 (HLe.refl _) ?_)
        refine Plan.s1 10 [11] (by kernel_rfl) (by kernel_rfl) rfl ?_
        refine R.app (ys := [y.2]) Tryz_ty24 rfl rfl rfl hoc (.tl .hd) (Src.lit (vs := [.int .i64 y.2]) (by first | exact .hd | exact .tl .hd | exact .tl (.tl .hd) | exact .tl (.tl (.tl .hd)) | exact .tl (.tl (.tl (.tl .hd))) | exact .tl (.tl (.tl (.tl (.tl .hd)))) | exact .tl (.tl (.tl (.tl (.tl (.tl .hd))))) | exact .tl (.tl (.tl (.tl (.tl (.tl (.tl .hd)))))) | exact .tl (.tl (.tl (.tl (.tl (.tl (.tl (.tl .hd))))))) | exact .tl (.tl (.tl (.tl (.tl (.tl (.tl (.tl (.tl .hd)))))))))) ⟨[.int .i64 y.2], [], rfl, rfl, rfl⟩ (by first | omega | (simp; omega)) (by first | omega | (simp; omega)) ?_
        intro v23 c23 w23
        refine TL.del (.tl .hd) ?_
        refine TL.nil (Plan.e1 (HLe.refl _) ?_)
        refine Plan.s1 11 [] (by kernel_rfl) (by kernel_rfl) rfl ?_
        refine R.mup Tryz.underlying90 Tryz.underlying3 rfl rfl rfl rfl (.tl .hd) hm ?_
        intro es24 ck24 i24
        refine TL.nil (Plan.e0 (HLe.refl _) ?_)
        refine Plan.done (Post.blkN ?_)
        refine id (Post.thnN ?_)
        obtain ⟨rowsX, hfX, hpX⟩ := hput H5 v23 c23 _ (HLe.refl _) w23
        refine T.permL (L' := [(b6, .map es24 ck24)] :: rowsX) (perm_put1 hpX) ?_
        refine T.region ?_
        refine R.addI rfl rfl rfl (by omega) ?_
        refine R.mvE rfl (by conv => lhs; whnf) ?_
        refine TL.nil (Post.thnN ?_)
        -- round's end, way y0
        refine ⟨(k + 1, mput m y.1 v23, rowsX, es24, ck24), s_0.trans s5, ⟨by show k + 1 ≤ _; omega, rfl, rfl, i24, by rw [← tosN_snoc hy]; exact hfX, mput_nodup _ _ _ hnd, fun j hj => ?_⟩, by show xs.length - (k + 1) < xs.length - k; omega, ⟨rfl, rfl, rfl, rfl, trivial⟩⟩
        have h9 : j ≠ y.1 ∧ j ∉ m.map Prod.fst := ⟨fun e => hj ((mput_keys _ _ _ _).2 (.inl e)), fun e => hj ((mput_keys _ _ _ _).2 (.inr e))⟩
        rw [← congrFun (tosN_snoc hy) j, if_neg h9.1]
        exact hno j h9.2
      · refine R.bs rfl (run_buildSlice1 Tryz.underlying24 Tryz.sizeOf3 Tryz.zeroValue3 rfl rfl) ?_
        intro b22
        refine TL.nil (Plan.e1 (HLe.refl _) ?_)
        refine Plan.s1 6 [10, 11] (by kernel_rfl) (by kernel_rfl) rfl ?_
        refine R.lku Tryz.underlying90 Tryz.underlying3 Tryz.zeroValue24 rfl rfl rfl (by first | exact .hd | exact .tl .hd | exact .tl (.tl .hd) | exact .tl (.tl (.tl .hd)) | exact .tl (.tl (.tl (.tl .hd))) | exact .tl (.tl (.tl (.tl (.tl .hd)))) | exact .tl (.tl (.tl (.tl (.tl (.tl .hd))))) | exact .tl (.tl (.tl (.tl (.tl (.tl (.tl .hd)))))) | exact .tl (.tl (.tl (.tl (.tl (.tl (.tl (.tl .hd))))))) | exact .tl (.tl (.tl (.tl (.tl (.tl (.tl (.tl (.tl .hd))))))))) hm ?_
        refine TL.nil (Plan.e1 (HLe.refl _) ?_)
        refine Plan.s1 10 [11] (by kernel_rfl) (by kernel_rfl) rfl ?_
        refine R.app (ys := [y.2]) Tryz_ty24 rfl rfl rfl hoc (.tl .hd) (Src.lit (vs := [.int .i64 y.2]) (by first | exact .hd | exact .tl .hd | exact .tl (.tl .hd) | exact .tl (.tl (.tl .hd)) | exact .tl (.tl (.tl (.tl .hd))) | exact .tl (.tl (.tl (.tl (.tl .hd)))) | exact .tl (.tl (.tl (.tl (.tl (.tl .hd))))) | exact .tl (.tl (.tl (.tl (.tl (.tl (.tl .hd)))))) | exact .tl (.tl (.tl (.tl (.tl (.tl (.tl (.tl .hd))))))) | exact .tl (.tl (.tl (.tl (.tl (.tl (.tl (.tl (.tl .hd)))))))))) ⟨[.int .i64 y.2], [], rfl, rfl, rfl⟩ (by first | omega | (simp; omega)) (by first | omega | (simp; omega)) ?_
        intro v23 c23 w23
        refine TL.del (.tl .hd) ?_
        refine TL.nil (Plan.e1 (HLe.refl _) ?_)
        refine Plan.s1 11 [] (by kernel_rfl) (by kernel_rfl) rfl ?_
        refine R.mup Tryz.underlying90 Tryz.underlying3 rfl rfl rfl rfl (.tl .hd) hm ?_
        intro es24 ck24 i24
        refine TL.nil (Plan.e0 (HLe.refl _) ?_)
        refine Plan.done (Post.blkN ?_)
        refine id (Post.thnN ?_)
        obtain ⟨rowsX, hfX, hpX⟩ := hput H5 v23 c23 _ (HLe.refl _) w23
        refine T.permL (L' := [(b6, .map es24 ck24)] :: rowsX) (perm_put1 hpX) ?_
        refine T.region ?_
        refine R.addI rfl rfl rfl (by omega) ?_
        refine R.mvE rfl (by conv => lhs; whnf) ?_
        refine TL.nil (Post.thnN ?_)
        -- round's end, way y1
        refine ⟨(k + 1, mput m y.1 v23, rowsX, es24, ck24), s_0.trans s5, ⟨by show k + 1 ≤ _; omega, rfl, rfl, i24, by rw [← tosN_snoc hy]; exact hfX, mput_nodup _ _ _ hnd, fun j hj => ?_⟩, by show xs.length - (k + 1) < xs.length - k; omega, ⟨rfl, rfl, rfl, rfl, trivial⟩⟩
        have h9 : j ≠ y.1 ∧ j ∉ m.map Prod.fst := ⟨fun e => hj ((mput_keys _ _ _ _).2 (.inl e)), fun e => hj ((mput_keys _ _ _ _).2 (.inr e))⟩
        rw [← congrFun (tosN_snoc hy) j, if_neg h9.1]
        exact hno j h9.2
    · refine T.exit (Post.thnE (Post.thnE (Post.blkX ?_)))
      refine id (Post.thnN ?_)
      refine T.seq ?_
      have hkx : k = xs.length := by omega
      refine T.permL (L' := [List.flatten ([(b6, .map es ck)] :: rows)]) perm_one ?_
      refine T.shut .hd ?_
      intro HF sF qF
      have hmF : HF b6 = some (.map es ck) := qF (b6, .map es ck) (by simp)
      have hAt : ∀ j, RdS (intE .i64) HF ((mget m j).getD (.slice none 0 0)) (toL xs j) := fun j => by
        rw [← tosN_all hcb j, ← hkx]
        exact hf.read j sF (fun q hq => qF q (by simp only [List.flatten_cons]; exact List.mem_append_right _ hq)) (hno j)
      refine T.region ?_
      refine R.mvE rfl (by conv => lhs; whnf) ?_
      refine R.asE rfl (by conv => lhs; whnf) ?_
      refine TL.nil (Post.thnN ?_)
      refine T.ret ?_
      -- way n
      exact fin1 rfl rfl ⟨rfl, b6, es, ck, m, rfl, hmF, hm, hAt⟩


set_option maxHeartbeats 1600000 in
theorem compactI_c (H : Heap) (v : Value) (xs : List Int) (ch : Chunk) (ho : OwnS (intE .i64) 3 H v xs ch) : Fc Tryz.prog (fnv 133) [v] H [ch] (fun v' H' L' => ∃ c', L' = [c'] ∧ OwnS (intE .i64) 3 H' v' (compactI xs) c') := by
  refine Fc.of_body (N := 61) Tryz.func133 rfl (by kernel_rfl) rfl rfl ?_
  intro w0
  obtain ⟨A, cap, rfl, hc1, hc2⟩ := ho.shape
  refine T.seq ?_
  refine T.region ?_
  refine R.asE rfl (by conv => lhs; whnf) ?_
  refine TL.nil (Post.thnN ?_)
  refine T.seq ?_
  refine T.seq ?_
  refine T.region ?_
  refine R.mvE rfl (by conv => lhs; whnf) ?_
  refine R.len Tryz.underlying24 rfl rfl ?_
  refine R.lss rfl rfl rfl ?_
  refine TL.nil (Post.thnN ?_)
  refine T.condD rfl (fun c8 => ?_) (fun c8 => ?_)
  · refine T.seq ?_
    refine T.region ?_
    refine R.mvE rfl (by conv => lhs; whnf) ?_
    refine R.asE rfl (by conv => lhs; whnf) ?_
    refine TL.nil (Post.thnN ?_)
    refine T.ret (Post.thnR ?_)
    -- way y
    exact fin1L [ch] rfl rfl (List.Sublist.refl _) ⟨_, rfl, by rw [compactI_short (by omega)]; exact ho⟩
  · refine T.skip (Post.thnN ?_)
    refine T.seq ?_
    refine T.seq ?_
    refine T.region ?_
    refine R.asE rfl (by conv => lhs; whnf) ?_
    refine TL.nil (Post.thnN ?_)
    refine T.block ?_
    refine T.loop (ι := Nat) (fun k H' L' ds' => (1 ≤ k ∧ k ≤ xs.length) ∧ L' = [ch] ∧ ds' = [] ∧ compactI (xs.take k) = xs.take k) (fun k => [(0, .slice A xs.length cap), (3, .int .i64 k)]) (fun k => xs.length - k) (1) ?_ ?_ ?_
    · exact ⟨⟨by omega, by omega⟩, rfl, rfl, compactI_one xs⟩
    · exact ⟨rfl, rfl, trivial⟩
    · intro k σ0 H_0 L_0 ds_0 s_0 hI_0
      obtain ⟨hk, rfl, rfl, hco⟩ := hI_0
      have ho := ho.mono s_0
      refine T.seq ?_
      refine T.seq ?_
      refine T.region ?_
      refine R.mvE rfl (by conv => lhs; whnf) ?_
      refine R.mvE rfl (by conv => lhs; whnf) ?_
      refine R.len Tryz.underlying24 rfl rfl ?_
      refine R.lss rfl rfl rfl ?_
      refine TL.nil (Post.thnN ?_)
      refine T.condD rfl (fun c13 => ?_) (fun c13 => ?_)
      · have hlt : k < xs.length := by omega
        obtain ⟨y, hy⟩ := getk hlt
        obtain ⟨z, hz⟩ := getk (xs := xs) (k := k - 1) (by omega)
        have hy1 : xs[k - 1 + 1]? = some y := by rw [show k - 1 + 1 = k by omega]; exact hy
        have hk2 : k + 1 = (k - 1) + 2 := by omega
        obtain ⟨b1, k1, cs1, l1, hce1, hve1, ix1, hR1, hcs1⟩ := ho.elem hy
        obtain rfl : l1 = [.int .i64 y] := hR1
        obtain ⟨b2, k2, cs2, l2, hce2, hve2, ix2, hR2, hcs2⟩ := ho.elem (show xs[((k : Int) - 1).toNat]? = some z by rw [show ((k : Int) - 1).toNat = k - 1 by omega]; exact hz)
        obtain rfl : l2 = [.int .i64 z] := hR2
        subst hce1
        obtain ⟨rfl, rfl⟩ : b1 = b2 ∧ cs1 = cs2 := by simpa using hce2
        refine T.skip (Post.thnN ?_)
        refine T.seq ?_
        refine T.block ?_
        refine T.seq ?_
        refine T.draw Tryz_mixed (by kernel_rfl) ?_
        refine Plan.v 0 [1, 2, 3, 4, 5, 6, 7, 8, 9] (by kernel_rfl) (by kernel_rfl) (by kernel_rfl) (by kernel_rfl) rfl (fun _ _ h_ => R.mvE rfl (by conv => lhs; whnf) (TL.nil h_)) ?_
        refine Plan.v 1 [2, 3, 4, 5, 6, 7, 8, 9] (by kernel_rfl) (by kernel_rfl) (by kernel_rfl) (by kernel_rfl) rfl (fun _ _ h_ => R.mvE rfl (by conv => lhs; whnf) (TL.nil h_)) ?_
        refine Plan.v 4 [2, 3, 5, 6, 7, 8, 9] (by kernel_rfl) (by kernel_rfl) (by kernel_rfl) (by kernel_rfl) rfl (fun _ _ h_ => R.mvE rfl (by conv => lhs; whnf) (TL.nil h_)) ?_
        refine Plan.v 5 [2, 3, 6, 7, 8, 9] (by kernel_rfl) (by kernel_rfl) (by kernel_rfl) (by kernel_rfl) rfl (fun _ _ h_ => R.mvE rfl (by conv => lhs; whnf) (TL.nil h_)) ?_
        refine Plan.v 6 [2, 3, 7, 8, 9] (by kernel_rfl) (by kernel_rfl) (by kernel_rfl) (by kernel_rfl) rfl (fun _ _ h_ => R.subI rfl rfl rfl (by omega) (TL.nil h_)) ?_
        refine Plan.s2 2 7 [3, 7, 8, 9] [2, 3, 8, 9] (by kernel_rfl) (by kernel_rfl) (by kernel_rfl) rfl rfl ?_ ?_
        · refine R.ixp Tryz.underlying24 Tryz.sizeOf3 rfl rfl rfl (by omega) ix1 ?_
          refine TL.nil (Plan.e1 (HLe.refl _) ?_)
          refine Plan.s2 3 7 [7, 8, 9] [3, 8, 9] (by kernel_rfl) (by kernel_rfl) (by kernel_rfl) rfl rfl ?_ ?_
          · refine R.ld Tryz.isAgg3 rfl rfl .hd (hcs1 0 _ rfl) ?_
            refine TL.nil (Plan.e1 (HLe.refl _) ?_)
            refine Plan.s1 7 [8, 9] (by kernel_rfl) (by kernel_rfl) rfl ?_
            refine R.ixp Tryz.underlying24 Tryz.sizeOf3 rfl rfl rfl (by omega) ix2 ?_
            refine TL.nil (Plan.e1 (HLe.refl _) ?_)
            refine Plan.s1 8 [9] (by kernel_rfl) (by kernel_rfl) rfl ?_
            refine R.ld Tryz.isAgg3 rfl rfl .hd (hcs2 0 _ rfl) ?_
            refine TL.nil (Plan.e1 (HLe.refl _) ?_)
            refine Plan.v 9 [] (by kernel_rfl) (by kernel_rfl) (by kernel_rfl) (by kernel_rfl) rfl (fun _ _ h_ => R.eql rfl rfl rfl (TL.nil h_)) ?_
            refine Plan.done (Post.thnN ?_)
            refine T.condD rfl (fun c25 => ?_) (fun c25 => ?_)
            · refine T.seq ?_
              refine T.region ?_
              refine R.mvE rfl (by conv => lhs; whnf) ?_
              refine R.mvE rfl (by conv => lhs; whnf) ?_
              refine R.sL Tryz.underlying24 Tryz.sizeOf3 rfl rfl rfl (by omega) (by omega) ?_
              refine R.asE rfl (by conv => lhs; whnf) ?_
              refine TL.nil (Post.thnN ?_)
              refine T.seq ?_
              refine T.seq ?_
              refine T.region ?_
              refine R.asE rfl (by conv => lhs; whnf) ?_
              refine TL.nil (Post.thnN ?_)
              refine T.block ?_
              refine T.loop (ι := Nat × Nat × List Int × Chunk) (fun ⟨i, j, cur, ch2⟩ H' L' ds' => (1 ≤ j ∧ k + j ≤ xs.length ∧ i + 1 ≤ k + j ∧ cur.length = xs.length) ∧ L' = [ch2] ∧ ds' = [] ∧ OwnS (intE .i64) 3 H' (.slice A cur.length cap) cur ch2 ∧ cur.take i = compactI (xs.take (k + j)) ∧ (∀ q, i ≤ q → cur[q]? = xs[q]?)) (fun ⟨i, j, cur, ch2⟩ => [(0, .slice A xs.length cap), (3, .int .i64 i), (4, slcV (.slice A xs.length cap) k xs.length cap 1), (5, .int .i64 j)]) (fun ⟨i, j, cur, ch2⟩ => xs.length - (k + j)) ((k, 1, xs, [(b1, .cells cs1 3)])) ?_ ?_ ?_
              · exact ⟨⟨by omega, by omega, by omega, rfl⟩, rfl, rfl, ho, by rw [hk2, compactI_take hz hy1, if_pos c25, show k - 1 + 1 = k by omega, hco], fun q hq => rfl⟩
              · exact ⟨rfl, rfl, rfl, rfl, trivial⟩
              · intro ⟨i, j, cur, ch2⟩ σ1 H_1 L_1 ds_1 s_1 hI_1
                obtain ⟨⟨hj1, hj2, hij, hcl⟩, rfl, rfl, hw, htk, hrest⟩ := hI_1
                refine T.seq ?_
                refine T.seq ?_
                refine T.region ?_
                refine R.mvE rfl (by conv => lhs; whnf) ?_
                refine R.mvE rfl (by conv => lhs; whnf) ?_
                refine R.len Tryz.underlying24 rfl rfl ?_
                refine R.lss rfl rfl rfl ?_
                refine TL.nil (Post.thnN ?_)
                refine T.condD rfl (fun c32 => ?_) (fun c32 => ?_)
                · have hlt2 : k + j < xs.length := by omega
                  obtain ⟨y2, hy2⟩ := getk hlt2
                  obtain ⟨z2, hz2⟩ := getk (xs := xs) (k := k + j - 1) (by omega)
                  have hkj : k + (j + 1) = (k + j - 1) + 2 := by omega
                  have hkj1 : k + j - 1 + 1 = k + j := by omega
                  have hy2' : xs[k + j - 1 + 1]? = some y2 := by rw [hkj1]; exact hy2
                  have hcy : cur[k + j]? = some y2 := by rw [hrest _ (by omega)]; exact hy2
                  have hcz : cur[k + ((j : Int) - 1).toNat]? = some z2 := by rw [show k + ((j : Int) - 1).toNat = k + j - 1 by omega, hrest _ (by omega)]; exact hz2
                  obtain ⟨yi, hci⟩ := getk (xs := cur) (k := i) (by omega)
                  obtain ⟨b3, k3, cs3, l3, hce3, hve3, ix3, hR3, hcs3⟩ := hw.elem hcy
                  obtain rfl : l3 = [.int .i64 y2] := hR3
                  obtain ⟨b4, k4, cs4, l4, hce4, hve4, ix4, hR4, hcs4⟩ := hw.elem hcz
                  obtain rfl : l4 = [.int .i64 z2] := hR4
                  obtain ⟨b5, k5, cs5, l5, hce5, hve5, ix5, hR5, hcs5⟩ := hw.elem hci
                  subst hce3
                  obtain ⟨rfl, rfl⟩ : b3 = b4 ∧ cs3 = cs4 := by simpa using hce4
                  obtain ⟨rfl, rfl⟩ : b3 = b5 ∧ cs3 = cs5 := by simpa using hce5
                  obtain rfl : cap = k3 := by injection hve3
                  rw [hcl] at hve3
                  have ix3' := ix_off (sz := 1) (k := k) (i := j) hve3 (by omega) (by omega) (by omega)
                  have ix4' := ix_off (sz := 1) (k := k) (i := ((j : Int) - 1).toNat) hve3 (by omega) (by omega) (by omega)
                  refine T.skip (Post.thnN ?_)
                  refine T.seq ?_
                  refine T.block ?_
                  refine T.seq ?_
                  refine T.draw Tryz_mixed (by kernel_rfl) ?_
                  refine Plan.v 0 [1, 2, 3, 4, 5, 6, 7, 8, 9] (by kernel_rfl) (by kernel_rfl) (by kernel_rfl) (by kernel_rfl) rfl (fun _ _ h_ => R.mvE rfl (by conv => lhs; whnf) (TL.nil h_)) ?_
                  refine Plan.v 1 [2, 3, 4, 5, 6, 7, 8, 9] (by kernel_rfl) (by kernel_rfl) (by kernel_rfl) (by kernel_rfl) rfl (fun _ _ h_ => R.mvE rfl (by conv => lhs; whnf) (TL.nil h_)) ?_
                  refine Plan.v 4 [2, 3, 5, 6, 7, 8, 9] (by kernel_rfl) (by kernel_rfl) (by kernel_rfl) (by kernel_rfl) rfl (fun _ _ h_ => R.mvE rfl (by conv => lhs; whnf) (TL.nil h_)) ?_
                  refine Plan.v 5 [2, 3, 6, 7, 8, 9] (by kernel_rfl) (by kernel_rfl) (by kernel_rfl) (by kernel_rfl) rfl (fun _ _ h_ => R.mvE rfl (by conv => lhs; whnf) (TL.nil h_)) ?_
                  refine Plan.v 6 [2, 3, 7, 8, 9] (by kernel_rfl) (by kernel_rfl) (by kernel_rfl) (by kernel_rfl) rfl (fun _ _ h_ => R.subI rfl rfl rfl (by omega) (TL.nil h_)) ?_
                  refine Plan.s2 2 7 [3, 7, 8, 9] [2, 3, 8, 9] (by kernel_rfl) (by kernel_rfl) (by kernel_rfl) rfl rfl ?_ ?_
                  · refine R.ixp Tryz.underlying24 Tryz.sizeOf3 rfl rfl rfl (by omega) ix3' ?_
                    refine TL.nil (Plan.e1 (HLe.refl _) ?_)
                    refine Plan.s2 3 7 [7, 8, 9] [3, 8, 9] (by kernel_rfl) (by kernel_rfl) (by kernel_rfl) rfl rfl ?_ ?_
                    · refine R.ld Tryz.isAgg3 rfl rfl .hd (hcs3 0 _ rfl) ?_
                      refine TL.nil (Plan.e1 (HLe.refl _) ?_)
                      refine Plan.s1 7 [8, 9] (by kernel_rfl) (by kernel_rfl) rfl ?_
                      refine R.ixp Tryz.underlying24 Tryz.sizeOf3 rfl rfl rfl (by omega) ix4' ?_
                      refine TL.nil (Plan.e1 (HLe.refl _) ?_)
                      refine Plan.s1 8 [9] (by kernel_rfl) (by kernel_rfl) rfl ?_
                      refine R.ld Tryz.isAgg3 rfl rfl .hd (hcs4 0 _ rfl) ?_
                      refine TL.nil (Plan.e1 (HLe.refl _) ?_)
                      refine Plan.v 9 [] (by kernel_rfl) (by kernel_rfl) (by kernel_rfl) (by kernel_rfl) rfl (fun _ _ h_ => R.neq rfl rfl rfl (TL.nil h_)) ?_
                      refine Plan.done (Post.thnN ?_)
                      refine T.condD rfl (fun c44 => ?_) (fun c44 => ?_)
                      · refine T.seq ?_
                        refine T.region ?_
                        refine R.mvE rfl (by conv => lhs; whnf) ?_
                        refine R.mvE rfl (by conv => lhs; whnf) ?_
                        refine R.mvE rfl (by conv => lhs; whnf) ?_
                        refine R.mvE rfl (by conv => lhs; whnf) ?_
                        refine R.ixp Tryz.underlying24 Tryz.sizeOf3 rfl rfl rfl (by omega) ix3' ?_
                        refine R.ld Tryz.isAgg3 rfl rfl .hd (hcs3 0 _ rfl) ?_
                        refine R.ixp Tryz.underlying24 Tryz.sizeOf3 rfl rfl rfl (by omega) (by rw [← hcl]; exact ix5) ?_
                        refine R.stE (y := y2) Tryz.sizeOf3 rfl rfl hw .hd ix5 rfl rfl rfl ?_
                        intro c51 w51
                        refine TL.nil (Post.thnN ?_)
                        refine T.region ?_
                        refine R.mvE rfl (by conv => lhs; whnf) ?_
                        refine R.addI rfl rfl rfl (by omega) ?_
                        refine R.asE rfl (by conv => lhs; whnf) ?_
                        refine TL.nil (Post.blkN ?_)
                        refine id (Post.thnN ?_)
                        refine T.region ?_
                        refine R.mvE rfl (by conv => lhs; whnf) ?_
                        refine R.addI rfl rfl rfl (by omega) ?_
                        refine R.asE rfl (by conv => lhs; whnf) ?_
                        refine TL.nil (Post.thnN ?_)
                        -- round's end, way ny00yy00y
                        exact ⟨(i + 1, j + 1, cur.set i y2, c51), s_1, ⟨⟨by omega, by show k + (j + 1) ≤ _; omega, by show i + 1 + 1 ≤ k + (j + 1); omega, by rw [List.length_set]; exact hcl⟩, rfl, rfl, by rw [List.length_set]; exact w51, by rw [set_take (by omega), htk, hkj, compactI_take hz2 hy2', if_neg c44, hkj1], fun q hq => by rw [List.getElem?_set_ne (by omega)]; exact hrest q (by omega)⟩, by show xs.length - (k + (j + 1)) < xs.length - (k + j); omega, ⟨rfl, rfl, rfl, rfl, trivial⟩⟩
                      · refine T.skip (Post.blkN ?_)
                        refine id (Post.thnN ?_)
                        refine T.region ?_
                        refine R.mvE rfl (by conv => lhs; whnf) ?_
                        refine R.addI rfl rfl rfl (by omega) ?_
                        refine R.asE rfl (by conv => lhs; whnf) ?_
                        refine TL.nil (Post.thnN ?_)
                        -- round's end, way ny00yy00n
                        exact ⟨(i, j + 1, cur, [(b3, .cells cs3 3)]), s_1, ⟨⟨by omega, by show k + (j + 1) ≤ _; omega, by show i + 1 ≤ k + (j + 1); omega, hcl⟩, rfl, rfl, hw, by rw [htk, hkj, compactI_take hz2 hy2', if_pos (Decidable.of_not_not c44), hkj1], hrest⟩, by show xs.length - (k + (j + 1)) < xs.length - (k + j); omega, ⟨rfl, rfl, rfl, rfl, trivial⟩⟩
                    · refine R.ixp Tryz.underlying24 Tryz.sizeOf3 rfl rfl rfl (by omega) ix4' ?_
                      refine TL.nil (Plan.e1 (HLe.refl _) ?_)
                      refine Plan.s2 3 8 [8, 9] [3, 9] (by kernel_rfl) (by kernel_rfl) (by kernel_rfl) rfl rfl ?_ ?_
                      · refine R.ld Tryz.isAgg3 rfl rfl .hd (hcs3 0 _ rfl) ?_
                        refine TL.nil (Plan.e1 (HLe.refl _) ?_)
                        refine Plan.s1 8 [9] (by kernel_rfl) (by kernel_rfl) rfl ?_
                        refine R.ld Tryz.isAgg3 rfl rfl .hd (hcs4 0 _ rfl) ?_
                        refine TL.nil (Plan.e1 (HLe.refl _) ?_)
                        refine Plan.v 9 [] (by kernel_rfl) (by kernel_rfl) (by kernel_rfl) (by kernel_rfl) rfl (fun _ _ h_ => R.neq rfl rfl rfl (TL.nil h_)) ?_
                        refine Plan.done (Post.thnN ?_)
                        refine T.condD rfl (fun c44 => ?_) (fun c44 => ?_)
                        · refine T.seq ?_
                          refine T.region ?_
                          refine R.mvE rfl (by conv => lhs; whnf) ?_
                          refine R.mvE rfl (by conv => lhs; whnf) ?_
                          refine R.mvE rfl (by conv => lhs; whnf) ?_
                          refine R.mvE rfl (by conv => lhs; whnf) ?_
                          refine R.ixp Tryz.underlying24 Tryz.sizeOf3 rfl rfl rfl (by omega) ix3' ?_
                          refine R.ld Tryz.isAgg3 rfl rfl .hd (hcs3 0 _ rfl) ?_
                          refine R.ixp Tryz.underlying24 Tryz.sizeOf3 rfl rfl rfl (by omega) (by rw [← hcl]; exact ix5) ?_
                          refine R.stE (y := y2) Tryz.sizeOf3 rfl rfl hw .hd ix5 rfl rfl rfl ?_
                          intro c51 w51
                          refine TL.nil (Post.thnN ?_)
                          refine T.region ?_
                          refine R.mvE rfl (by conv => lhs; whnf) ?_
                          refine R.addI rfl rfl rfl (by omega) ?_
                          refine R.asE rfl (by conv => lhs; whnf) ?_
                          refine TL.nil (Post.blkN ?_)
                          refine id (Post.thnN ?_)
                          refine T.region ?_
                          refine R.mvE rfl (by conv => lhs; whnf) ?_
                          refine R.addI rfl rfl rfl (by omega) ?_
                          refine R.asE rfl (by conv => lhs; whnf) ?_
                          refine TL.nil (Post.thnN ?_)
                          -- round's end, way ny00yy010y
                          exact ⟨(i + 1, j + 1, cur.set i y2, c51), s_1, ⟨⟨by omega, by show k + (j + 1) ≤ _; omega, by show i + 1 + 1 ≤ k + (j + 1); omega, by rw [List.length_set]; exact hcl⟩, rfl, rfl, by rw [List.length_set]; exact w51, by rw [set_take (by omega), htk, hkj, compactI_take hz2 hy2', if_neg c44, hkj1], fun q hq => by rw [List.getElem?_set_ne (by omega)]; exact hrest q (by omega)⟩, by show xs.length - (k + (j + 1)) < xs.length - (k + j); omega, ⟨rfl, rfl, rfl, rfl, trivial⟩⟩
                        · refine T.skip (Post.blkN ?_)
                          refine id (Post.thnN ?_)
                          refine T.region ?_
                          refine R.mvE rfl (by conv => lhs; whnf) ?_
                          refine R.addI rfl rfl rfl (by omega) ?_
                          refine R.asE rfl (by conv => lhs; whnf) ?_
                          refine TL.nil (Post.thnN ?_)
                          -- round's end, way ny00yy010n
                          exact ⟨(i, j + 1, cur, [(b3, .cells cs3 3)]), s_1, ⟨⟨by omega, by show k + (j + 1) ≤ _; omega, by show i + 1 ≤ k + (j + 1); omega, hcl⟩, rfl, rfl, hw, by rw [htk, hkj, compactI_take hz2 hy2', if_pos (Decidable.of_not_not c44), hkj1], hrest⟩, by show xs.length - (k + (j + 1)) < xs.length - (k + j); omega, ⟨rfl, rfl, rfl, rfl, trivial⟩⟩
                      · refine R.ld Tryz.isAgg3 rfl rfl .hd (hcs4 0 _ rfl) ?_
                        refine TL.nil (Plan.e1 (HLe.refl _) ?_)
                        refine Plan.s1 3 [9] (by kernel_rfl) (by kernel_rfl) rfl ?_
                        refine R.ld Tryz.isAgg3 rfl rfl .hd (hcs3 0 _ rfl) ?_
                        refine TL.nil (Plan.e1 (HLe.refl _) ?_)
                        refine Plan.v 9 [] (by kernel_rfl) (by kernel_rfl) (by kernel_rfl) (by kernel_rfl) rfl (fun _ _ h_ => R.neq rfl rfl rfl (TL.nil h_)) ?_
                        refine Plan.done (Post.thnN ?_)
                        refine T.condD rfl (fun c44 => ?_) (fun c44 => ?_)
                        · refine T.seq ?_
                          refine T.region ?_
                          refine R.mvE rfl (by conv => lhs; whnf) ?_
                          refine R.mvE rfl (by conv => lhs; whnf) ?_
                          refine R.mvE rfl (by conv => lhs; whnf) ?_
                          refine R.mvE rfl (by conv => lhs; whnf) ?_
                          refine R.ixp Tryz.underlying24 Tryz.sizeOf3 rfl rfl rfl (by omega) ix3' ?_
                          refine R.ld Tryz.isAgg3 rfl rfl .hd (hcs3 0 _ rfl) ?_
                          refine R.ixp Tryz.underlying24 Tryz.sizeOf3 rfl rfl rfl (by omega) (by rw [← hcl]; exact ix5) ?_
                          refine R.stE (y := y2) Tryz.sizeOf3 rfl rfl hw .hd ix5 rfl rfl rfl ?_
                          intro c51 w51
                          refine TL.nil (Post.thnN ?_)
                          refine T.region ?_
                          refine R.mvE rfl (by conv => lhs; whnf) ?_
                          refine R.addI rfl rfl rfl (by omega) ?_
                          refine R.asE rfl (by conv => lhs; whnf) ?_
                          refine TL.nil (Post.blkN ?_)
                          refine id (Post.thnN ?_)
                          refine T.region ?_
                          refine R.mvE rfl (by conv => lhs; whnf) ?_
                          refine R.addI rfl rfl rfl (by omega) ?_
                          refine R.asE rfl (by conv => lhs; whnf) ?_
                          refine TL.nil (Post.thnN ?_)
                          -- round's end, way ny00yy011y
                          exact ⟨(i + 1, j + 1, cur.set i y2, c51), s_1, ⟨⟨by omega, by show k + (j + 1) ≤ _; omega, by show i + 1 + 1 ≤ k + (j + 1); omega, by rw [List.length_set]; exact hcl⟩, rfl, rfl, by rw [List.length_set]; exact w51, by rw [set_take (by omega), htk, hkj, compactI_take hz2 hy2', if_neg c44, hkj1], fun q hq => by rw [List.getElem?_set_ne (by omega)]; exact hrest q (by omega)⟩, by show xs.length - (k + (j + 1)) < xs.length - (k + j); omega, ⟨rfl, rfl, rfl, rfl, trivial⟩⟩
                        · refine T.skip (Post.blkN ?_)
                          refine id (Post.thnN ?_)
                          refine T.region ?_
                          refine R.mvE rfl (by conv => lhs; whnf) ?_
                          refine R.addI rfl rfl rfl (by omega) ?_
                          refine R.asE rfl (by conv => lhs; whnf) ?_
                          refine TL.nil (Post.thnN ?_)
                          -- round's end, way ny00yy011n
                          exact ⟨(i, j + 1, cur, [(b3, .cells cs3 3)]), s_1, ⟨⟨by omega, by show k + (j + 1) ≤ _; omega, by show i + 1 ≤ k + (j + 1); omega, hcl⟩, rfl, rfl, hw, by rw [htk, hkj, compactI_take hz2 hy2', if_pos (Decidable.of_not_not c44), hkj1], hrest⟩, by show xs.length - (k + (j + 1)) < xs.length - (k + j); omega, ⟨rfl, rfl, rfl, rfl, trivial⟩⟩
                  · refine R.ixp Tryz.underlying24 Tryz.sizeOf3 rfl rfl rfl (by omega) ix4' ?_
                    refine TL.nil (Plan.e1 (HLe.refl _) ?_)
                    refine Plan.s2 2 8 [3, 8, 9] [2, 3, 9] (by kernel_rfl) (by kernel_rfl) (by kernel_rfl) rfl rfl ?_ ?_
                    · refine R.ixp Tryz.underlying24 Tryz.sizeOf3 rfl rfl rfl (by omega) ix3' ?_
                      refine TL.nil (Plan.e1 (HLe.refl _) ?_)
                      refine Plan.s2 3 8 [8, 9] [3, 9] (by kernel_rfl) (by kernel_rfl) (by kernel_rfl) rfl rfl ?_ ?_
                      · refine R.ld Tryz.isAgg3 rfl rfl .hd (hcs3 0 _ rfl) ?_
                        refine TL.nil (Plan.e1 (HLe.refl _) ?_)
                        refine Plan.s1 8 [9] (by kernel_rfl) (by kernel_rfl) rfl ?_
                        refine R.ld Tryz.isAgg3 rfl rfl .hd (hcs4 0 _ rfl) ?_
                        refine TL.nil (Plan.e1 (HLe.refl _) ?_)
                        refine Plan.v 9 [] (by kernel_rfl) (by kernel_rfl) (by kernel_rfl) (by kernel_rfl) rfl (fun _ _ h_ => R.neq rfl rfl rfl (TL.nil h_)) ?_
                        refine Plan.done (Post.thnN ?_)
                        refine T.condD rfl (fun c44 => ?_) (fun c44 => ?_)
                        · refine T.seq ?_
                          refine T.region ?_
                          refine R.mvE rfl (by conv => lhs; whnf) ?_
                          refine R.mvE rfl (by conv => lhs; whnf) ?_
                          refine R.mvE rfl (by conv => lhs; whnf) ?_
                          refine R.mvE rfl (by conv => lhs; whnf) ?_
                          refine R.ixp Tryz.underlying24 Tryz.sizeOf3 rfl rfl rfl (by omega) ix3' ?_
                          refine R.ld Tryz.isAgg3 rfl rfl .hd (hcs3 0 _ rfl) ?_
                          refine R.ixp Tryz.underlying24 Tryz.sizeOf3 rfl rfl rfl (by omega) (by rw [← hcl]; exact ix5) ?_
                          refine R.stE (y := y2) Tryz.sizeOf3 rfl rfl hw .hd ix5 rfl rfl rfl ?_
                          intro c51 w51
                          refine TL.nil (Post.thnN ?_)
                          refine T.region ?_
                          refine R.mvE rfl (by conv => lhs; whnf) ?_
                          refine R.addI rfl rfl rfl (by omega) ?_
                          refine R.asE rfl (by conv => lhs; whnf) ?_
                          refine TL.nil (Post.blkN ?_)
                          refine id (Post.thnN ?_)
                          refine T.region ?_
                          refine R.mvE rfl (by conv => lhs; whnf) ?_
                          refine R.addI rfl rfl rfl (by omega) ?_
                          refine R.asE rfl (by conv => lhs; whnf) ?_
                          refine TL.nil (Post.thnN ?_)
                          -- round's end, way ny00yy100y
                          exact ⟨(i + 1, j + 1, cur.set i y2, c51), s_1, ⟨⟨by omega, by show k + (j + 1) ≤ _; omega, by show i + 1 + 1 ≤ k + (j + 1); omega, by rw [List.length_set]; exact hcl⟩, rfl, rfl, by rw [List.length_set]; exact w51, by rw [set_take (by omega), htk, hkj, compactI_take hz2 hy2', if_neg c44, hkj1], fun q hq => by rw [List.getElem?_set_ne (by omega)]; exact hrest q (by omega)⟩, by show xs.length - (k + (j + 1)) < xs.length - (k + j); omega, ⟨rfl, rfl, rfl, rfl, trivial⟩⟩
                        · refine T.skip (Post.blkN ?_)
                          refine id (Post.thnN ?_)
                          refine T.region ?_
                          refine R.mvE rfl (by conv => lhs; whnf) ?_
                          refine R.addI rfl rfl rfl (by omega) ?_
                          refine R.asE rfl (by conv => lhs; whnf) ?_
                          refine TL.nil (Post.thnN ?_)
                          -- round's end, way ny00yy100n
                          exact ⟨(i, j + 1, cur, [(b3, .cells cs3 3)]), s_1, ⟨⟨by omega, by show k + (j + 1) ≤ _; omega, by show i + 1 ≤ k + (j + 1); omega, hcl⟩, rfl, rfl, hw, by rw [htk, hkj, compactI_take hz2 hy2', if_pos (Decidable.of_not_not c44), hkj1], hrest⟩, by show xs.length - (k + (j + 1)) < xs.length - (k + j); omega, ⟨rfl, rfl, rfl, rfl, trivial⟩⟩
                      · refine R.ld Tryz.isAgg3 rfl rfl .hd (hcs4 0 _ rfl) ?_
                        refine TL.nil (Plan.e1 (HLe.refl _) ?_)
                        refine Plan.s1 3 [9] (by kernel_rfl) (by kernel_rfl) rfl ?_
                        refine R.ld Tryz.isAgg3 rfl rfl .hd (hcs3 0 _ rfl) ?_
                        refine TL.nil (Plan.e1 (HLe.refl _) ?_)
                        refine Plan.v 9 [] (by kernel_rfl) (by kernel_rfl) (by kernel_rfl) (by kernel_rfl) rfl (fun _ _ h_ => R.neq rfl rfl rfl (TL.nil h_)) ?_
                        refine Plan.done (Post.thnN ?_)
                        refine T.condD rfl (fun c44 => ?_) (fun c44 => ?_)
                        · refine T.seq ?_
                          refine T.region ?_
                          refine R.mvE rfl (by conv => lhs; whnf) ?_
                          refine R.mvE rfl (by conv => lhs; whnf) ?_
                          refine R.mvE rfl (by conv => lhs; whnf) ?_
                          refine R.mvE rfl (by conv => lhs; whnf) ?_
                          refine R.ixp Tryz.underlying24 Tryz.sizeOf3 rfl rfl rfl (by omega) ix3' ?_
                          refine R.ld Tryz.isAgg3 rfl rfl .hd (hcs3 0 _ rfl) ?_
                          refine R.ixp Tryz.underlying24 Tryz.sizeOf3 rfl rfl rfl (by omega) (by rw [← hcl]; exact ix5) ?_
                          refine R.stE (y := y2) Tryz.sizeOf3 rfl rfl hw .hd ix5 rfl rfl rfl ?_
                          intro c51 w51
                          refine TL.nil (Post.thnN ?_)
                          refine T.region ?_
                          refine R.mvE rfl (by conv => lhs; whnf) ?_
                          refine R.addI rfl rfl rfl (by omega) ?_
                          refine R.asE rfl (by conv => lhs; whnf) ?_
                          refine TL.nil (Post.blkN ?_)
                          refine id (Post.thnN ?_)
                          refine T.region ?_
                          refine R.mvE rfl (by conv => lhs; whnf) ?_
                          refine R.addI rfl rfl rfl (by omega) ?_
                          refine R.asE rfl (by conv => lhs; whnf) ?_
                          refine TL.nil (Post.thnN ?_)
                          -- round's end, way ny00yy101y
                          exact ⟨(i + 1, j + 1, cur.set i y2, c51), s_1, ⟨⟨by omega, by show k + (j + 1) ≤ _; omega, by show i + 1 + 1 ≤ k + (j + 1); omega, by rw [List.length_set]; exact hcl⟩, rfl, rfl, by rw [List.length_set]; exact w51, by rw [set_take (by omega), htk, hkj, compactI_take hz2 hy2', if_neg c44, hkj1], fun q hq => by rw [List.getElem?_set_ne (by omega)]; exact hrest q (by omega)⟩, by show xs.length - (k + (j + 1)) < xs.length - (k + j); omega, ⟨rfl, rfl, rfl, rfl, trivial⟩⟩
                        · refine T.skip (Post.blkN ?_)
                          refine id (Post.thnN ?_)
                          refine T.region ?_
                          refine R.mvE rfl (by conv => lhs; whnf) ?_
                          refine R.addI rfl rfl rfl (by omega) ?_
                          refine R.asE rfl (by conv => lhs; whnf) ?_
                          refine TL.nil (Post.thnN ?_)
                          -- round's end, way ny00yy101n
                          exact ⟨(i, j + 1, cur, [(b3, .cells cs3 3)]), s_1, ⟨⟨by omega, by show k + (j + 1) ≤ _; omega, by show i + 1 ≤ k + (j + 1); omega, hcl⟩, rfl, rfl, hw, by rw [htk, hkj, compactI_take hz2 hy2', if_pos (Decidable.of_not_not c44), hkj1], hrest⟩, by show xs.length - (k + (j + 1)) < xs.length - (k + j); omega, ⟨rfl, rfl, rfl, rfl, trivial⟩⟩
                    · refine R.ld Tryz.isAgg3 rfl rfl .hd (hcs4 0 _ rfl) ?_
                      refine TL.nil (Plan.e1 (HLe.refl _) ?_)
                      refine Plan.s1 2 [3, 9] (by kernel_rfl) (by kernel_rfl) rfl ?_
                      refine R.ixp Tryz.underlying24 Tryz.sizeOf3 rfl rfl rfl (by omega) ix3' ?_
                      refine TL.nil (Plan.e1 (HLe.refl _) ?_)
                      refine Plan.s1 3 [9] (by kernel_rfl) (by kernel_rfl) rfl ?_
                      refine R.ld Tryz.isAgg3 rfl rfl .hd (hcs3 0 _ rfl) ?_
                      refine TL.nil (Plan.e1 (HLe.refl _) ?_)
                      refine Plan.v 9 [] (by kernel_rfl) (by kernel_rfl) (by kernel_rfl) (by kernel_rfl) rfl (fun _ _ h_ => R.neq rfl rfl rfl (TL.nil h_)) ?_
                      refine Plan.done (Post.thnN ?_)
                      refine T.condD rfl (fun c44 => ?_) (fun c44 => ?_)
                      · refine T.seq ?_
                        refine T.region ?_
                        refine R.mvE rfl (by conv => lhs; whnf) ?_
                        refine R.mvE rfl (by conv => lhs; whnf) ?_
                        refine R.mvE rfl (by conv => lhs; whnf) ?_
                        refine R.mvE rfl (by conv => lhs; whnf) ?_
                        refine R.ixp Tryz.underlying24 Tryz.sizeOf3 rfl rfl rfl (by omega) ix3' ?_
                        refine R.ld Tryz.isAgg3 rfl rfl .hd (hcs3 0 _ rfl) ?_
                        refine R.ixp Tryz.underlying24 Tryz.sizeOf3 rfl rfl rfl (by omega) (by rw [← hcl]; exact ix5) ?_
                        refine R.stE (y := y2) Tryz.sizeOf3 rfl rfl hw .hd ix5 rfl rfl rfl ?_
                        intro c51 w51
                        refine TL.nil (Post.thnN ?_)
                        refine T.region ?_
                        refine R.mvE rfl (by conv => lhs; whnf) ?_
                        refine R.addI rfl rfl rfl (by omega) ?_
                        refine R.asE rfl (by conv => lhs; whnf) ?_
                        refine TL.nil (Post.blkN ?_)
                        refine id (Post.thnN ?_)
                        refine T.region ?_
                        refine R.mvE rfl (by conv => lhs; whnf) ?_
                        refine R.addI rfl rfl rfl (by omega) ?_
                        refine R.asE rfl (by conv => lhs; whnf) ?_
                        refine TL.nil (Post.thnN ?_)
                        -- round's end, way ny00yy11y
                        exact ⟨(i + 1, j + 1, cur.set i y2, c51), s_1, ⟨⟨by omega, by show k + (j + 1) ≤ _; omega, by show i + 1 + 1 ≤ k + (j + 1); omega, by rw [List.length_set]; exact hcl⟩, rfl, rfl, by rw [List.length_set]; exact w51, by rw [set_take (by omega), htk, hkj, compactI_take hz2 hy2', if_neg c44, hkj1], fun q hq => by rw [List.getElem?_set_ne (by omega)]; exact hrest q (by omega)⟩, by show xs.length - (k + (j + 1)) < xs.length - (k + j); omega, ⟨rfl, rfl, rfl, rfl, trivial⟩⟩
                      · refine T.skip (Post.blkN ?_)
                        refine id (Post.thnN ?_)
                        refine T.region ?_
                        refine R.mvE rfl (by conv => lhs; whnf) ?_
                        refine R.addI rfl rfl rfl (by omega) ?_
                        refine R.asE rfl (by conv => lhs; whnf) ?_
                        refine TL.nil (Post.thnN ?_)
                        -- round's end, way ny00yy11n
                        exact ⟨(i, j + 1, cur, [(b3, .cells cs3 3)]), s_1, ⟨⟨by omega, by show k + (j + 1) ≤ _; omega, by show i + 1 ≤ k + (j + 1); omega, hcl⟩, rfl, rfl, hw, by rw [htk, hkj, compactI_take hz2 hy2', if_pos (Decidable.of_not_not c44), hkj1], hrest⟩, by show xs.length - (k + (j + 1)) < xs.length - (k + j); omega, ⟨rfl, rfl, rfl, rfl, trivial⟩⟩
                · have hje : k + j = xs.length := by omega
                  rw [hje, List.take_length] at htk
                  have hil : (cur.take i).length = i := by simp; omega
                  refine T.exit (Post.thnE (Post.thnE (Post.blkX ?_)))
                  refine id (Post.thnN ?_)
                  refine T.seq ?_
                  refine T.region ?_
                  refine R.mvE rfl (by conv => lhs; whnf) ?_
                  refine R.mvE rfl (by conv => lhs; whnf) ?_
                  refine R.sL Tryz.underlying24 Tryz.sizeOf3 rfl rfl rfl (by omega) (by omega) ?_
                  refine R.clr (dd := none) (xs := cur.take i) Tryz_ty24 (zone_of (z := .int .i64 0) (by kernel_rfl) (by intro v hv; have e0 : v = .int .i64 0 := (by simpa [Value.cells] using hv); subst e0; rfl)) rfl (fun q h => by cases h) (m := xs.length) (by rw [hil]; rfl) (by rw [hil]; exact own_take0 hw (by omega)) .hd (by omega) (by omega) ?_
                  intro c57 w57
                  refine TL.nil (Post.thnN ?_)
                  refine T.seq ?_
                  refine T.region ?_
                  refine R.mvE rfl (by conv => lhs; whnf) ?_
                  refine R.mvE rfl (by conv => lhs; whnf) ?_
                  refine R.sH Tryz.underlying24 Tryz.sizeOf3 rfl rfl rfl (by omega) (by omega) ?_
                  refine R.asE rfl (by conv => lhs; whnf) ?_
                  refine TL.nil (Post.thnN ?_)
                  refine T.ret (Post.blkR (Post.thnR (Post.thnR (Post.blkR (Post.thnR ?_)))))
                  -- way ny00yn
                  refine fin1L [c57] rfl rfl (List.Sublist.refl _) ⟨_, rfl, ?_⟩
                  show OwnS (intE .i64) 3 _ (slcV (.slice A xs.length cap) 0 i cap 1) (compactI xs) c57
                  rw [slc_take0, ← htk]
                  rw [hil] at w57
                  exact w57
            · refine T.skip (Post.blkN ?_)
              refine id (Post.thnN ?_)
              refine T.region ?_
              refine R.mvE rfl (by conv => lhs; whnf) ?_
              refine R.addI rfl rfl rfl (by omega) ?_
              refine R.asE rfl (by conv => lhs; whnf) ?_
              refine TL.nil (Post.thnN ?_)
              -- round's end, way ny00n
              exact ⟨k + 1, s_0, ⟨⟨by omega, by omega⟩, rfl, rfl, by rw [show k + 1 = (k - 1) + 2 by omega, compactI_take hz hy1, if_neg c25, show k - 1 + 1 = k by omega, hco, show k - 1 + 2 = k + 1 by omega, take_snoc _ _ _ hy]⟩, by omega, ⟨rfl, rfl, trivial⟩⟩
          · refine R.ixp Tryz.underlying24 Tryz.sizeOf3 rfl rfl rfl (by omega) ix2 ?_
            refine TL.nil (Plan.e1 (HLe.refl _) ?_)
            refine Plan.s2 3 8 [8, 9] [3, 9] (by kernel_rfl) (by kernel_rfl) (by kernel_rfl) rfl rfl ?_ ?_
            · refine R.ld Tryz.isAgg3 rfl rfl .hd (hcs1 0 _ rfl) ?_
              refine TL.nil (Plan.e1 (HLe.refl _) ?_)
              refine Plan.s1 8 [9] (by kernel_rfl) (by kernel_rfl) rfl ?_
              refine R.ld Tryz.isAgg3 rfl rfl .hd (hcs2 0 _ rfl) ?_
              refine TL.nil (Plan.e1 (HLe.refl _) ?_)
              refine Plan.v 9 [] (by kernel_rfl) (by kernel_rfl) (by kernel_rfl) (by kernel_rfl) rfl (fun _ _ h_ => R.eql rfl rfl rfl (TL.nil h_)) ?_
              refine Plan.done (Post.thnN ?_)
              refine T.condD rfl (fun c25 => ?_) (fun c25 => ?_)
              · refine T.seq ?_
                refine T.region ?_
                refine R.mvE rfl (by conv => lhs; whnf) ?_
                refine R.mvE rfl (by conv => lhs; whnf) ?_
                refine R.sL Tryz.underlying24 Tryz.sizeOf3 rfl rfl rfl (by omega) (by omega) ?_
                refine R.asE rfl (by conv => lhs; whnf) ?_
                refine TL.nil (Post.thnN ?_)
                refine T.seq ?_
                refine T.seq ?_
                refine T.region ?_
                refine R.asE rfl (by conv => lhs; whnf) ?_
                refine TL.nil (Post.thnN ?_)
                refine T.block ?_
                refine T.loop (ι := Nat × Nat × List Int × Chunk) (fun ⟨i, j, cur, ch2⟩ H' L' ds' => (1 ≤ j ∧ k + j ≤ xs.length ∧ i + 1 ≤ k + j ∧ cur.length = xs.length) ∧ L' = [ch2] ∧ ds' = [] ∧ OwnS (intE .i64) 3 H' (.slice A cur.length cap) cur ch2 ∧ cur.take i = compactI (xs.take (k + j)) ∧ (∀ q, i ≤ q → cur[q]? = xs[q]?)) (fun ⟨i, j, cur, ch2⟩ => [(0, .slice A xs.length cap), (3, .int .i64 i), (4, slcV (.slice A xs.length cap) k xs.length cap 1), (5, .int .i64 j)]) (fun ⟨i, j, cur, ch2⟩ => xs.length - (k + j)) ((k, 1, xs, [(b1, .cells cs1 3)])) ?_ ?_ ?_
                · exact ⟨⟨by omega, by omega, by omega, rfl⟩, rfl, rfl, ho, by rw [hk2, compactI_take hz hy1, if_pos c25, show k - 1 + 1 = k by omega, hco], fun q hq => rfl⟩
                · exact ⟨rfl, rfl, rfl, rfl, trivial⟩
                · intro ⟨i, j, cur, ch2⟩ σ2 H_2 L_2 ds_2 s_2 hI_2
                  obtain ⟨⟨hj1, hj2, hij, hcl⟩, rfl, rfl, hw, htk, hrest⟩ := hI_2
                  refine T.seq ?_
                  refine T.seq ?_
                  refine T.region ?_
                  refine R.mvE rfl (by conv => lhs; whnf) ?_
                  refine R.mvE rfl (by conv => lhs; whnf) ?_
                  refine R.len Tryz.underlying24 rfl rfl ?_
                  refine R.lss rfl rfl rfl ?_
                  refine TL.nil (Post.thnN ?_)
                  refine T.condD rfl (fun c32 => ?_) (fun c32 => ?_)
                  · have hlt2 : k + j < xs.length := by omega
                    obtain ⟨y2, hy2⟩ := getk hlt2
                    obtain ⟨z2, hz2⟩ := getk (xs := xs) (k := k + j - 1) (by omega)
                    have hkj : k + (j + 1) = (k + j - 1) + 2 := by omega
                    have hkj1 : k + j - 1 + 1 = k + j := by omega
                    have hy2' : xs[k + j - 1 + 1]? = some y2 := by rw [hkj1]; exact hy2
                    have hcy : cur[k + j]? = some y2 := by rw [hrest _ (by omega)]; exact hy2
                    have hcz : cur[k + ((j : Int) - 1).toNat]? = some z2 := by rw [show k + ((j : Int) - 1).toNat = k + j - 1 by omega, hrest _ (by omega)]; exact hz2
                    obtain ⟨yi, hci⟩ := getk (xs := cur) (k := i) (by omega)
                    obtain ⟨b3, k3, cs3, l3, hce3, hve3, ix3, hR3, hcs3⟩ := hw.elem hcy
                    obtain rfl : l3 = [.int .i64 y2] := hR3
                    obtain ⟨b4, k4, cs4, l4, hce4, hve4, ix4, hR4, hcs4⟩ := hw.elem hcz
                    obtain rfl : l4 = [.int .i64 z2] := hR4
                    obtain ⟨b5, k5, cs5, l5, hce5, hve5, ix5, hR5, hcs5⟩ := hw.elem hci
                    subst hce3
                    obtain ⟨rfl, rfl⟩ : b3 = b4 ∧ cs3 = cs4 := by simpa using hce4
                    obtain ⟨rfl, rfl⟩ : b3 = b5 ∧ cs3 = cs5 := by simpa using hce5
                    obtain rfl : cap = k3 := by injection hve3
                    rw [hcl] at hve3
                    have ix3' := ix_off (sz := 1) (k := k) (i := j) hve3 (by omega) (by omega) (by omega)
                    have ix4' := ix_off (sz := 1) (k := k) (i := ((j : Int) - 1).toNat) hve3 (by omega) (by omega) (by omega)
                    refine T.skip (Post.thnN ?_)
                    refine T.seq ?_
                    refine T.block ?_
                    refine T.seq ?_
                    refine T.draw Tryz_mixed (by kernel_rfl) ?_
                    refine Plan.v 0 [1, 2, 3, 4, 5, 6, 7, 8, 9] (by kernel_rfl) (by kernel_rfl) (by kernel_rfl) (by kernel_rfl) rfl (fun _ _ h_ => R.mvE rfl (by conv => lhs; whnf) (TL.nil h_)) ?_
                    refine Plan.v 1 [2, 3, 4, 5, 6, 7, 8, 9] (by kernel_rfl) (by kernel_rfl) (by kernel_rfl) (by kernel_rfl) rfl (fun _ _ h_ => R.mvE rfl (by conv => lhs; whnf) (TL.nil h_)) ?_
                    refine Plan.v 4 [2, 3, 5, 6, 7, 8, 9] (by kernel_rfl) (by kernel_rfl) (by kernel_rfl) (by kernel_rfl) rfl (fun _ _ h_ => R.mvE rfl (by conv => lhs; whnf) (TL.nil h_)) ?_
                    refine Plan.v 5 [2, 3, 6, 7, 8, 9] (by kernel_rfl) (by kernel_rfl) (by kernel_rfl) (by kernel_rfl) rfl (fun _ _ h_ => R.mvE rfl (by conv => lhs; whnf) (TL.nil h_)) ?_
                    refine Plan.v 6 [2, 3, 7, 8, 9] (by kernel_rfl) (by kernel_rfl) (by kernel_rfl) (by kernel_rfl) rfl (fun _ _ h_ => R.subI rfl rfl rfl (by omega) (TL.nil h_)) ?_
                    refine Plan.s2 2 7 [3, 7, 8, 9] [2, 3, 8, 9] (by kernel_rfl) (by kernel_rfl) (by kernel_rfl) rfl rfl ?_ ?_
                    · refine R.ixp Tryz.underlying24 Tryz.sizeOf3 rfl rfl rfl (by omega) ix3' ?_
                      refine TL.nil (Plan.e1 (HLe.refl _) ?_)
                      refine Plan.s2 3 7 [7, 8, 9] [3, 8, 9] (by kernel_rfl) (by kernel_rfl) (by kernel_rfl) rfl rfl ?_ ?_
                      · refine R.ld Tryz.isAgg3 rfl rfl .hd (hcs3 0 _ rfl) ?_
                        refine TL.nil (Plan.e1 (HLe.refl _) ?_)
                        refine Plan.s1 7 [8, 9] (by kernel_rfl) (by kernel_rfl) rfl ?_
                        refine R.ixp Tryz.underlying24 Tryz.sizeOf3 rfl rfl rfl (by omega) ix4' ?_
                        refine TL.nil (Plan.e1 (HLe.refl _) ?_)
                        refine Plan.s1 8 [9] (by kernel_rfl) (by kernel_rfl) rfl ?_
                        refine R.ld Tryz.isAgg3 rfl rfl .hd (hcs4 0 _ rfl) ?_
                        refine TL.nil (Plan.e1 (HLe.refl _) ?_)
                        refine Plan.v 9 [] (by kernel_rfl) (by kernel_rfl) (by kernel_rfl) (by kernel_rfl) rfl (fun _ _ h_ => R.neq rfl rfl rfl (TL.nil h_)) ?_
                        refine Plan.done (Post.thnN ?_)
                        refine T.condD rfl (fun c44 => ?_) (fun c44 => ?_)
                        · refine T.seq ?_
                          refine T.region ?_
                          refine R.mvE rfl (by conv => lhs; whnf) ?_
                          refine R.mvE rfl (by conv => lhs; whnf) ?_
                          refine R.mvE rfl (by conv => lhs; whnf) ?_
                          refine R.mvE rfl (by conv => lhs; whnf) ?_
                          refine R.ixp Tryz.underlying24 Tryz.sizeOf3 rfl rfl rfl (by omega) ix3' ?_
                          refine R.ld Tryz.isAgg3 rfl rfl .hd (hcs3 0 _ rfl) ?_
                          refine R.ixp Tryz.underlying24 Tryz.sizeOf3 rfl rfl rfl (by omega) (by rw [← hcl]; exact ix5) ?_
                          refine R.stE (y := y2) Tryz.sizeOf3 rfl rfl hw .hd ix5 rfl rfl rfl ?_
                          intro c51 w51
                          refine TL.nil (Post.thnN ?_)
                          refine T.region ?_
                          refine R.mvE rfl (by conv => lhs; whnf) ?_
                          refine R.addI rfl rfl rfl (by omega) ?_
                          refine R.asE rfl (by conv => lhs; whnf) ?_
                          refine TL.nil (Post.blkN ?_)
                          refine id (Post.thnN ?_)
                          refine T.region ?_
                          refine R.mvE rfl (by conv => lhs; whnf) ?_
                          refine R.addI rfl rfl rfl (by omega) ?_
                          refine R.asE rfl (by conv => lhs; whnf) ?_
                          refine TL.nil (Post.thnN ?_)
                          -- round's end, way ny010yy00y
                          exact ⟨(i + 1, j + 1, cur.set i y2, c51), s_2, ⟨⟨by omega, by show k + (j + 1) ≤ _; omega, by show i + 1 + 1 ≤ k + (j + 1); omega, by rw [List.length_set]; exact hcl⟩, rfl, rfl, by rw [List.length_set]; exact w51, by rw [set_take (by omega), htk, hkj, compactI_take hz2 hy2', if_neg c44, hkj1], fun q hq => by rw [List.getElem?_set_ne (by omega)]; exact hrest q (by omega)⟩, by show xs.length - (k + (j + 1)) < xs.length - (k + j); omega, ⟨rfl, rfl, rfl, rfl, trivial⟩⟩
                        · refine T.skip (Post.blkN ?_)
                          refine id (Post.thnN ?_)
                          refine T.region ?_
                          refine R.mvE rfl (by conv => lhs; whnf) ?_
                          refine R.addI rfl rfl rfl (by omega) ?_
                          refine R.asE rfl (by conv => lhs; whnf) ?_
                          refine TL.nil (Post.thnN ?_)
                          -- round's end, way ny010yy00n
                          exact ⟨(i, j + 1, cur, [(b3, .cells cs3 3)]), s_2, ⟨⟨by omega, by show k + (j + 1) ≤ _; omega, by show i + 1 ≤ k + (j + 1); omega, hcl⟩, rfl, rfl, hw, by rw [htk, hkj, compactI_take hz2 hy2', if_pos (Decidable.of_not_not c44), hkj1], hrest⟩, by show xs.length - (k + (j + 1)) < xs.length - (k + j); omega, ⟨rfl, rfl, rfl, rfl, trivial⟩⟩
                      · refine R.ixp Tryz.underlying24 Tryz.sizeOf3 rfl rfl rfl (by omega) ix4' ?_
                        refine TL.nil (Plan.e1 (HLe.refl _) ?_)
                        refine Plan.s2 3 8 [8, 9] [3, 9] (by kernel_rfl) (by kernel_rfl) (by kernel_rfl) rfl rfl ?_ ?_
                        · refine R.ld Tryz.isAgg3 rfl rfl .hd (hcs3 0 _ rfl) ?_
                          refine TL.nil (Plan.e1 (HLe.refl _) ?_)
                          refine Plan.s1 8 [9] (by kernel_rfl) (by kernel_rfl) rfl ?_
                          refine R.ld Tryz.isAgg3 rfl rfl .hd (hcs4 0 _ rfl) ?_
                          refine TL.nil (Plan.e1 (HLe.refl _) ?_)
                          refine Plan.v 9 [] (by kernel_rfl) (by kernel_rfl) (by kernel_rfl) (by kernel_rfl) rfl (fun _ _ h_ => R.neq rfl rfl rfl (TL.nil h_)) ?_
                          refine Plan.done (Post.thnN ?_)
                          refine T.condD rfl (fun c44 => ?_) (fun c44 => ?_)
                          · refine T.seq ?_
                            refine T.region ?_
                            refine R.mvE rfl (by conv => lhs; whnf) ?_
                            refine R.mvE rfl (by conv => lhs; whnf) ?_
                            refine R.mvE rfl (by conv => lhs; whnf) ?_
                            refine R.mvE rfl (by conv => lhs; whnf) ?_
                            refine R.ixp Tryz.underlying24 Tryz.sizeOf3 rfl rfl rfl (by omega) ix3' ?_
                            refine R.ld Tryz.isAgg3 rfl rfl .hd (hcs3 0 _ rfl) ?_
                            refine R.ixp Tryz.underlying24 Tryz.sizeOf3 rfl rfl rfl (by omega) (by rw [← hcl]; exact ix5) ?_
                            refine R.stE (y := y2) Tryz.sizeOf3 rfl rfl hw .hd ix5 rfl rfl rfl ?_
                            intro c51 w51
                            refine TL.nil (Post.thnN ?_)
                            refine T.region ?_
                            refine R.mvE rfl (by conv => lhs; whnf) ?_
                            refine R.addI rfl rfl rfl (by omega) ?_
                            refine R.asE rfl (by conv => lhs; whnf) ?_
                            refine TL.nil (Post.blkN ?_)
                            refine id (Post.thnN ?_)
                            refine T.region ?_
                            refine R.mvE rfl (by conv => lhs; whnf) ?_
                            refine R.addI rfl rfl rfl (by omega) ?_
                            refine R.asE rfl (by conv => lhs; whnf) ?_
                            refine TL.nil (Post.thnN ?_)
                            -- round's end, way ny010yy010y
                            exact ⟨(i + 1, j + 1, cur.set i y2, c51), s_2, ⟨⟨by omega, by show k + (j + 1) ≤ _; omega, by show i + 1 + 1 ≤ k + (j + 1); omega, by rw [List.length_set]; exact hcl⟩, rfl, rfl, by rw [List.length_set]; exact w51, by rw [set_take (by omega), htk, hkj, compactI_take hz2 hy2', if_neg c44, hkj1], fun q hq => by rw [List.getElem?_set_ne (by omega)]; exact hrest q (by omega)⟩, by show xs.length - (k + (j + 1)) < xs.length - (k + j); omega, ⟨rfl, rfl, rfl, rfl, trivial⟩⟩
                          · refine T.skip (Post.blkN ?_)
                            refine id (Post.thnN ?_)
                            refine T.region ?_
                            refine R.mvE rfl (by conv => lhs; whnf) ?_
                            refine R.addI rfl rfl rfl (by omega) ?_
                            refine R.asE rfl (by conv => lhs; whnf) ?_
                            refine TL.nil (Post.thnN ?_)
                            -- round's end, way ny010yy010n
                            exact ⟨(i, j + 1, cur, [(b3, .cells cs3 3)]), s_2, ⟨⟨by omega, by show k + (j + 1) ≤ _; omega, by show i + 1 ≤ k + (j + 1); omega, hcl⟩, rfl, rfl, hw, by rw [htk, hkj, compactI_take hz2 hy2', if_pos (Decidable.of_not_not c44), hkj1], hrest⟩, by show xs.length - (k + (j + 1)) < xs.length - (k + j); omega, ⟨rfl, rfl, rfl, rfl, trivial⟩⟩
                        · refine R.ld Tryz.isAgg3 rfl rfl .hd (hcs4 0 _ rfl) ?_
                          refine TL.nil (Plan.e1 (HLe.refl _) ?_)
                          refine Plan.s1 3 [9] (by kernel_rfl) (by kernel_rfl) rfl ?_
                          refine R.ld Tryz.isAgg3 rfl rfl .hd (hcs3 0 _ rfl) ?_
                          refine TL.nil (Plan.e1 (HLe.refl _) ?_)
                          refine Plan.v 9 [] (by kernel_rfl) (by kernel_rfl) (by kernel_rfl) (by kernel_rfl) rfl (fun _ _ h_ => R.neq rfl rfl rfl (TL.nil h_)) ?_
                          refine Plan.done (Post.thnN ?_)
                          refine T.condD rfl (fun c44 => ?_) (fun c44 => ?_)
                          · refine T.seq ?_
                            refine T.region ?_
                            refine R.mvE rfl (by conv => lhs; whnf) ?_
                            refine R.mvE rfl (by conv => lhs; whnf) ?_
                            refine R.mvE rfl (by conv => lhs; whnf) ?_
                            refine R.mvE rfl (by conv => lhs; whnf) ?_
                            refine R.ixp Tryz.underlying24 Tryz.sizeOf3 rfl rfl rfl (by omega) ix3' ?_
                            refine R.ld Tryz.isAgg3 rfl rfl .hd (hcs3 0 _ rfl) ?_
                            refine R.ixp Tryz.underlying24 Tryz.sizeOf3 rfl rfl rfl (by omega) (by rw [← hcl]; exact ix5) ?_
                            refine R.stE (y := y2) Tryz.sizeOf3 rfl rfl hw .hd ix5 rfl rfl rfl ?_
                            intro c51 w51
                            refine TL.nil (Post.thnN ?_)
                            refine T.region ?_
                            refine R.mvE rfl (by conv => lhs; whnf) ?_
                            refine R.addI rfl rfl rfl (by omega) ?_
                            refine R.asE rfl (by conv => lhs; whnf) ?_
                            refine TL.nil (Post.blkN ?_)
                            refine id (Post.thnN ?_)
                            refine T.region ?_
                            refine R.mvE rfl (by conv => lhs; whnf) ?_
                            refine R.addI rfl rfl rfl (by omega) ?_
                            refine R.asE rfl (by conv => lhs; whnf) ?_
                            refine TL.nil (Post.thnN ?_)
                            -- round's end, way ny010yy011y
                            exact ⟨(i + 1, j + 1, cur.set i y2, c51), s_2, ⟨⟨by omega, by show k + (j + 1) ≤ _; omega, by show i + 1 + 1 ≤ k + (j + 1); omega, by rw [List.length_set]; exact hcl⟩, rfl, rfl, by rw [List.length_set]; exact w51, by rw [set_take (by omega), htk, hkj, compactI_take hz2 hy2', if_neg c44, hkj1], fun q hq => by rw [List.getElem?_set_ne (by omega)]; exact hrest q (by omega)⟩, by show xs.length - (k + (j + 1)) < xs.length - (k + j); omega, ⟨rfl, rfl, rfl, rfl, trivial⟩⟩
                          · refine T.skip (Post.blkN ?_)
                            refine id (Post.thnN ?_)
                            refine T.region ?_
                            refine R.mvE rfl (by conv => lhs; whnf) ?_
                            refine R.addI rfl rfl rfl (by omega) ?_
                            refine R.asE rfl (by conv => lhs; whnf) ?_
                            refine TL.nil (Post.thnN ?_)
                            -- round's end, way ny010yy011n
                            exact ⟨(i, j + 1, cur, [(b3, .cells cs3 3)]), s_2, ⟨⟨by omega, by show k + (j + 1) ≤ _; omega, by show i + 1 ≤ k + (j + 1); omega, hcl⟩, rfl, rfl, hw, by rw [htk, hkj, compactI_take hz2 hy2', if_pos (Decidable.of_not_not c44), hkj1], hrest⟩, by show xs.length - (k + (j + 1)) < xs.length - (k + j); omega, ⟨rfl, rfl, rfl, rfl, trivial⟩⟩
                    · refine R.ixp Tryz.underlying24 Tryz.sizeOf3 rfl rfl rfl (by omega) ix4' ?_
                      refine TL.nil (Plan.e1 (HLe.refl _) ?_)
                      refine Plan.s2 2 8 [3, 8, 9] [2, 3, 9] (by kernel_rfl) (by kernel_rfl) (by kernel_rfl) rfl rfl ?_ ?_
                      · refine R.ixp Tryz.underlying24 Tryz.sizeOf3 rfl rfl rfl (by omega) ix3' ?_
                        refine TL.nil (Plan.e1 (HLe.refl _) ?_)
                        refine Plan.s2 3 8 [8, 9] [3, 9] (by kernel_rfl) (by kernel_rfl) (by kernel_rfl) rfl rfl ?_ ?_
                        · refine R.ld Tryz.isAgg3 rfl rfl .hd (hcs3 0 _ rfl) ?_
                          refine TL.nil (Plan.e1 (HLe.refl _) ?_)
                          refine Plan.s1 8 [9] (by kernel_rfl) (by kernel_rfl) rfl ?_
                          refine R.ld Tryz.isAgg3 rfl rfl .hd (hcs4 0 _ rfl) ?_
                          refine TL.nil (Plan.e1 (HLe.refl _) ?_)
                          refine Plan.v 9 [] (by kernel_rfl) (by kernel_rfl) (by kernel_rfl) (by kernel_rfl) rfl (fun _ _ h_ => R.neq rfl rfl rfl (TL.nil h_)) ?_
                          refine Plan.done (Post.thnN ?_)
                          refine T.condD rfl (fun c44 => ?_) (fun c44 => ?_)
                          · refine T.seq ?_
                            refine T.region ?_
                            refine R.mvE rfl (by conv => lhs; whnf) ?_
                            refine R.mvE rfl (by conv => lhs; whnf) ?_
                            refine R.mvE rfl (by conv => lhs; whnf) ?_
                            refine R.mvE rfl (by conv => lhs; whnf) ?_
                            refine R.ixp Tryz.underlying24 Tryz.sizeOf3 rfl rfl rfl (by omega) ix3' ?_
                            refine R.ld Tryz.isAgg3 rfl rfl .hd (hcs3 0 _ rfl) ?_
                            refine R.ixp Tryz.underlying24 Tryz.sizeOf3 rfl rfl rfl (by omega) (by rw [← hcl]; exact ix5) ?_
                            refine R.stE (y := y2) Tryz.sizeOf3 rfl rfl hw .hd ix5 rfl rfl rfl ?_
                            intro c51 w51
                            refine TL.nil (Post.thnN ?_)
                            refine T.region ?_
                            refine R.mvE rfl (by conv => lhs; whnf) ?_
                            refine R.addI rfl rfl rfl (by omega) ?_
                            refine R.asE rfl (by conv => lhs; whnf) ?_
                            refine TL.nil (Post.blkN ?_)
                            refine id (Post.thnN ?_)
                            refine T.region ?_
                            refine R.mvE rfl (by conv => lhs; whnf) ?_
                            refine R.addI rfl rfl rfl (by omega) ?_
                            refine R.asE rfl (by conv => lhs; whnf) ?_
                            refine TL.nil (Post.thnN ?_)
                            -- round's end, way ny010yy100y
                            exact ⟨(i + 1, j + 1, cur.set i y2, c51), s_2, ⟨⟨by omega, by show k + (j + 1) ≤ _; omega, by show i + 1 + 1 ≤ k + (j + 1); omega, by rw [List.length_set]; exact hcl⟩, rfl, rfl, by rw [List.length_set]; exact w51, by rw [set_take (by omega), htk, hkj, compactI_take hz2 hy2', if_neg c44, hkj1], fun q hq => by rw [List.getElem?_set_ne (by omega)]; exact hrest q (by omega)⟩, by show xs.length - (k + (j + 1)) < xs.length - (k + j); omega, ⟨rfl, rfl, rfl, rfl, trivial⟩⟩
                          · refine T.skip (Post.blkN ?_)
                            refine id (Post.thnN ?_)
                            refine T.region ?_
                            refine R.mvE rfl (by conv => lhs; whnf) ?_
                            refine R.addI rfl rfl rfl (by omega) ?_
                            refine R.asE rfl (by conv => lhs; whnf) ?_
                            refine TL.nil (Post.thnN ?_)
                            -- round's end, way ny010yy100n
                            exact ⟨(i, j + 1, cur, [(b3, .cells cs3 3)]), s_2, ⟨⟨by omega, by show k + (j + 1) ≤ _; omega, by show i + 1 ≤ k + (j + 1); omega, hcl⟩, rfl, rfl, hw, by rw [htk, hkj, compactI_take hz2 hy2', if_pos (Decidable.of_not_not c44), hkj1], hrest⟩, by show xs.length - (k + (j + 1)) < xs.length - (k + j); omega, ⟨rfl, rfl, rfl, rfl, trivial⟩⟩
                        · refine R.ld Tryz.isAgg3 rfl rfl .hd (hcs4 0 _ rfl) ?_
                          refine TL.nil (Plan.e1 (HLe.refl _) ?_)
                          refine Plan.s1 3 [9] (by kernel_rfl) (by kernel_rfl) rfl ?_
                          refine R.ld Tryz.isAgg3 rfl rfl .hd (hcs3 0 _ rfl) ?_
                          refine TL.nil (Plan.e1 (HLe.refl _) ?_)
                          refine Plan.v 9 [] (by kernel_rfl) (by kernel_rfl) (by kernel_rfl) (by kernel_rfl) rfl (fun _ _ h_ => R.neq rfl rfl rfl (TL.nil h_)) ?_
                          refine Plan.done (Post.thnN ?_)
                          refine T.condD rfl (fun c44 => ?_) (fun c44 => ?_)
                          · refine T.seq ?_
                            refine T.region ?_
                            refine R.mvE rfl (by conv => lhs; whnf) ?_
                            refine R.mvE rfl (by conv => lhs; whnf) ?_
                            refine R.mvE rfl (by conv => lhs; whnf) ?_
                            refine R.mvE rfl (by conv => lhs; whnf) ?_
                            refine R.ixp Tryz.underlying24 Tryz.sizeOf3 rfl rfl rfl (by omega) ix3' ?_
                            refine R.ld Tryz.isAgg3 rfl rfl .hd (hcs3 0 _ rfl) ?_
                            refine R.ixp Tryz.underlying24 Tryz.sizeOf3 rfl rfl rfl (by omega) (by rw [← hcl]; exact ix5) ?_
                            refine R.stE (y := y2) Tryz.sizeOf3 rfl rfl hw .hd ix5 rfl rfl rfl ?_
                            intro c51 w51
                            refine TL.nil (Post.thnN ?_)
                            refine T.region ?_
                            refine R.mvE rfl (by conv => lhs; whnf) ?_
                            refine R.addI rfl rfl rfl (by omega) ?_
                            refine R.asE rfl (by conv => lhs; whnf) ?_
                            refine TL.nil (Post.blkN ?_)
                            refine id (Post.thnN ?_)
                            refine T.region ?_
                            refine R.mvE rfl (by conv => lhs; whnf) ?_
                            refine R.addI rfl rfl rfl (by omega) ?_
                            refine R.asE rfl (by conv => lhs; whnf) ?_
                            refine TL.nil (Post.thnN ?_)
                            -- round's end, way ny010yy101y
                            exact ⟨(i + 1, j + 1, cur.set i y2, c51), s_2, ⟨⟨by omega, by show k + (j + 1) ≤ _; omega, by show i + 1 + 1 ≤ k + (j + 1); omega, by rw [List.length_set]; exact hcl⟩, rfl, rfl, by rw [List.length_set]; exact w51, by rw [set_take (by omega), htk, hkj, compactI_take hz2 hy2', if_neg c44, hkj1], fun q hq => by rw [List.getElem?_set_ne (by omega)]; exact hrest q (by omega)⟩, by show xs.length - (k + (j + 1)) < xs.length - (k + j); omega, ⟨rfl, rfl, rfl, rfl, trivial⟩⟩
                          · refine T.skip (Post.blkN ?_)
                            refine id (Post.thnN ?_)
                            refine T.region ?_
                            refine R.mvE rfl (by conv => lhs; whnf) ?_
                            refine R.addI rfl rfl rfl (by omega) ?_
                            refine R.asE rfl (by conv => lhs; whnf) ?_
                            refine TL.nil (Post.thnN ?_)
                            -- round's end, way ny010yy101n
                            exact ⟨(i, j + 1, cur, [(b3, .cells cs3 3)]), s_2, ⟨⟨by omega, by show k + (j + 1) ≤ _; omega, by show i + 1 ≤ k + (j + 1); omega, hcl⟩, rfl, rfl, hw, by rw [htk, hkj, compactI_take hz2 hy2', if_pos (Decidable.of_not_not c44), hkj1], hrest⟩, by show xs.length - (k + (j + 1)) < xs.length - (k + j); omega, ⟨rfl, rfl, rfl, rfl, trivial⟩⟩
                      · refine R.ld Tryz.isAgg3 rfl rfl .hd (hcs4 0 _ rfl) ?_
                        refine TL.nil (Plan.e1 (HLe.refl _) ?_)
                        refine Plan.s1 2 [3, 9] (by kernel_rfl) (by kernel_rfl) rfl ?_
                        refine R.ixp Tryz.underlying24 Tryz.sizeOf3 rfl rfl rfl (by omega) ix3' ?_
                        refine TL.nil (Plan.e1 (HLe.refl _) ?_)
                        refine Plan.s1 3 [9] (by kernel_rfl) (by kernel_rfl) rfl ?_
                        refine R.ld Tryz.isAgg3 rfl rfl .hd (hcs3 0 _ rfl) ?_
                        refine TL.nil (Plan.e1 (HLe.refl _) ?_)
                        refine Plan.v 9 [] (by kernel_rfl) (by kernel_rfl) (by kernel_rfl) (by kernel_rfl) rfl (fun _ _ h_ => R.neq rfl rfl rfl (TL.nil h_)) ?_
                        refine Plan.done (Post.thnN ?_)
                        refine T.condD rfl (fun c44 => ?_) (fun c44 => ?_)
                        · refine T.seq ?_
                          refine T.region ?_
                          refine R.mvE rfl (by conv => lhs; whnf) ?_
                          refine R.mvE rfl (by conv => lhs; whnf) ?_
                          refine R.mvE rfl (by conv => lhs; whnf) ?_
                          refine R.mvE rfl (by conv => lhs; whnf) ?_
                          refine R.ixp Tryz.underlying24 Tryz.sizeOf3 rfl rfl rfl (by omega) ix3' ?_
                          refine R.ld Tryz.isAgg3 rfl rfl .hd (hcs3 0 _ rfl) ?_
                          refine R.ixp Tryz.underlying24 Tryz.sizeOf3 rfl rfl rfl (by omega) (by rw [← hcl]; exact ix5) ?_
                          refine R.stE (y := y2) Tryz.sizeOf3 rfl rfl hw .hd ix5 rfl rfl rfl ?_
                          intro c51 w51
                          refine TL.nil (Post.thnN ?_)
                          refine T.region ?_
                          refine R.mvE rfl (by conv => lhs; whnf) ?_
                          refine R.addI rfl rfl rfl (by omega) ?_
                          refine R.asE rfl (by conv => lhs; whnf) ?_
                          refine TL.nil (Post.blkN ?_)
                          refine id (Post.thnN ?_)
                          refine T.region ?_
                          refine R.mvE rfl (by conv => lhs; whnf) ?_
                          refine R.addI rfl rfl rfl (by omega) ?_
                          refine R.asE rfl (by conv => lhs; whnf) ?_
                          refine TL.nil (Post.thnN ?_)
                          -- round's end, way ny010yy11y
                          exact ⟨(i + 1, j + 1, cur.set i y2, c51), s_2, ⟨⟨by omega, by show k + (j + 1) ≤ _; omega, by show i + 1 + 1 ≤ k + (j + 1); omega, by rw [List.length_set]; exact hcl⟩, rfl, rfl, by rw [List.length_set]; exact w51, by rw [set_take (by omega), htk, hkj, compactI_take hz2 hy2', if_neg c44, hkj1], fun q hq => by rw [List.getElem?_set_ne (by omega)]; exact hrest q (by omega)⟩, by show xs.length - (k + (j + 1)) < xs.length - (k + j); omega, ⟨rfl, rfl, rfl, rfl, trivial⟩⟩
                        · refine T.skip (Post.blkN ?_)
                          refine id (Post.thnN ?_)
                          refine T.region ?_
                          refine R.mvE rfl (by conv => lhs; whnf) ?_
                          refine R.addI rfl rfl rfl (by omega) ?_
                          refine R.asE rfl (by conv => lhs; whnf) ?_
                          refine TL.nil (Post.thnN ?_)
                          -- round's end, way ny010yy11n
                          exact ⟨(i, j + 1, cur, [(b3, .cells cs3 3)]), s_2, ⟨⟨by omega, by show k + (j + 1) ≤ _; omega, by show i + 1 ≤ k + (j + 1); omega, hcl⟩, rfl, rfl, hw, by rw [htk, hkj, compactI_take hz2 hy2', if_pos (Decidable.of_not_not c44), hkj1], hrest⟩, by show xs.length - (k + (j + 1)) < xs.length - (k + j); omega, ⟨rfl, rfl, rfl, rfl, trivial⟩⟩
                  · have hje : k + j = xs.length := by omega
                    rw [hje, List.take_length] at htk
                    have hil : (cur.take i).length = i := by simp; omega
                    refine T.exit (Post.thnE (Post.thnE (Post.blkX ?_)))
                    refine id (Post.thnN ?_)
                    refine T.seq ?_
                    refine T.region ?_
                    refine R.mvE rfl (by conv => lhs; whnf) ?_
                    refine R.mvE rfl (by conv => lhs; whnf) ?_
                    refine R.sL Tryz.underlying24 Tryz.sizeOf3 rfl rfl rfl (by omega) (by omega) ?_
                    refine R.clr (dd := none) (xs := cur.take i) Tryz_ty24 (zone_of (z := .int .i64 0) (by kernel_rfl) (by intro v hv; have e0 : v = .int .i64 0 := (by simpa [Value.cells] using hv); subst e0; rfl)) rfl (fun q h => by cases h) (m := xs.length) (by rw [hil]; rfl) (by rw [hil]; exact own_take0 hw (by omega)) .hd (by omega) (by omega) ?_
                    intro c57 w57
                    refine TL.nil (Post.thnN ?_)
                    refine T.seq ?_
                    refine T.region ?_
                    refine R.mvE rfl (by conv => lhs; whnf) ?_
                    refine R.mvE rfl (by conv => lhs; whnf) ?_
                    refine R.sH Tryz.underlying24 Tryz.sizeOf3 rfl rfl rfl (by omega) (by omega) ?_
                    refine R.asE rfl (by conv => lhs; whnf) ?_
                    refine TL.nil (Post.thnN ?_)
                    refine T.ret (Post.blkR (Post.thnR (Post.thnR (Post.blkR (Post.thnR ?_)))))
                    -- way ny010yn
                    refine fin1L [c57] rfl rfl (List.Sublist.refl _) ⟨_, rfl, ?_⟩
                    show OwnS (intE .i64) 3 _ (slcV (.slice A xs.length cap) 0 i cap 1) (compactI xs) c57
                    rw [slc_take0, ← htk]
                    rw [hil] at w57
                    exact w57
              · refine T.skip (Post.blkN ?_)
                refine id (Post.thnN ?_)
                refine T.region ?_
                refine R.mvE rfl (by conv => lhs; whnf) ?_
                refine R.addI rfl rfl rfl (by omega) ?_
                refine R.asE rfl (by conv => lhs; whnf) ?_
                refine TL.nil (Post.thnN ?_)
                -- round's end, way ny010n
                exact ⟨k + 1, s_0, ⟨⟨by omega, by omega⟩, rfl, rfl, by rw [show k + 1 = (k - 1) + 2 by omega, compactI_take hz hy1, if_neg c25, show k - 1 + 1 = k by omega, hco, show k - 1 + 2 = k + 1 by omega, take_snoc _ _ _ hy]⟩, by omega, ⟨rfl, rfl, trivial⟩⟩
            · refine R.ld Tryz.isAgg3 rfl rfl .hd (hcs2 0 _ rfl) ?_
              refine TL.nil (Plan.e1 (HLe.refl _) ?_)
              refine Plan.s1 3 [9] (by kernel_rfl) (by kernel_rfl) rfl ?_
              refine R.ld Tryz.isAgg3 rfl rfl .hd (hcs1 0 _ rfl) ?_
              refine TL.nil (Plan.e1 (HLe.refl _) ?_)
              refine Plan.v 9 [] (by kernel_rfl) (by kernel_rfl) (by kernel_rfl) (by kernel_rfl) rfl (fun _ _ h_ => R.eql rfl rfl rfl (TL.nil h_)) ?_
              refine Plan.done (Post.thnN ?_)
              refine T.condD rfl (fun c25 => ?_) (fun c25 => ?_)
              · refine T.seq ?_
                refine T.region ?_
                refine R.mvE rfl (by conv => lhs; whnf) ?_
                refine R.mvE rfl (by conv => lhs; whnf) ?_
                refine R.sL Tryz.underlying24 Tryz.sizeOf3 rfl rfl rfl (by omega) (by omega) ?_
                refine R.asE rfl (by conv => lhs; whnf) ?_
                refine TL.nil (Post.thnN ?_)
                refine T.seq ?_
                refine T.seq ?_
                refine T.region ?_
                refine R.asE rfl (by conv => lhs; whnf) ?_
                refine TL.nil (Post.thnN ?_)
                refine T.block ?_
                refine T.loop (ι := Nat × Nat × List Int × Chunk) (fun ⟨i, j, cur, ch2⟩ H' L' ds' => (1 ≤ j ∧ k + j ≤ xs.length ∧ i + 1 ≤ k + j ∧ cur.length = xs.length) ∧ L' = [ch2] ∧ ds' = [] ∧ OwnS (intE .i64) 3 H' (.slice A cur.length cap) cur ch2 ∧ cur.take i = compactI (xs.take (k + j)) ∧ (∀ q, i ≤ q → cur[q]? = xs[q]?)) (fun ⟨i, j, cur, ch2⟩ => [(0, .slice A xs.length cap), (3, .int .i64 i), (4, slcV (.slice A xs.length cap) k xs.length cap 1), (5, .int .i64 j)]) (fun ⟨i, j, cur, ch2⟩ => xs.length - (k + j)) ((k, 1, xs, [(b1, .cells cs1 3)])) ?_ ?_ ?_
                · exact ⟨⟨by omega, by omega, by omega, rfl⟩, rfl, rfl, ho, by rw [hk2, compactI_take hz hy1, if_pos c25, show k - 1 + 1 = k by omega, hco], fun q hq => rfl⟩
                · exact ⟨rfl, rfl, rfl, rfl, trivial⟩
                · intro ⟨i, j, cur, ch2⟩ σ3 H_3 L_3 ds_3 s_3 hI_3
                  obtain ⟨⟨hj1, hj2, hij, hcl⟩, rfl, rfl, hw, htk, hrest⟩ := hI_3
                  refine T.seq ?_
                  refine T.seq ?_
                  refine T.region ?_
                  refine R.mvE rfl (by conv => lhs; whnf) ?_
                  refine R.mvE rfl (by conv => lhs; whnf) ?_
                  refine R.len Tryz.underlying24 rfl rfl ?_
                  refine R.lss rfl rfl rfl ?_
                  refine TL.nil (Post.thnN ?_)
                  refine T.condD rfl (fun c32 => ?_) (fun c32 => ?_)
                  · have hlt2 : k + j < xs.length := by omega
                    obtain ⟨y2, hy2⟩ := getk hlt2
                    obtain ⟨z2, hz2⟩ := getk (xs := xs) (k := k + j - 1) (by omega)
                    have hkj : k + (j + 1) = (k + j - 1) + 2 := by omega
                    have hkj1 : k + j - 1 + 1 = k + j := by omega
                    have hy2' : xs[k + j - 1 + 1]? = some y2 := by rw [hkj1]; exact hy2
                    have hcy : cur[k + j]? = some y2 := by rw [hrest _ (by omega)]; exact hy2
                    have hcz : cur[k + ((j : Int) - 1).toNat]? = some z2 := by rw [show k + ((j : Int) - 1).toNat = k + j - 1 by omega, hrest _ (by omega)]; exact hz2
                    obtain ⟨yi, hci⟩ := getk (xs := cur) (k := i) (by omega)
                    obtain ⟨b3, k3, cs3, l3, hce3, hve3, ix3, hR3, hcs3⟩ := hw.elem hcy
                    obtain rfl : l3 = [.int .i64 y2] := hR3
                    obtain ⟨b4, k4, cs4, l4, hce4, hve4, ix4, hR4, hcs4⟩ := hw.elem hcz
                    obtain rfl : l4 = [.int .i64 z2] := hR4
                    obtain ⟨b5, k5, cs5, l5, hce5, hve5, ix5, hR5, hcs5⟩ := hw.elem hci
                    subst hce3
                    obtain ⟨rfl, rfl⟩ : b3 = b4 ∧ cs3 = cs4 := by simpa using hce4
                    obtain ⟨rfl, rfl⟩ : b3 = b5 ∧ cs3 = cs5 := by simpa using hce5
                    obtain rfl : cap = k3 := by injection hve3
                    rw [hcl] at hve3
                    have ix3' := ix_off (sz := 1) (k := k) (i := j) hve3 (by omega) (by omega) (by omega)
                    have ix4' := ix_off (sz := 1) (k := k) (i := ((j : Int) - 1).toNat) hve3 (by omega) (by omega) (by omega)
                    refine T.skip (Post.thnN ?_)
                    refine T.seq ?_
                    refine T.block ?_
                    refine T.seq ?_
                    refine T.draw Tryz_mixed (by kernel_rfl) ?_
                    refine Plan.v 0 [1, 2, 3, 4, 5, 6, 7, 8, 9] (by kernel_rfl) (by kernel_rfl) (by kernel_rfl) (by kernel_rfl) rfl (fun _ _ h_ => R.mvE rfl (by conv => lhs; whnf) (TL.nil h_)) ?_
                    refine Plan.v 1 [2, 3, 4, 5, 6, 7, 8, 9] (by kernel_rfl) (by kernel_rfl) (by kernel_rfl) (by kernel_rfl) rfl (fun _ _ h_ => R.mvE rfl (by conv => lhs; whnf) (TL.nil h_)) ?_
                    refine Plan.v 4 [2, 3, 5, 6, 7, 8, 9] (by kernel_rfl) (by kernel_rfl) (by kernel_rfl) (by kernel_rfl) rfl (fun _ _ h_ => R.mvE rfl (by conv => lhs; whnf) (TL.nil h_)) ?_
                    refine Plan.v 5 [2, 3, 6, 7, 8, 9] (by kernel_rfl) (by kernel_rfl) (by kernel_rfl) (by kernel_rfl) rfl (fun _ _ h_ => R.mvE rfl (by conv => lhs; whnf) (TL.nil h_)) ?_
                    refine Plan.v 6 [2, 3, 7, 8, 9] (by kernel_rfl) (by kernel_rfl) (by kernel_rfl) (by kernel_rfl) rfl (fun _ _ h_ => R.subI rfl rfl rfl (by omega) (TL.nil h_)) ?_
                    refine Plan.s2 2 7 [3, 7, 8, 9] [2, 3, 8, 9] (by kernel_rfl) (by kernel_rfl) (by kernel_rfl) rfl rfl ?_ ?_
                    · refine R.ixp Tryz.underlying24 Tryz.sizeOf3 rfl rfl rfl (by omega) ix3' ?_
                      refine TL.nil (Plan.e1 (HLe.refl _) ?_)
                      refine Plan.s2 3 7 [7, 8, 9] [3, 8, 9] (by kernel_rfl) (by kernel_rfl) (by kernel_rfl) rfl rfl ?_ ?_
                      · refine R.ld Tryz.isAgg3 rfl rfl .hd (hcs3 0 _ rfl) ?_
                        refine TL.nil (Plan.e1 (HLe.refl _) ?_)
                        refine Plan.s1 7 [8, 9] (by kernel_rfl) (by kernel_rfl) rfl ?_
                        refine R.ixp Tryz.underlying24 Tryz.sizeOf3 rfl rfl rfl (by omega) ix4' ?_
                        refine TL.nil (Plan.e1 (HLe.refl _) ?_)
                        refine Plan.s1 8 [9] (by kernel_rfl) (by kernel_rfl) rfl ?_
                        refine R.ld Tryz.isAgg3 rfl rfl .hd (hcs4 0 _ rfl) ?_
                        refine TL.nil (Plan.e1 (HLe.refl _) ?_)
                        refine Plan.v 9 [] (by kernel_rfl) (by kernel_rfl) (by kernel_rfl) (by kernel_rfl) rfl (fun _ _ h_ => R.neq rfl rfl rfl (TL.nil h_)) ?_
                        refine Plan.done (Post.thnN ?_)
                        refine T.condD rfl (fun c44 => ?_) (fun c44 => ?_)
                        · refine T.seq ?_
                          refine T.region ?_
                          refine R.mvE rfl (by conv => lhs; whnf) ?_
                          refine R.mvE rfl (by conv => lhs; whnf) ?_
                          refine R.mvE rfl (by conv => lhs; whnf) ?_
                          refine R.mvE rfl (by conv => lhs; whnf) ?_
                          refine R.ixp Tryz.underlying24 Tryz.sizeOf3 rfl rfl rfl (by omega) ix3' ?_
                          refine R.ld Tryz.isAgg3 rfl rfl .hd (hcs3 0 _ rfl) ?_
                          refine R.ixp Tryz.underlying24 Tryz.sizeOf3 rfl rfl rfl (by omega) (by rw [← hcl]; exact ix5) ?_
                          refine R.stE (y := y2) Tryz.sizeOf3 rfl rfl hw .hd ix5 rfl rfl rfl ?_
                          intro c51 w51
                          refine TL.nil (Post.thnN ?_)
                          refine T.region ?_
                          refine R.mvE rfl (by conv => lhs; whnf) ?_
                          refine R.addI rfl rfl rfl (by omega) ?_
                          refine R.asE rfl (by conv => lhs; whnf) ?_
                          refine TL.nil (Post.blkN ?_)
                          refine id (Post.thnN ?_)
                          refine T.region ?_
                          refine R.mvE rfl (by conv => lhs; whnf) ?_
                          refine R.addI rfl rfl rfl (by omega) ?_
                          refine R.asE rfl (by conv => lhs; whnf) ?_
                          refine TL.nil (Post.thnN ?_)
                          -- round's end, way ny011yy00y
                          exact ⟨(i + 1, j + 1, cur.set i y2, c51), s_3, ⟨⟨by omega, by show k + (j + 1) ≤ _; omega, by show i + 1 + 1 ≤ k + (j + 1); omega, by rw [List.length_set]; exact hcl⟩, rfl, rfl, by rw [List.length_set]; exact w51, by rw [set_take (by omega), htk, hkj, compactI_take hz2 hy2', if_neg c44, hkj1], fun q hq => by rw [List.getElem?_set_ne (by omega)]; exact hrest q (by omega)⟩, by show xs.length - (k + (j + 1)) < xs.length - (k + j); omega, ⟨rfl, rfl, rfl, rfl, trivial⟩⟩
                        · refine T.skip (Post.blkN ?_)
                          refine id (Post.thnN ?_)
                          refine T.region ?_
                          refine R.mvE rfl (by conv => lhs; whnf) ?_
                          refine R.addI rfl rfl rfl (by omega) ?_
                          refine R.asE rfl (by conv => lhs; whnf) ?_
                          refine TL.nil (Post.thnN ?_)
                          -- round's end, way ny011yy00n
                          exact ⟨(i, j + 1, cur, [(b3, .cells cs3 3)]), s_3, ⟨⟨by omega, by show k + (j + 1) ≤ _; omega, by show i + 1 ≤ k + (j + 1); omega, hcl⟩, rfl, rfl, hw, by rw [htk, hkj, compactI_take hz2 hy2', if_pos (Decidable.of_not_not c44), hkj1], hrest⟩, by show xs.length - (k + (j + 1)) < xs.length - (k + j); omega, ⟨rfl, rfl, rfl, rfl, trivial⟩⟩
                      · refine R.ixp Tryz.underlying24 Tryz.sizeOf3 rfl rfl rfl (by omega) ix4' ?_
                        refine TL.nil (Plan.e1 (HLe.refl _) ?_)
                        refine Plan.s2 3 8 [8, 9] [3, 9] (by kernel_rfl) (by kernel_rfl) (by kernel_rfl) rfl rfl ?_ ?_
                        · refine R.ld Tryz.isAgg3 rfl rfl .hd (hcs3 0 _ rfl) ?_
                          refine TL.nil (Plan.e1 (HLe.refl _) ?_)
                          refine Plan.s1 8 [9] (by kernel_rfl) (by kernel_rfl) rfl ?_
                          refine R.ld Tryz.isAgg3 rfl rfl .hd (hcs4 0 _ rfl) ?_
                          refine TL.nil (Plan.e1 (HLe.refl _) ?_)
                          refine Plan.v 9 [] (by kernel_rfl) (by kernel_rfl) (by kernel_rfl) (by kernel_rfl) rfl (fun _ _ h_ => R.neq rfl rfl rfl (TL.nil h_)) ?_
                          refine Plan.done (Post.thnN ?_)
                          refine T.condD rfl (fun c44 => ?_) (fun c44 => ?_)
                          · refine T.seq ?_
                            refine T.region ?_
                            refine R.mvE rfl (by conv => lhs; whnf) ?_
                            refine R.mvE rfl (by conv => lhs; whnf) ?_
                            refine R.mvE rfl (by conv => lhs; whnf) ?_
                            refine R.mvE rfl (by conv => lhs; whnf) ?_
                            refine R.ixp Tryz.underlying24 Tryz.sizeOf3 rfl rfl rfl (by omega) ix3' ?_
                            refine R.ld Tryz.isAgg3 rfl rfl .hd (hcs3 0 _ rfl) ?_
                            refine R.ixp Tryz.underlying24 Tryz.sizeOf3 rfl rfl rfl (by omega) (by rw [← hcl]; exact ix5) ?_
                            refine R.stE (y := y2) Tryz.sizeOf3 rfl rfl hw .hd ix5 rfl rfl rfl ?_
                            intro c51 w51
                            refine TL.nil (Post.thnN ?_)
                            refine T.region ?_
                            refine R.mvE rfl (by conv => lhs; whnf) ?_
                            refine R.addI rfl rfl rfl (by omega) ?_
                            refine R.asE rfl (by conv => lhs; whnf) ?_
                            refine TL.nil (Post.blkN ?_)
                            refine id (Post.thnN ?_)
                            refine T.region ?_
                            refine R.mvE rfl (by conv => lhs; whnf) ?_
                            refine R.addI rfl rfl rfl (by omega) ?_
                            refine R.asE rfl (by conv => lhs; whnf) ?_
                            refine TL.nil (Post.thnN ?_)
                            -- round's end, way ny011yy010y
                            exact ⟨(i + 1, j + 1, cur.set i y2, c51), s_3, ⟨⟨by omega, by show k + (j + 1) ≤ _; omega, by show i + 1 + 1 ≤ k + (j + 1); omega, by rw [List.length_set]; exact hcl⟩, rfl, rfl, by rw [List.length_set]; exact w51, by rw [set_take (by omega), htk, hkj, compactI_take hz2 hy2', if_neg c44, hkj1], fun q hq => by rw [List.getElem?_set_ne (by omega)]; exact hrest q (by omega)⟩, by show xs.length - (k + (j + 1)) < xs.length - (k + j); omega, ⟨rfl, rfl, rfl, rfl, trivial⟩⟩
                          · refine T.skip (Post.blkN ?_)
                            refine id (Post.thnN ?_)
                            refine T.region ?_
                            refine R.mvE rfl (by conv => lhs; whnf) ?_
                            refine R.addI rfl rfl rfl (by omega) ?_
                            refine R.asE rfl (by conv => lhs; whnf) ?_
                            refine TL.nil (Post.thnN ?_)
                            -- round's end, way ny011yy010n
                            exact ⟨(i, j + 1, cur, [(b3, .cells cs3 3)]), s_3, ⟨⟨by omega, by show k + (j + 1) ≤ _; omega, by show i + 1 ≤ k + (j + 1); omega, hcl⟩, rfl, rfl, hw, by rw [htk, hkj, compactI_take hz2 hy2', if_pos (Decidable.of_not_not c44), hkj1], hrest⟩, by show xs.length - (k + (j + 1)) < xs.length - (k + j); omega, ⟨rfl, rfl, rfl, rfl, trivial⟩⟩
                        · refine R.ld Tryz.isAgg3 rfl rfl .hd (hcs4 0 _ rfl) ?_
                          refine TL.nil (Plan.e1 (HLe.refl _) ?_)
                          refine Plan.s1 3 [9] (by kernel_rfl) (by kernel_rfl) rfl ?_
                          refine R.ld Tryz.isAgg3 rfl rfl .hd (hcs3 0 _ rfl) ?_
                          refine TL.nil (Plan.e1 (HLe.refl _) ?_)
                          refine Plan.v 9 [] (by kernel_rfl) (by kernel_rfl) (by kernel_rfl) (by kernel_rfl) rfl (fun _ _ h_ => R.neq rfl rfl rfl (TL.nil h_)) ?_
                          refine Plan.done (Post.thnN ?_)
                          refine T.condD rfl (fun c44 => ?_) (fun c44 => ?_)
                          · refine T.seq ?_
                            refine T.region ?_
                            refine R.mvE rfl (by conv => lhs; whnf) ?_
                            refine R.mvE rfl (by conv => lhs; whnf) ?_
                            refine R.mvE rfl (by conv => lhs; whnf) ?_
                            refine R.mvE rfl (by conv => lhs; whnf) ?_
                            refine R.ixp Tryz.underlying24 Tryz.sizeOf3 rfl rfl rfl (by omega) ix3' ?_
                            refine R.ld Tryz.isAgg3 rfl rfl .hd (hcs3 0 _ rfl) ?_
                            refine R.ixp Tryz.underlying24 Tryz.sizeOf3 rfl rfl rfl (by omega) (by rw [← hcl]; exact ix5) ?_
                            refine R.stE (y := y2) Tryz.sizeOf3 rfl rfl hw .hd ix5 rfl rfl rfl ?_
                            intro c51 w51
                            refine TL.nil (Post.thnN ?_)
                            refine T.region ?_
                            refine R.mvE rfl (by conv => lhs; whnf) ?_
                            refine R.addI rfl rfl rfl (by omega) ?_
                            refine R.asE rfl (by conv => lhs; whnf) ?_
                            refine TL.nil (Post.blkN ?_)
                            refine id (Post.thnN ?_)
                            refine T.region ?_
                            refine R.mvE rfl (by conv => lhs; whnf) ?_
                            refine R.addI rfl rfl rfl (by omega) ?_
                            refine R.asE rfl (by conv => lhs; whnf) ?_
                            refine TL.nil (Post.thnN ?_)
                            -- round's end, way ny011yy011y
                            exact ⟨(i + 1, j + 1, cur.set i y2, c51), s_3, ⟨⟨by omega, by show k + (j + 1) ≤ _; omega, by show i + 1 + 1 ≤ k + (j + 1); omega, by rw [List.length_set]; exact hcl⟩, rfl, rfl, by rw [List.length_set]; exact w51, by rw [set_take (by omega), htk, hkj, compactI_take hz2 hy2', if_neg c44, hkj1], fun q hq => by rw [List.getElem?_set_ne (by omega)]; exact hrest q (by omega)⟩, by show xs.length - (k + (j + 1)) < xs.length - (k + j); omega, ⟨rfl, rfl, rfl, rfl, trivial⟩⟩
                          · refine T.skip (Post.blkN ?_)
                            refine id (Post.thnN ?_)
                            refine T.region ?_
                            refine R.mvE rfl (by conv => lhs; whnf) ?_
                            refine R.addI rfl rfl rfl (by omega) ?_
                            refine R.asE rfl (by conv => lhs; whnf) ?_
                            refine TL.nil (Post.thnN ?_)
                            -- round's end, way ny011yy011n
                            exact ⟨(i, j + 1, cur, [(b3, .cells cs3 3)]), s_3, ⟨⟨by omega, by show k + (j + 1) ≤ _; omega, by show i + 1 ≤ k + (j + 1); omega, hcl⟩, rfl, rfl, hw, by rw [htk, hkj, compactI_take hz2 hy2', if_pos (Decidable.of_not_not c44), hkj1], hrest⟩, by show xs.length - (k + (j + 1)) < xs.length - (k + j); omega, ⟨rfl, rfl, rfl, rfl, trivial⟩⟩
                    · refine R.ixp Tryz.underlying24 Tryz.sizeOf3 rfl rfl rfl (by omega) ix4' ?_
                      refine TL.nil (Plan.e1 (HLe.refl _) ?_)
                      refine Plan.s2 2 8 [3, 8, 9] [2, 3, 9] (by kernel_rfl) (by kernel_rfl) (by kernel_rfl) rfl rfl ?_ ?_
                      · refine R.ixp Tryz.underlying24 Tryz.sizeOf3 rfl rfl rfl (by omega) ix3' ?_
                        refine TL.nil (Plan.e1 (HLe.refl _) ?_)
                        refine Plan.s2 3 8 [8, 9] [3, 9] (by kernel_rfl) (by kernel_rfl) (by kernel_rfl) rfl rfl ?_ ?_
                        · refine R.ld Tryz.isAgg3 rfl rfl .hd (hcs3 0 _ rfl) ?_
                          refine TL.nil (Plan.e1 (HLe.refl _) ?_)
                          refine Plan.s1 8 [9] (by kernel_rfl) (by kernel_rfl) rfl ?_
                          refine R.ld Tryz.isAgg3 rfl rfl .hd (hcs4 0 _ rfl) ?_
                          refine TL.nil (Plan.e1 (HLe.refl _) ?_)
                          refine Plan.v 9 [] (by kernel_rfl) (by kernel_rfl) (by kernel_rfl) (by kernel_rfl) rfl (fun _ _ h_ => R.neq rfl rfl rfl (TL.nil h_)) ?_
                          refine Plan.done (Post.thnN ?_)
                          refine T.condD rfl (fun c44 => ?_) (fun c44 => ?_)
                          · refine T.seq ?_
                            refine T.region ?_
                            refine R.mvE rfl (by conv => lhs; whnf) ?_
                            refine R.mvE rfl (by conv => lhs; whnf) ?_
                            refine R.mvE rfl (by conv => lhs; whnf) ?_
                            refine R.mvE rfl (by conv => lhs; whnf) ?_
                            refine R.ixp Tryz.underlying24 Tryz.sizeOf3 rfl rfl rfl (by omega) ix3' ?_
                            refine R.ld Tryz.isAgg3 rfl rfl .hd (hcs3 0 _ rfl) ?_
                            refine R.ixp Tryz.underlying24 Tryz.sizeOf3 rfl rfl rfl (by omega) (by rw [← hcl]; exact ix5) ?_
                            refine R.stE (y := y2) Tryz.sizeOf3 rfl rfl hw .hd ix5 rfl rfl rfl ?_
                            intro c51 w51
                            refine TL.nil (Post.thnN ?_)
                            refine T.region ?_
                            refine R.mvE rfl (by conv => lhs; whnf) ?_
                            refine R.addI rfl rfl rfl (by omega) ?_
                            refine R.asE rfl (by conv => lhs; whnf) ?_
                            refine TL.nil (Post.blkN ?_)
                            refine id (Post.thnN ?_)
                            refine T.region ?_
                            refine R.mvE rfl (by conv => lhs; whnf) ?_
                            refine R.addI rfl rfl rfl (by omega) ?_
                            refine R.asE rfl (by conv => lhs; whnf) ?_
                            refine TL.nil (Post.thnN ?_)
                            -- round's end, way ny011yy100y
                            exact ⟨(i + 1, j + 1, cur.set i y2, c51), s_3, ⟨⟨by omega, by show k + (j + 1) ≤ _; omega, by show i + 1 + 1 ≤ k + (j + 1); omega, by rw [List.length_set]; exact hcl⟩, rfl, rfl, by rw [List.length_set]; exact w51, by rw [set_take (by omega), htk, hkj, compactI_take hz2 hy2', if_neg c44, hkj1], fun q hq => by rw [List.getElem?_set_ne (by omega)]; exact hrest q (by omega)⟩, by show xs.length - (k + (j + 1)) < xs.length - (k + j); omega, ⟨rfl, rfl, rfl, rfl, trivial⟩⟩
                          · refine T.skip (Post.blkN ?_)
                            refine id (Post.thnN ?_)
                            refine T.region ?_
                            refine R.mvE rfl (by conv => lhs; whnf) ?_
                            refine R.addI rfl rfl rfl (by omega) ?_
                            refine R.asE rfl (by conv => lhs; whnf) ?_
                            refine TL.nil (Post.thnN ?_)
                            -- round's end, way ny011yy100n
                            exact ⟨(i, j + 1, cur, [(b3, .cells cs3 3)]), s_3, ⟨⟨by omega, by show k + (j + 1) ≤ _; omega, by show i + 1 ≤ k + (j + 1); omega, hcl⟩, rfl, rfl, hw, by rw [htk, hkj, compactI_take hz2 hy2', if_pos (Decidable.of_not_not c44), hkj1], hrest⟩, by show xs.length - (k + (j + 1)) < xs.length - (k + j); omega, ⟨rfl, rfl, rfl, rfl, trivial⟩⟩
                        · refine R.ld Tryz.isAgg3 rfl rfl .hd (hcs4 0 _ rfl) ?_
                          refine TL.nil (Plan.e1 (HLe.refl _) ?_)
                          refine Plan.s1 3 [9] (by kernel_rfl) (by kernel_rfl) rfl ?_
                          refine R.ld Tryz.isAgg3 rfl rfl .hd (hcs3 0 _ rfl) ?_
                          refine TL.nil (Plan.e1 (HLe.refl _) ?_)
                          refine Plan.v 9 [] (by kernel_rfl) (by kernel_rfl) (by kernel_rfl) (by kernel_rfl) rfl (fun _ _ h_ => R.neq rfl rfl rfl (TL.nil h_)) ?_
                          refine Plan.done (Post.thnN ?_)
                          refine T.condD rfl (fun c44 => ?_) (fun c44 => ?_)
                          · refine T.seq ?_
                            refine T.region ?_
                            refine R.mvE rfl (by conv => lhs; whnf) ?_
                            refine R.mvE rfl (by conv => lhs; whnf) ?_
                            refine R.mvE rfl (by conv => lhs; whnf) ?_
                            refine R.mvE rfl (by conv => lhs; whnf) ?_
                            refine R.ixp Tryz.underlying24 Tryz.sizeOf3 rfl rfl rfl (by omega) ix3' ?_
                            refine R.ld Tryz.isAgg3 rfl rfl .hd (hcs3 0 _ rfl) ?_
                            refine R.ixp Tryz.underlying24 Tryz.sizeOf3 rfl rfl rfl (by omega) (by rw [← hcl]; exact ix5) ?_
                            refine R.stE (y := y2) Tryz.sizeOf3 rfl rfl hw .hd ix5 rfl rfl rfl ?_
                            intro c51 w51
                            refine TL.nil (Post.thnN ?_)
                            refine T.region ?_
                            refine R.mvE rfl (by conv => lhs; whnf) ?_
                            refine R.addI rfl rfl rfl (by omega) ?_
                            refine R.asE rfl (by conv => lhs; whnf) ?_
                            refine TL.nil (Post.blkN ?_)
                            refine id (Post.thnN ?_)
                            refine T.region ?_
                            refine R.mvE rfl (by conv => lhs; whnf) ?_
                            refine R.addI rfl rfl rfl (by omega) ?_
                            refine R.asE rfl (by conv => lhs; whnf) ?_
                            refine TL.nil (Post.thnN ?_)
                            -- round's end, way ny011yy101y
                            exact ⟨(i + 1, j + 1, cur.set i y2, c51), s_3, ⟨⟨by omega, by show k + (j + 1) ≤ _; omega, by show i + 1 + 1 ≤ k + (j + 1); omega, by rw [List.length_set]; exact hcl⟩, rfl, rfl, by rw [List.length_set]; exact w51, by rw [set_take (by omega), htk, hkj, compactI_take hz2 hy2', if_neg c44, hkj1], fun q hq => by rw [List.getElem?_set_ne (by omega)]; exact hrest q (by omega)⟩, by show xs.length - (k + (j + 1)) < xs.length - (k + j); omega, ⟨rfl, rfl, rfl, rfl, trivial⟩⟩
                          · refine T.skip (Post.blkN ?_)
                            refine id (Post.thnN ?_)
                            refine T.region ?_
                            refine R.mvE rfl (by conv => lhs; whnf) ?_
                            refine R.addI rfl rfl rfl (by omega) ?_
                            refine R.asE rfl (by conv => lhs; whnf) ?_
                            refine TL.nil (Post.thnN ?_)
                            -- round's end, way ny011yy101n
                            exact ⟨(i, j + 1, cur, [(b3, .cells cs3 3)]), s_3, ⟨⟨by omega, by show k + (j + 1) ≤ _; omega, by show i + 1 ≤ k + (j + 1); omega, hcl⟩, rfl, rfl, hw, by rw [htk, hkj, compactI_take hz2 hy2', if_pos (Decidable.of_not_not c44), hkj1], hrest⟩, by show xs.length - (k + (j + 1)) < xs.length - (k + j); omega, ⟨rfl, rfl, rfl, rfl, trivial⟩⟩
                      · refine R.ld Tryz.isAgg3 rfl rfl .hd (hcs4 0 _ rfl) ?_
                        refine TL.nil (Plan.e1 (HLe.refl _) ?_)
                        refine Plan.s1 2 [3, 9] (by kernel_rfl) (by kernel_rfl) rfl ?_
                        refine R.ixp Tryz.underlying24 Tryz.sizeOf3 rfl rfl rfl (by omega) ix3' ?_
                        refine TL.nil (Plan.e1 (HLe.refl _) ?_)
                        refine Plan.s1 3 [9] (by kernel_rfl) (by kernel_rfl) rfl ?_
                        refine R.ld Tryz.isAgg3 rfl rfl .hd (hcs3 0 _ rfl) ?_
                        refine TL.nil (Plan.e1 (HLe.refl _) ?_)
                        refine Plan.v 9 [] (by kernel_rfl) (by kernel_rfl) (by kernel_rfl) (by kernel_rfl) rfl (fun _ _ h_ => R.neq rfl rfl rfl (TL.nil h_)) ?_
                        refine Plan.done (Post.thnN ?_)
                        refine T.condD rfl (fun c44 => ?_) (fun c44 => ?_)
                        · refine T.seq ?_
                          refine T.region ?_
                          refine R.mvE rfl (by conv => lhs; whnf) ?_
                          refine R.mvE rfl (by conv => lhs; whnf) ?_
                          refine R.mvE rfl (by conv => lhs; whnf) ?_
                          refine R.mvE rfl (by conv => lhs; whnf) ?_
                          refine R.ixp Tryz.underlying24 Tryz.sizeOf3 rfl rfl rfl (by omega) ix3' ?_
                          refine R.ld Tryz.isAgg3 rfl rfl .hd (hcs3 0 _ rfl) ?_
                          refine R.ixp Tryz.underlying24 Tryz.sizeOf3 rfl rfl rfl (by omega) (by rw [← hcl]; exact ix5) ?_
                          refine R.stE (y := y2) Tryz.sizeOf3 rfl rfl hw .hd ix5 rfl rfl rfl ?_
                          intro c51 w51
                          refine TL.nil (Post.thnN ?_)
                          refine T.region ?_
                          refine R.mvE rfl (by conv => lhs; whnf) ?_
                          refine R.addI rfl rfl rfl (by omega) ?_
                          refine R.asE rfl (by conv => lhs; whnf) ?_
                          refine TL.nil (Post.blkN ?_)
                          refine id (Post.thnN ?_)
                          refine T.region ?_
                          refine R.mvE rfl (by conv => lhs; whnf) ?_
                          refine R.addI rfl rfl rfl (by omega) ?_
                          refine R.asE rfl (by conv => lhs; whnf) ?_
                          refine TL.nil (Post.thnN ?_)
                          -- round's end, way ny011yy11y
                          exact ⟨(i + 1, j + 1, cur.set i y2, c51), s_3, ⟨⟨by omega, by show k + (j + 1) ≤ _; omega, by show i + 1 + 1 ≤ k + (j + 1); omega, by rw [List.length_set]; exact hcl⟩, rfl, rfl, by rw [List.length_set]; exact w51, by rw [set_take (by omega), htk, hkj, compactI_take hz2 hy2', if_neg c44, hkj1], fun q hq => by rw [List.getElem?_set_ne (by omega)]; exact hrest q (by omega)⟩, by show xs.length - (k + (j + 1)) < xs.length - (k + j); omega, ⟨rfl, rfl, rfl, rfl, trivial⟩⟩
                        · refine T.skip (Post.blkN ?_)
                          refine id (Post.thnN ?_)
                          refine T.region ?_
                          refine R.mvE rfl (by conv => lhs; whnf) ?_
                          refine R.addI rfl rfl rfl (by omega) ?_
                          refine R.asE rfl (by conv => lhs; whnf) ?_
                          refine TL.nil (Post.thnN ?_)
                          -- round's end, way ny011yy11n
                          exact ⟨(i, j + 1, cur, [(b3, .cells cs3 3)]), s_3, ⟨⟨by omega, by show k + (j + 1) ≤ _; omega, by show i + 1 ≤ k + (j + 1); omega, hcl⟩, rfl, rfl, hw, by rw [htk, hkj, compactI_take hz2 hy2', if_pos (Decidable.of_not_not c44), hkj1], hrest⟩, by show xs.length - (k + (j + 1)) < xs.length - (k + j); omega, ⟨rfl, rfl, rfl, rfl, trivial⟩⟩
                  · have hje : k + j = xs.length := by omega
                    rw [hje, List.take_length] at htk
                    have hil : (cur.take i).length = i := by simp; omega
                    refine T.exit (Post.thnE (Post.thnE (Post.blkX ?_)))
                    refine id (Post.thnN ?_)
                    refine T.seq ?_
                    refine T.region ?_
                    refine R.mvE rfl (by conv => lhs; whnf) ?_
                    refine R.mvE rfl (by conv => lhs; whnf) ?_
                    refine R.sL Tryz.underlying24 Tryz.sizeOf3 rfl rfl rfl (by omega) (by omega) ?_
                    refine R.clr (dd := none) (xs := cur.take i) Tryz_ty24 (zone_of (z := .int .i64 0) (by kernel_rfl) (by intro v hv; have e0 : v = .int .i64 0 := (by simpa [Value.cells] using hv); subst e0; rfl)) rfl (fun q h => by cases h) (m := xs.length) (by rw [hil]; rfl) (by rw [hil]; exact own_take0 hw (by omega)) .hd (by omega) (by omega) ?_
                    intro c57 w57
                    refine TL.nil (Post.thnN ?_)
                    refine T.seq ?_
                    refine T.region ?_
                    refine R.mvE rfl (by conv => lhs; whnf) ?_
                    refine R.mvE rfl (by conv => lhs; whnf) ?_
                    refine R.sH Tryz.underlying24 Tryz.sizeOf3 rfl rfl rfl (by omega) (by omega) ?_
                    refine R.asE rfl (by conv => lhs; whnf) ?_
                    refine TL.nil (Post.thnN ?_)
                    refine T.ret (Post.blkR (Post.thnR (Post.thnR (Post.blkR (Post.thnR ?_)))))
                    -- way ny011yn
                    refine fin1L [c57] rfl rfl (List.Sublist.refl _) ⟨_, rfl, ?_⟩
                    show OwnS (intE .i64) 3 _ (slcV (.slice A xs.length cap) 0 i cap 1) (compactI xs) c57
                    rw [slc_take0, ← htk]
                    rw [hil] at w57
                    exact w57
              · refine T.skip (Post.blkN ?_)
                refine id (Post.thnN ?_)
                refine T.region ?_
                refine R.mvE rfl (by conv => lhs; whnf) ?_
                refine R.addI rfl rfl rfl (by omega) ?_
                refine R.asE rfl (by conv => lhs; whnf) ?_
                refine TL.nil (Post.thnN ?_)
                -- round's end, way ny011n
                exact ⟨k + 1, s_0, ⟨⟨by omega, by omega⟩, rfl, rfl, by rw [show k + 1 = (k - 1) + 2 by omega, compactI_take hz hy1, if_neg c25, show k - 1 + 1 = k by omega, hco, show k - 1 + 2 = k + 1 by omega, take_snoc _ _ _ hy]⟩, by omega, ⟨rfl, rfl, trivial⟩⟩
        · refine R.ixp Tryz.underlying24 Tryz.sizeOf3 rfl rfl rfl (by omega) ix2 ?_
          refine TL.nil (Plan.e1 (HLe.refl _) ?_)
          refine Plan.s2 2 8 [3, 8, 9] [2, 3, 9] (by kernel_rfl) (by kernel_rfl) (by kernel_rfl) rfl rfl ?_ ?_
          · refine R.ixp Tryz.underlying24 Tryz.sizeOf3 rfl rfl rfl (by omega) ix1 ?_
            refine TL.nil (Plan.e1 (HLe.refl _) ?_)
            refine Plan.s2 3 8 [8, 9] [3, 9] (by kernel_rfl) (by kernel_rfl) (by kernel_rfl) rfl rfl ?_ ?_
            · refine R.ld Tryz.isAgg3 rfl rfl .hd (hcs1 0 _ rfl) ?_
              refine TL.nil (Plan.e1 (HLe.refl _) ?_)
              refine Plan.s1 8 [9] (by kernel_rfl) (by kernel_rfl) rfl ?_
              refine R.ld Tryz.isAgg3 rfl rfl .hd (hcs2 0 _ rfl) ?_
              refine TL.nil (Plan.e1 (HLe.refl _) ?_)
              refine Plan.v 9 [] (by kernel_rfl) (by kernel_rfl) (by kernel_rfl) (by kernel_rfl) rfl (fun _ _ h_ => R.eql rfl rfl rfl (TL.nil h_)) ?_
              refine Plan.done (Post.thnN ?_)
              refine T.condD rfl (fun c25 => ?_) (fun c25 => ?_)
              · refine T.seq ?_
                refine T.region ?_
                refine R.mvE rfl (by conv => lhs; whnf) ?_
                refine R.mvE rfl (by conv => lhs; whnf) ?_
                refine R.sL Tryz.underlying24 Tryz.sizeOf3 rfl rfl rfl (by omega) (by omega) ?_
                refine R.asE rfl (by conv => lhs; whnf) ?_
                refine TL.nil (Post.thnN ?_)
                refine T.seq ?_
                refine T.seq ?_
                refine T.region ?_
                refine R.asE rfl (by conv => lhs; whnf) ?_
                refine TL.nil (Post.thnN ?_)
                refine T.block ?_
                refine T.loop (ι := Nat × Nat × List Int × Chunk) (fun ⟨i, j, cur, ch2⟩ H' L' ds' => (1 ≤ j ∧ k + j ≤ xs.length ∧ i + 1 ≤ k + j ∧ cur.length = xs.length) ∧ L' = [ch2] ∧ ds' = [] ∧ OwnS (intE .i64) 3 H' (.slice A cur.length cap) cur ch2 ∧ cur.take i = compactI (xs.take (k + j)) ∧ (∀ q, i ≤ q → cur[q]? = xs[q]?)) (fun ⟨i, j, cur, ch2⟩ => [(0, .slice A xs.length cap), (3, .int .i64 i), (4, slcV (.slice A xs.length cap) k xs.length cap 1), (5, .int .i64 j)]) (fun ⟨i, j, cur, ch2⟩ => xs.length - (k + j)) ((k, 1, xs, [(b1, .cells cs1 3)])) ?_ ?_ ?_
                · exact ⟨⟨by omega, by omega, by omega, rfl⟩, rfl, rfl, ho, by rw [hk2, compactI_take hz hy1, if_pos c25, show k - 1 + 1 = k by omega, hco], fun q hq => rfl⟩
                · exact ⟨rfl, rfl, rfl, rfl, trivial⟩
                · intro ⟨i, j, cur, ch2⟩ σ4 H_4 L_4 ds_4 s_4 hI_4
                  obtain ⟨⟨hj1, hj2, hij, hcl⟩, rfl, rfl, hw, htk, hrest⟩ := hI_4
                  refine T.seq ?_
                  refine T.seq ?_
                  refine T.region ?_
                  refine R.mvE rfl (by conv => lhs; whnf) ?_
                  refine R.mvE rfl (by conv => lhs; whnf) ?_
                  refine R.len Tryz.underlying24 rfl rfl ?_
                  refine R.lss rfl rfl rfl ?_
                  refine TL.nil (Post.thnN ?_)
                  refine T.condD rfl (fun c32 => ?_) (fun c32 => ?_)
                  · have hlt2 : k + j < xs.length := by omega
                    obtain ⟨y2, hy2⟩ := getk hlt2
                    obtain ⟨z2, hz2⟩ := getk (xs := xs) (k := k + j - 1) (by omega)
                    have hkj : k + (j + 1) = (k + j - 1) + 2 := by omega
                    have hkj1 : k + j - 1 + 1 = k + j := by omega
                    have hy2' : xs[k + j - 1 + 1]? = some y2 := by rw [hkj1]; exact hy2
                    have hcy : cur[k + j]? = some y2 := by rw [hrest _ (by omega)]; exact hy2
                    have hcz : cur[k + ((j : Int) - 1).toNat]? = some z2 := by rw [show k + ((j : Int) - 1).toNat = k + j - 1 by omega, hrest _ (by omega)]; exact hz2
                    obtain ⟨yi, hci⟩ := getk (xs := cur) (k := i) (by omega)
                    obtain ⟨b3, k3, cs3, l3, hce3, hve3, ix3, hR3, hcs3⟩ := hw.elem hcy
                    obtain rfl : l3 = [.int .i64 y2] := hR3
                    obtain ⟨b4, k4, cs4, l4, hce4, hve4, ix4, hR4, hcs4⟩ := hw.elem hcz
                    obtain rfl : l4 = [.int .i64 z2] := hR4
                    obtain ⟨b5, k5, cs5, l5, hce5, hve5, ix5, hR5, hcs5⟩ := hw.elem hci
                    subst hce3
                    obtain ⟨rfl, rfl⟩ : b3 = b4 ∧ cs3 = cs4 := by simpa using hce4
                    obtain ⟨rfl, rfl⟩ : b3 = b5 ∧ cs3 = cs5 := by simpa using hce5
                    obtain rfl : cap = k3 := by injection hve3
                    rw [hcl] at hve3
                    have ix3' := ix_off (sz := 1) (k := k) (i := j) hve3 (by omega) (by omega) (by omega)
                    have ix4' := ix_off (sz := 1) (k := k) (i := ((j : Int) - 1).toNat) hve3 (by omega) (by omega) (by omega)
                    refine T.skip (Post.thnN ?_)
                    refine T.seq ?_
                    refine T.block ?_
                    refine T.seq ?_
                    refine T.draw Tryz_mixed (by kernel_rfl) ?_
                    refine Plan.v 0 [1, 2, 3, 4, 5, 6, 7, 8, 9] (by kernel_rfl) (by kernel_rfl) (by kernel_rfl) (by kernel_rfl) rfl (fun _ _ h_ => R.mvE rfl (by conv => lhs; whnf) (TL.nil h_)) ?_
                    refine Plan.v 1 [2, 3, 4, 5, 6, 7, 8, 9] (by kernel_rfl) (by kernel_rfl) (by kernel_rfl) (by kernel_rfl) rfl (fun _ _ h_ => R.mvE rfl (by conv => lhs; whnf) (TL.nil h_)) ?_
                    refine Plan.v 4 [2, 3, 5, 6, 7, 8, 9] (by kernel_rfl) (by kernel_rfl) (by kernel_rfl) (by kernel_rfl) rfl (fun _ _ h_ => R.mvE rfl (by conv => lhs; whnf) (TL.nil h_)) ?_
                    refine Plan.v 5 [2, 3, 6, 7, 8, 9] (by kernel_rfl) (by kernel_rfl) (by kernel_rfl) (by kernel_rfl) rfl (fun _ _ h_ => R.mvE rfl (by conv => lhs; whnf) (TL.nil h_)) ?_
                    refine Plan.v 6 [2, 3, 7, 8, 9] (by kernel_rfl) (by kernel_rfl) (by kernel_rfl) (by kernel_rfl) rfl (fun _ _ h_ => R.subI rfl rfl rfl (by omega) (TL.nil h_)) ?_
                    refine Plan.s2 2 7 [3, 7, 8, 9] [2, 3, 8, 9] (by kernel_rfl) (by kernel_rfl) (by kernel_rfl) rfl rfl ?_ ?_
                    · refine R.ixp Tryz.underlying24 Tryz.sizeOf3 rfl rfl rfl (by omega) ix3' ?_
                      refine TL.nil (Plan.e1 (HLe.refl _) ?_)
                      refine Plan.s2 3 7 [7, 8, 9] [3, 8, 9] (by kernel_rfl) (by kernel_rfl) (by kernel_rfl) rfl rfl ?_ ?_
                      · refine R.ld Tryz.isAgg3 rfl rfl .hd (hcs3 0 _ rfl) ?_
                        refine TL.nil (Plan.e1 (HLe.refl _) ?_)
                        refine Plan.s1 7 [8, 9] (by kernel_rfl) (by kernel_rfl) rfl ?_
                        refine R.ixp Tryz.underlying24 Tryz.sizeOf3 rfl rfl rfl (by omega) ix4' ?_
                        refine TL.nil (Plan.e1 (HLe.refl _) ?_)
                        refine Plan.s1 8 [9] (by kernel_rfl) (by kernel_rfl) rfl ?_
                        refine R.ld Tryz.isAgg3 rfl rfl .hd (hcs4 0 _ rfl) ?_
                        refine TL.nil (Plan.e1 (HLe.refl _) ?_)
                        refine Plan.v 9 [] (by kernel_rfl) (by kernel_rfl) (by kernel_rfl) (by kernel_rfl) rfl (fun _ _ h_ => R.neq rfl rfl rfl (TL.nil h_)) ?_
                        refine Plan.done (Post.thnN ?_)
                        refine T.condD rfl (fun c44 => ?_) (fun c44 => ?_)
                        · refine T.seq ?_
                          refine T.region ?_
                          refine R.mvE rfl (by conv => lhs; whnf) ?_
                          refine R.mvE rfl (by conv => lhs; whnf) ?_
                          refine R.mvE rfl (by conv => lhs; whnf) ?_
                          refine R.mvE rfl (by conv => lhs; whnf) ?_
                          refine R.ixp Tryz.underlying24 Tryz.sizeOf3 rfl rfl rfl (by omega) ix3' ?_
                          refine R.ld Tryz.isAgg3 rfl rfl .hd (hcs3 0 _ rfl) ?_
                          refine R.ixp Tryz.underlying24 Tryz.sizeOf3 rfl rfl rfl (by omega) (by rw [← hcl]; exact ix5) ?_
                          refine R.stE (y := y2) Tryz.sizeOf3 rfl rfl hw .hd ix5 rfl rfl rfl ?_
                          intro c51 w51
                          refine TL.nil (Post.thnN ?_)
                          refine T.region ?_
                          refine R.mvE rfl (by conv => lhs; whnf) ?_
                          refine R.addI rfl rfl rfl (by omega) ?_
                          refine R.asE rfl (by conv => lhs; whnf) ?_
                          refine TL.nil (Post.blkN ?_)
                          refine id (Post.thnN ?_)
                          refine T.region ?_
                          refine R.mvE rfl (by conv => lhs; whnf) ?_
                          refine R.addI rfl rfl rfl (by omega) ?_
                          refine R.asE rfl (by conv => lhs; whnf) ?_
                          refine TL.nil (Post.thnN ?_)
                          -- round's end, way ny100yy00y
                          exact ⟨(i + 1, j + 1, cur.set i y2, c51), s_4, ⟨⟨by omega, by show k + (j + 1) ≤ _; omega, by show i + 1 + 1 ≤ k + (j + 1); omega, by rw [List.length_set]; exact hcl⟩, rfl, rfl, by rw [List.length_set]; exact w51, by rw [set_take (by omega), htk, hkj, compactI_take hz2 hy2', if_neg c44, hkj1], fun q hq => by rw [List.getElem?_set_ne (by omega)]; exact hrest q (by omega)⟩, by show xs.length - (k + (j + 1)) < xs.length - (k + j); omega, ⟨rfl, rfl, rfl, rfl, trivial⟩⟩
                        · refine T.skip (Post.blkN ?_)
                          refine id (Post.thnN ?_)
                          refine T.region ?_
                          refine R.mvE rfl (by conv => lhs; whnf) ?_
                          refine R.addI rfl rfl rfl (by omega) ?_
                          refine R.asE rfl (by conv => lhs; whnf) ?_
                          refine TL.nil (Post.thnN ?_)
                          -- round's end, way ny100yy00n
                          exact ⟨(i, j + 1, cur, [(b3, .cells cs3 3)]), s_4, ⟨⟨by omega, by show k + (j + 1) ≤ _; omega, by show i + 1 ≤ k + (j + 1); omega, hcl⟩, rfl, rfl, hw, by rw [htk, hkj, compactI_take hz2 hy2', if_pos (Decidable.of_not_not c44), hkj1], hrest⟩, by show xs.length - (k + (j + 1)) < xs.length - (k + j); omega, ⟨rfl, rfl, rfl, rfl, trivial⟩⟩
                      · refine R.ixp Tryz.underlying24 Tryz.sizeOf3 rfl rfl rfl (by omega) ix4' ?_
                        refine TL.nil (Plan.e1 (HLe.refl _) ?_)
                        refine Plan.s2 3 8 [8, 9] [3, 9] (by kernel_rfl) (by kernel_rfl) (by kernel_rfl) rfl rfl ?_ ?_
                        · refine R.ld Tryz.isAgg3 rfl rfl .hd (hcs3 0 _ rfl) ?_
                          refine TL.nil (Plan.e1 (HLe.refl _) ?_)
                          refine Plan.s1 8 [9] (by kernel_rfl) (by kernel_rfl) rfl ?_
                          refine R.ld Tryz.isAgg3 rfl rfl .hd (hcs4 0 _ rfl) ?_
                          refine TL.nil (Plan.e1 (HLe.refl _) ?_)
                          refine Plan.v 9 [] (by kernel_rfl) (by kernel_rfl) (by kernel_rfl) (by kernel_rfl) rfl (fun _ _ h_ => R.neq rfl rfl rfl (TL.nil h_)) ?_
                          refine Plan.done (Post.thnN ?_)
                          refine T.condD rfl (fun c44 => ?_) (fun c44 => ?_)
                          · refine T.seq ?_
                            refine T.region ?_
                            refine R.mvE rfl (by conv => lhs; whnf) ?_
                            refine R.mvE rfl (by conv => lhs; whnf) ?_
                            refine R.mvE rfl (by conv => lhs; whnf) ?_
                            refine R.mvE rfl (by conv => lhs; whnf) ?_
                            refine R.ixp Tryz.underlying24 Tryz.sizeOf3 rfl rfl rfl (by omega) ix3' ?_
                            refine R.ld Tryz.isAgg3 rfl rfl .hd (hcs3 0 _ rfl) ?_
                            refine R.ixp Tryz.underlying24 Tryz.sizeOf3 rfl rfl rfl (by omega) (by rw [← hcl]; exact ix5) ?_
                            refine R.stE (y := y2) Tryz.sizeOf3 rfl rfl hw .hd ix5 rfl rfl rfl ?_
                            intro c51 w51
                            refine TL.nil (Post.thnN ?_)
                            refine T.region ?_
                            refine R.mvE rfl (by conv => lhs; whnf) ?_
                            refine R.addI rfl rfl rfl (by omega) ?_
                            refine R.asE rfl (by conv => lhs; whnf) ?_
                            refine TL.nil (Post.blkN ?_)
                            refine id (Post.thnN ?_)
                            refine T.region ?_
                            refine R.mvE rfl (by conv => lhs; whnf) ?_
                            refine R.addI rfl rfl rfl (by omega) ?_
                            refine R.asE rfl (by conv => lhs; whnf) ?_
                            refine TL.nil (Post.thnN ?_)
                            -- round's end, way ny100yy010y
                            exact ⟨(i + 1, j + 1, cur.set i y2, c51), s_4, ⟨⟨by omega, by show k + (j + 1) ≤ _; omega, by show i + 1 + 1 ≤ k + (j + 1); omega, by rw [List.length_set]; exact hcl⟩, rfl, rfl, by rw [List.length_set]; exact w51, by rw [set_take (by omega), htk, hkj, compactI_take hz2 hy2', if_neg c44, hkj1], fun q hq => by rw [List.getElem?_set_ne (by omega)]; exact hrest q (by omega)⟩, by show xs.length - (k + (j + 1)) < xs.length - (k + j); omega, ⟨rfl, rfl, rfl, rfl, trivial⟩⟩
                          · refine T.skip (Post.blkN ?_)
                            refine id (Post.thnN ?_)
                            refine T.region ?_
                            refine R.mvE rfl (by conv => lhs; whnf) ?_
                            refine R.addI rfl rfl rfl (by omega) ?_
                            refine R.asE rfl (by conv => lhs; whnf) ?_
                            refine TL.nil (Post.thnN ?_)
                            -- round's end, way ny100yy010n
                            exact ⟨(i, j + 1, cur, [(b3, .cells cs3 3)]), s_4, ⟨⟨by omega, by show k + (j + 1) ≤ _; omega, by show i + 1 ≤ k + (j + 1); omega, hcl⟩, rfl, rfl, hw, by rw [htk, hkj, compactI_take hz2 hy2', if_pos (Decidable.of_not_not c44), hkj1], hrest⟩, by show xs.length - (k + (j + 1)) < xs.length - (k + j); omega, ⟨rfl, rfl, rfl, rfl, trivial⟩⟩
                        · refine R.ld Tryz.isAgg3 rfl rfl .hd (hcs4 0 _ rfl) ?_
                          refine TL.nil (Plan.e1 (HLe.refl _) ?_)
                          refine Plan.s1 3 [9] (by kernel_rfl) (by kernel_rfl) rfl ?_
                          refine R.ld Tryz.isAgg3 rfl rfl .hd (hcs3 0 _ rfl) ?_
                          refine TL.nil (Plan.e1 (HLe.refl _) ?_)
                          refine Plan.v 9 [] (by kernel_rfl) (by kernel_rfl) (by kernel_rfl) (by kernel_rfl) rfl (fun _ _ h_ => R.neq rfl rfl rfl (TL.nil h_)) ?_
                          refine Plan.done (Post.thnN ?_)
                          refine T.condD rfl (fun c44 => ?_) (fun c44 => ?_)
                          · refine T.seq ?_
                            refine T.region ?_
                            refine R.mvE rfl (by conv => lhs; whnf) ?_
                            refine R.mvE rfl (by conv => lhs; whnf) ?_
                            refine R.mvE rfl (by conv => lhs; whnf) ?_
                            refine R.mvE rfl (by conv => lhs; whnf) ?_
                            refine R.ixp Tryz.underlying24 Tryz.sizeOf3 rfl rfl rfl (by omega) ix3' ?_
                            refine R.ld Tryz.isAgg3 rfl rfl .hd (hcs3 0 _ rfl) ?_
                            refine R.ixp Tryz.underlying24 Tryz.sizeOf3 rfl rfl rfl (by omega) (by rw [← hcl]; exact ix5) ?_
                            refine R.stE (y := y2) Tryz.sizeOf3 rfl rfl hw .hd ix5 rfl rfl rfl ?_
                            intro c51 w51
                            refine TL.nil (Post.thnN ?_)
                            refine T.region ?_
                            refine R.mvE rfl (by conv => lhs; whnf) ?_
                            refine R.addI rfl rfl rfl (by omega) ?_
                            refine R.asE rfl (by conv => lhs; whnf) ?_
                            refine TL.nil (Post.blkN ?_)
                            refine id (Post.thnN ?_)
                            refine T.region ?_
                            refine R.mvE rfl (by conv => lhs; whnf) ?_
                            refine R.addI rfl rfl rfl (by omega) ?_
                            refine R.asE rfl (by conv => lhs; whnf) ?_
                            refine TL.nil (Post.thnN ?_)
                            -- round's end, way ny100yy011y
                            exact ⟨(i + 1, j + 1, cur.set i y2, c51), s_4, ⟨⟨by omega, by show k + (j + 1) ≤ _; omega, by show i + 1 + 1 ≤ k + (j + 1); omega, by rw [List.length_set]; exact hcl⟩, rfl, rfl, by rw [List.length_set]; exact w51, by rw [set_take (by omega), htk, hkj, compactI_take hz2 hy2', if_neg c44, hkj1], fun q hq => by rw [List.getElem?_set_ne (by omega)]; exact hrest q (by omega)⟩, by show xs.length - (k + (j + 1)) < xs.length - (k + j); omega, ⟨rfl, rfl, rfl, rfl, trivial⟩⟩
                          · refine T.skip (Post.blkN ?_)
                            refine id (Post.thnN ?_)
                            refine T.region ?_
                            refine R.mvE rfl (by conv => lhs; whnf) ?_
                            refine R.addI rfl rfl rfl (by omega) ?_
                            refine R.asE rfl (by conv => lhs; whnf) ?_
                            refine TL.nil (Post.thnN ?_)
                            -- round's end, way ny100yy011n
                            exact ⟨(i, j + 1, cur, [(b3, .cells cs3 3)]), s_4, ⟨⟨by omega, by show k + (j + 1) ≤ _; omega, by show i + 1 ≤ k + (j + 1); omega, hcl⟩, rfl, rfl, hw, by rw [htk, hkj, compactI_take hz2 hy2', if_pos (Decidable.of_not_not c44), hkj1], hrest⟩, by show xs.length - (k + (j + 1)) < xs.length - (k + j); omega, ⟨rfl, rfl, rfl, rfl, trivial⟩⟩
                    · refine R.ixp Tryz.underlying24 Tryz.sizeOf3 rfl rfl rfl (by omega) ix4' ?_
                      refine TL.nil (Plan.e1 (HLe.refl _) ?_)
                      refine Plan.s2 2 8 [3, 8, 9] [2, 3, 9] (by kernel_rfl) (by kernel_rfl) (by kernel_rfl) rfl rfl ?_ ?_
                      · refine R.ixp Tryz.underlying24 Tryz.sizeOf3 rfl rfl rfl (by omega) ix3' ?_
                        refine TL.nil (Plan.e1 (HLe.refl _) ?_)
                        refine Plan.s2 3 8 [8, 9] [3, 9] (by kernel_rfl) (by kernel_rfl) (by kernel_rfl) rfl rfl ?_ ?_
                        · refine R.ld Tryz.isAgg3 rfl rfl .hd (hcs3 0 _ rfl) ?_
                          refine TL.nil (Plan.e1 (HLe.refl _) ?_)
                          refine Plan.s1 8 [9] (by kernel_rfl) (by kernel_rfl) rfl ?_
                          refine R.ld Tryz.isAgg3 rfl rfl .hd (hcs4 0 _ rfl) ?_
                          refine TL.nil (Plan.e1 (HLe.refl _) ?_)
                          refine Plan.v 9 [] (by kernel_rfl) (by kernel_rfl) (by kernel_rfl) (by kernel_rfl) rfl (fun _ _ h_ => R.neq rfl rfl rfl (TL.nil h_)) ?_
                          refine Plan.done (Post.thnN ?_)
                          refine T.condD rfl (fun c44 => ?_) (fun c44 => ?_)
                          · refine T.seq ?_
                            refine T.region ?_
                            refine R.mvE rfl (by conv => lhs; whnf) ?_
                            refine R.mvE rfl (by conv => lhs; whnf) ?_
                            refine R.mvE rfl (by conv => lhs; whnf) ?_
                            refine R.mvE rfl (by conv => lhs; whnf) ?_
                            refine R.ixp Tryz.underlying24 Tryz.sizeOf3 rfl rfl rfl (by omega) ix3' ?_
                            refine R.ld Tryz.isAgg3 rfl rfl .hd (hcs3 0 _ rfl) ?_
                            refine R.ixp Tryz.underlying24 Tryz.sizeOf3 rfl rfl rfl (by omega) (by rw [← hcl]; exact ix5) ?_
                            refine R.stE (y := y2) Tryz.sizeOf3 rfl rfl hw .hd ix5 rfl rfl rfl ?_
                            intro c51 w51
                            refine TL.nil (Post.thnN ?_)
                            refine T.region ?_
                            refine R.mvE rfl (by conv => lhs; whnf) ?_
                            refine R.addI rfl rfl rfl (by omega) ?_
                            refine R.asE rfl (by conv => lhs; whnf) ?_
                            refine TL.nil (Post.blkN ?_)
                            refine id (Post.thnN ?_)
                            refine T.region ?_
                            refine R.mvE rfl (by conv => lhs; whnf) ?_
                            refine R.addI rfl rfl rfl (by omega) ?_
                            refine R.asE rfl (by conv => lhs; whnf) ?_
                            refine TL.nil (Post.thnN ?_)
                            -- round's end, way ny100yy100y
                            exact ⟨(i + 1, j + 1, cur.set i y2, c51), s_4, ⟨⟨by omega, by show k + (j + 1) ≤ _; omega, by show i + 1 + 1 ≤ k + (j + 1); omega, by rw [List.length_set]; exact hcl⟩, rfl, rfl, by rw [List.length_set]; exact w51, by rw [set_take (by omega), htk, hkj, compactI_take hz2 hy2', if_neg c44, hkj1], fun q hq => by rw [List.getElem?_set_ne (by omega)]; exact hrest q (by omega)⟩, by show xs.length - (k + (j + 1)) < xs.length - (k + j); omega, ⟨rfl, rfl, rfl, rfl, trivial⟩⟩
                          · refine T.skip (Post.blkN ?_)
                            refine id (Post.thnN ?_)
                            refine T.region ?_
                            refine R.mvE rfl (by conv => lhs; whnf) ?_
                            refine R.addI rfl rfl rfl (by omega) ?_
                            refine R.asE rfl (by conv => lhs; whnf) ?_
                            refine TL.nil (Post.thnN ?_)
                            -- round's end, way ny100yy100n
                            exact ⟨(i, j + 1, cur, [(b3, .cells cs3 3)]), s_4, ⟨⟨by omega, by show k + (j + 1) ≤ _; omega, by show i + 1 ≤ k + (j + 1); omega, hcl⟩, rfl, rfl, hw, by rw [htk, hkj, compactI_take hz2 hy2', if_pos (Decidable.of_not_not c44), hkj1], hrest⟩, by show xs.length - (k + (j + 1)) < xs.length - (k + j); omega, ⟨rfl, rfl, rfl, rfl, trivial⟩⟩
                        · refine R.ld Tryz.isAgg3 rfl rfl .hd (hcs4 0 _ rfl) ?_
                          refine TL.nil (Plan.e1 (HLe.refl _) ?_)
                          refine Plan.s1 3 [9] (by kernel_rfl) (by kernel_rfl) rfl ?_
                          refine R.ld Tryz.isAgg3 rfl rfl .hd (hcs3 0 _ rfl) ?_
                          refine TL.nil (Plan.e1 (HLe.refl _) ?_)
                          refine Plan.v 9 [] (by kernel_rfl) (by kernel_rfl) (by kernel_rfl) (by kernel_rfl) rfl (fun _ _ h_ => R.neq rfl rfl rfl (TL.nil h_)) ?_
                          refine Plan.done (Post.thnN ?_)
                          refine T.condD rfl (fun c44 => ?_) (fun c44 => ?_)
                          · refine T.seq ?_
                            refine T.region ?_
                            refine R.mvE rfl (by conv => lhs; whnf) ?_
                            refine R.mvE rfl (by conv => lhs; whnf) ?_
                            refine R.mvE rfl (by conv => lhs; whnf) ?_
                            refine R.mvE rfl (by conv => lhs; whnf) ?_
                            refine R.ixp Tryz.underlying24 Tryz.sizeOf3 rfl rfl rfl (by omega) ix3' ?_
                            refine R.ld Tryz.isAgg3 rfl rfl .hd (hcs3 0 _ rfl) ?_
                            refine R.ixp Tryz.underlying24 Tryz.sizeOf3 rfl rfl rfl (by omega) (by rw [← hcl]; exact ix5) ?_
                            refine R.stE (y := y2) Tryz.sizeOf3 rfl rfl hw .hd ix5 rfl rfl rfl ?_
                            intro c51 w51
                            refine TL.nil (Post.thnN ?_)
                            refine T.region ?_
                            refine R.mvE rfl (by conv => lhs; whnf) ?_
                            refine R.addI rfl rfl rfl (by omega) ?_
                            refine R.asE rfl (by conv => lhs; whnf) ?_
                            refine TL.nil (Post.blkN ?_)
                            refine id (Post.thnN ?_)
                            refine T.region ?_
                            refine R.mvE rfl (by conv => lhs; whnf) ?_
                            refine R.addI rfl rfl rfl (by omega) ?_
                            refine R.asE rfl (by conv => lhs; whnf) ?_
                            refine TL.nil (Post.thnN ?_)
                            -- round's end, way ny100yy101y
                            exact ⟨(i + 1, j + 1, cur.set i y2, c51), s_4, ⟨⟨by omega, by show k + (j + 1) ≤ _; omega, by show i + 1 + 1 ≤ k + (j + 1); omega, by rw [List.length_set]; exact hcl⟩, rfl, rfl, by rw [List.length_set]; exact w51, by rw [set_take (by omega), htk, hkj, compactI_take hz2 hy2', if_neg c44, hkj1], fun q hq => by rw [List.getElem?_set_ne (by omega)]; exact hrest q (by omega)⟩, by show xs.length - (k + (j + 1)) < xs.length - (k + j); omega, ⟨rfl, rfl, rfl, rfl, trivial⟩⟩
                          · refine T.skip (Post.blkN ?_)
                            refine id (Post.thnN ?_)
                            refine T.region ?_
                            refine R.mvE rfl (by conv => lhs; whnf) ?_
                            refine R.addI rfl rfl rfl (by omega) ?_
                            refine R.asE rfl (by conv => lhs; whnf) ?_
                            refine TL.nil (Post.thnN ?_)
                            -- round's end, way ny100yy101n
                            exact ⟨(i, j + 1, cur, [(b3, .cells cs3 3)]), s_4, ⟨⟨by omega, by show k + (j + 1) ≤ _; omega, by show i + 1 ≤ k + (j + 1); omega, hcl⟩, rfl, rfl, hw, by rw [htk, hkj, compactI_take hz2 hy2', if_pos (Decidable.of_not_not c44), hkj1], hrest⟩, by show xs.length - (k + (j + 1)) < xs.length - (k + j); omega, ⟨rfl, rfl, rfl, rfl, trivial⟩⟩
                      · refine R.ld Tryz.isAgg3 rfl rfl .hd (hcs4 0 _ rfl) ?_
                        refine TL.nil (Plan.e1 (HLe.refl _) ?_)
                        refine Plan.s1 2 [3, 9] (by kernel_rfl) (by kernel_rfl) rfl ?_
                        refine R.ixp Tryz.underlying24 Tryz.sizeOf3 rfl rfl rfl (by omega) ix3' ?_
                        refine TL.nil (Plan.e1 (HLe.refl _) ?_)
                        refine Plan.s1 3 [9] (by kernel_rfl) (by kernel_rfl) rfl ?_
                        refine R.ld Tryz.isAgg3 rfl rfl .hd (hcs3 0 _ rfl) ?_
                        refine TL.nil (Plan.e1 (HLe.refl _) ?_)
                        refine Plan.v 9 [] (by kernel_rfl) (by kernel_rfl) (by kernel_rfl) (by kernel_rfl) rfl (fun _ _ h_ => R.neq rfl rfl rfl (TL.nil h_)) ?_
                        refine Plan.done (Post.thnN ?_)
                        refine T.condD rfl (fun c44 => ?_) (fun c44 => ?_)
                        · refine T.seq ?_
                          refine T.region ?_
                          refine R.mvE rfl (by conv => lhs; whnf) ?_
                          refine R.mvE rfl (by conv => lhs; whnf) ?_
                          refine R.mvE rfl (by conv => lhs; whnf) ?_
                          refine R.mvE rfl (by conv => lhs; whnf) ?_
                          refine R.ixp Tryz.underlying24 Tryz.sizeOf3 rfl rfl rfl (by omega) ix3' ?_
                          refine R.ld Tryz.isAgg3 rfl rfl .hd (hcs3 0 _ rfl) ?_
                          refine R.ixp Tryz.underlying24 Tryz.sizeOf3 rfl rfl rfl (by omega) (by rw [← hcl]; exact ix5) ?_
                          refine R.stE (y := y2) Tryz.sizeOf3 rfl rfl hw .hd ix5 rfl rfl rfl ?_
                          intro c51 w51
                          refine TL.nil (Post.thnN ?_)
                          refine T.region ?_
                          refine R.mvE rfl (by conv => lhs; whnf) ?_
                          refine R.addI rfl rfl rfl (by omega) ?_
                          refine R.asE rfl (by conv => lhs; whnf) ?_
                          refine TL.nil (Post.blkN ?_)
                          refine id (Post.thnN ?_)
                          refine T.region ?_
                          refine R.mvE rfl (by conv => lhs; whnf) ?_
                          refine R.addI rfl rfl rfl (by omega) ?_
                          refine R.asE rfl (by conv => lhs; whnf) ?_
                          refine TL.nil (Post.thnN ?_)
                          -- round's end, way ny100yy11y
                          exact ⟨(i + 1, j + 1, cur.set i y2, c51), s_4, ⟨⟨by omega, by show k + (j + 1) ≤ _; omega, by show i + 1 + 1 ≤ k + (j + 1); omega, by rw [List.length_set]; exact hcl⟩, rfl, rfl, by rw [List.length_set]; exact w51, by rw [set_take (by omega), htk, hkj, compactI_take hz2 hy2', if_neg c44, hkj1], fun q hq => by rw [List.getElem?_set_ne (by omega)]; exact hrest q (by omega)⟩, by show xs.length - (k + (j + 1)) < xs.length - (k + j); omega, ⟨rfl, rfl, rfl, rfl, trivial⟩⟩
                        · refine T.skip (Post.blkN ?_)
                          refine id (Post.thnN ?_)
                          refine T.region ?_
                          refine R.mvE rfl (by conv => lhs; whnf) ?_
                          refine R.addI rfl rfl rfl (by omega) ?_
                          refine R.asE rfl (by conv => lhs; whnf) ?_
                          refine TL.nil (Post.thnN ?_)
                          -- round's end, way ny100yy11n
                          exact ⟨(i, j + 1, cur, [(b3, .cells cs3 3)]), s_4, ⟨⟨by omega, by show k + (j + 1) ≤ _; omega, by show i + 1 ≤ k + (j + 1); omega, hcl⟩, rfl, rfl, hw, by rw [htk, hkj, compactI_take hz2 hy2', if_pos (Decidable.of_not_not c44), hkj1], hrest⟩, by show xs.length - (k + (j + 1)) < xs.length - (k + j); omega, ⟨rfl, rfl, rfl, rfl, trivial⟩⟩
                  · have hje : k + j = xs.length := by omega
                    rw [hje, List.take_length] at htk
                    have hil : (cur.take i).length = i := by simp; omega
                    refine T.exit (Post.thnE (Post.thnE (Post.blkX ?_)))
                    refine id (Post.thnN ?_)
                    refine T.seq ?_
                    refine T.region ?_
                    refine R.mvE rfl (by conv => lhs; whnf) ?_
                    refine R.mvE rfl (by conv => lhs; whnf) ?_
                    refine R.sL Tryz.underlying24 Tryz.sizeOf3 rfl rfl rfl (by omega) (by omega) ?_
                    refine R.clr (dd := none) (xs := cur.take i) Tryz_ty24 (zone_of (z := .int .i64 0) (by kernel_rfl) (by intro v hv; have e0 : v = .int .i64 0 := (by simpa [Value.cells] using hv); subst e0; rfl)) rfl (fun q h => by cases h) (m := xs.length) (by rw [hil]; rfl) (by rw [hil]; exact own_take0 hw (by omega)) .hd (by omega) (by omega) ?_
                    intro c57 w57
                    refine TL.nil (Post.thnN ?_)
                    refine T.seq ?_
                    refine T.region ?_
                    refine R.mvE rfl (by conv => lhs; whnf) ?_
                    refine R.mvE rfl (by conv => lhs; whnf) ?_
                    refine R.sH Tryz.underlying24 Tryz.sizeOf3 rfl rfl rfl (by omega) (by omega) ?_
                    refine R.asE rfl (by conv => lhs; whnf) ?_
                    refine TL.nil (Post.thnN ?_)
                    refine T.ret (Post.blkR (Post.thnR (Post.thnR (Post.blkR (Post.thnR ?_)))))
                    -- way ny100yn
                    refine fin1L [c57] rfl rfl (List.Sublist.refl _) ⟨_, rfl, ?_⟩
                    show OwnS (intE .i64) 3 _ (slcV (.slice A xs.length cap) 0 i cap 1) (compactI xs) c57
                    rw [slc_take0, ← htk]
                    rw [hil] at w57
                    exact w57
              · refine T.skip (Post.blkN ?_)
                refine id (Post.thnN ?_)
                refine T.region ?_
                refine R.mvE rfl (by conv => lhs; whnf) ?_
                refine R.addI rfl rfl rfl (by omega) ?_
                refine R.asE rfl (by conv => lhs; whnf) ?_
                refine TL.nil (Post.thnN ?_)
                -- round's end, way ny100n
                exact ⟨k + 1, s_0, ⟨⟨by omega, by omega⟩, rfl, rfl, by rw [show k + 1 = (k - 1) + 2 by omega, compactI_take hz hy1, if_neg c25, show k - 1 + 1 = k by omega, hco, show k - 1 + 2 = k + 1 by omega, take_snoc _ _ _ hy]⟩, by omega, ⟨rfl, rfl, trivial⟩⟩
            · refine R.ld Tryz.isAgg3 rfl rfl .hd (hcs2 0 _ rfl) ?_
              refine TL.nil (Plan.e1 (HLe.refl _) ?_)
              refine Plan.s1 3 [9] (by kernel_rfl) (by kernel_rfl) rfl ?_
              refine R.ld Tryz.isAgg3 rfl rfl .hd (hcs1 0 _ rfl) ?_
              refine TL.nil (Plan.e1 (HLe.refl _) ?_)
              refine Plan.v 9 [] (by kernel_rfl) (by kernel_rfl) (by kernel_rfl) (by kernel_rfl) rfl (fun _ _ h_ => R.eql rfl rfl rfl (TL.nil h_)) ?_
              refine Plan.done (Post.thnN ?_)
              refine T.condD rfl (fun c25 => ?_) (fun c25 => ?_)
              · refine T.seq ?_
                refine T.region ?_
                refine R.mvE rfl (by conv => lhs; whnf) ?_
                refine R.mvE rfl (by conv => lhs; whnf) ?_
                refine R.sL Tryz.underlying24 Tryz.sizeOf3 rfl rfl rfl (by omega) (by omega) ?_
                refine R.asE rfl (by conv => lhs; whnf) ?_
                refine TL.nil (Post.thnN ?_)
                refine T.seq ?_
                refine T.seq ?_
                refine T.region ?_
                refine R.asE rfl (by conv => lhs; whnf) ?_
                refine TL.nil (Post.thnN ?_)
                refine T.block ?_
                refine T.loop (ι := Nat × Nat × List Int × Chunk) (fun ⟨i, j, cur, ch2⟩ H' L' ds' => (1 ≤ j ∧ k + j ≤ xs.length ∧ i + 1 ≤ k + j ∧ cur.length = xs.length) ∧ L' = [ch2] ∧ ds' = [] ∧ OwnS (intE .i64) 3 H' (.slice A cur.length cap) cur ch2 ∧ cur.take i = compactI (xs.take (k + j)) ∧ (∀ q, i ≤ q → cur[q]? = xs[q]?)) (fun ⟨i, j, cur, ch2⟩ => [(0, .slice A xs.length cap), (3, .int .i64 i), (4, slcV (.slice A xs.length cap) k xs.length cap 1), (5, .int .i64 j)]) (fun ⟨i, j, cur, ch2⟩ => xs.length - (k + j)) ((k, 1, xs, [(b1, .cells cs1 3)])) ?_ ?_ ?_
                · exact ⟨⟨by omega, by omega, by omega, rfl⟩, rfl, rfl, ho, by rw [hk2, compactI_take hz hy1, if_pos c25, show k - 1 + 1 = k by omega, hco], fun q hq => rfl⟩
                · exact ⟨rfl, rfl, rfl, rfl, trivial⟩
                · intro ⟨i, j, cur, ch2⟩ σ5 H_5 L_5 ds_5 s_5 hI_5
                  obtain ⟨⟨hj1, hj2, hij, hcl⟩, rfl, rfl, hw, htk, hrest⟩ := hI_5
                  refine T.seq ?_
                  refine T.seq ?_
                  refine T.region ?_
                  refine R.mvE rfl (by conv => lhs; whnf) ?_
                  refine R.mvE rfl (by conv => lhs; whnf) ?_
                  refine R.len Tryz.underlying24 rfl rfl ?_
                  refine R.lss rfl rfl rfl ?_
                  refine TL.nil (Post.thnN ?_)
                  refine T.condD rfl (fun c32 => ?_) (fun c32 => ?_)
                  · have hlt2 : k + j < xs.length := by omega
                    obtain ⟨y2, hy2⟩ := getk hlt2
                    obtain ⟨z2, hz2⟩ := getk (xs := xs) (k := k + j - 1) (by omega)
                    have hkj : k + (j + 1) = (k + j - 1) + 2 := by omega
                    have hkj1 : k + j - 1 + 1 = k + j := by omega
                    have hy2' : xs[k + j - 1 + 1]? = some y2 := by rw [hkj1]; exact hy2
                    have hcy : cur[k + j]? = some y2 := by rw [hrest _ (by omega)]; exact hy2
                    have hcz : cur[k + ((j : Int) - 1).toNat]? = some z2 := by rw [show k + ((j : Int) - 1).toNat = k + j - 1 by omega, hrest _ (by omega)]; exact hz2
                    obtain ⟨yi, hci⟩ := getk (xs := cur) (k := i) (by omega)
                    obtain ⟨b3, k3, cs3, l3, hce3, hve3, ix3, hR3, hcs3⟩ := hw.elem hcy
                    obtain rfl : l3 = [.int .i64 y2] := hR3
                    obtain ⟨b4, k4, cs4, l4, hce4, hve4, ix4, hR4, hcs4⟩ := hw.elem hcz
                    obtain rfl : l4 = [.int .i64 z2] := hR4
                    obtain ⟨b5, k5, cs5, l5, hce5, hve5, ix5, hR5, hcs5⟩ := hw.elem hci
                    subst hce3
                    obtain ⟨rfl, rfl⟩ : b3 = b4 ∧ cs3 = cs4 := by simpa using hce4
                    obtain ⟨rfl, rfl⟩ : b3 = b5 ∧ cs3 = cs5 := by simpa using hce5
                    obtain rfl : cap = k3 := by injection hve3
                    rw [hcl] at hve3
                    have ix3' := ix_off (sz := 1) (k := k) (i := j) hve3 (by omega) (by omega) (by omega)
                    have ix4' := ix_off (sz := 1) (k := k) (i := ((j : Int) - 1).toNat) hve3 (by omega) (by omega) (by omega)
                    refine T.skip (Post.thnN ?_)
                    refine T.seq ?_
                    refine T.block ?_
                    refine T.seq ?_
                    refine T.draw Tryz_mixed (by kernel_rfl) ?_
                    refine Plan.v 0 [1, 2, 3, 4, 5, 6, 7, 8, 9] (by kernel_rfl) (by kernel_rfl) (by kernel_rfl) (by kernel_rfl) rfl (fun _ _ h_ => R.mvE rfl (by conv => lhs; whnf) (TL.nil h_)) ?_
                    refine Plan.v 1 [2, 3, 4, 5, 6, 7, 8, 9] (by kernel_rfl) (by kernel_rfl) (by kernel_rfl) (by kernel_rfl) rfl (fun _ _ h_ => R.mvE rfl (by conv => lhs; whnf) (TL.nil h_)) ?_
                    refine Plan.v 4 [2, 3, 5, 6, 7, 8, 9] (by kernel_rfl) (by kernel_rfl) (by kernel_rfl) (by kernel_rfl) rfl (fun _ _ h_ => R.mvE rfl (by conv => lhs; whnf) (TL.nil h_)) ?_
                    refine Plan.v 5 [2, 3, 6, 7, 8, 9] (by kernel_rfl) (by kernel_rfl) (by kernel_rfl) (by kernel_rfl) rfl (fun _ _ h_ => R.mvE rfl (by conv => lhs; whnf) (TL.nil h_)) ?_
                    refine Plan.v 6 [2, 3, 7, 8, 9] (by kernel_rfl) (by kernel_rfl) (by kernel_rfl) (by kernel_rfl) rfl (fun _ _ h_ => R.subI rfl rfl rfl (by omega) (TL.nil h_)) ?_
                    refine Plan.s2 2 7 [3, 7, 8, 9] [2, 3, 8, 9] (by kernel_rfl) (by kernel_rfl) (by kernel_rfl) rfl rfl ?_ ?_
                    · refine R.ixp Tryz.underlying24 Tryz.sizeOf3 rfl rfl rfl (by omega) ix3' ?_
                      refine TL.nil (Plan.e1 (HLe.refl _) ?_)
                      refine Plan.s2 3 7 [7, 8, 9] [3, 8, 9] (by kernel_rfl) (by kernel_rfl) (by kernel_rfl) rfl rfl ?_ ?_
                      · refine R.ld Tryz.isAgg3 rfl rfl .hd (hcs3 0 _ rfl) ?_
                        refine TL.nil (Plan.e1 (HLe.refl _) ?_)
                        refine Plan.s1 7 [8, 9] (by kernel_rfl) (by kernel_rfl) rfl ?_
                        refine R.ixp Tryz.underlying24 Tryz.sizeOf3 rfl rfl rfl (by omega) ix4' ?_
                        refine TL.nil (Plan.e1 (HLe.refl _) ?_)
                        refine Plan.s1 8 [9] (by kernel_rfl) (by kernel_rfl) rfl ?_
                        refine R.ld Tryz.isAgg3 rfl rfl .hd (hcs4 0 _ rfl) ?_
                        refine TL.nil (Plan.e1 (HLe.refl _) ?_)
                        refine Plan.v 9 [] (by kernel_rfl) (by kernel_rfl) (by kernel_rfl) (by kernel_rfl) rfl (fun _ _ h_ => R.neq rfl rfl rfl (TL.nil h_)) ?_
                        refine Plan.done (Post.thnN ?_)
                        refine T.condD rfl (fun c44 => ?_) (fun c44 => ?_)
                        · refine T.seq ?_
                          refine T.region ?_
                          refine R.mvE rfl (by conv => lhs; whnf) ?_
                          refine R.mvE rfl (by conv => lhs; whnf) ?_
                          refine R.mvE rfl (by conv => lhs; whnf) ?_
                          refine R.mvE rfl (by conv => lhs; whnf) ?_
                          refine R.ixp Tryz.underlying24 Tryz.sizeOf3 rfl rfl rfl (by omega) ix3' ?_
                          refine R.ld Tryz.isAgg3 rfl rfl .hd (hcs3 0 _ rfl) ?_
                          refine R.ixp Tryz.underlying24 Tryz.sizeOf3 rfl rfl rfl (by omega) (by rw [← hcl]; exact ix5) ?_
                          refine R.stE (y := y2) Tryz.sizeOf3 rfl rfl hw .hd ix5 rfl rfl rfl ?_
                          intro c51 w51
                          refine TL.nil (Post.thnN ?_)
                          refine T.region ?_
                          refine R.mvE rfl (by conv => lhs; whnf) ?_
                          refine R.addI rfl rfl rfl (by omega) ?_
                          refine R.asE rfl (by conv => lhs; whnf) ?_
                          refine TL.nil (Post.blkN ?_)
                          refine id (Post.thnN ?_)
                          refine T.region ?_
                          refine R.mvE rfl (by conv => lhs; whnf) ?_
                          refine R.addI rfl rfl rfl (by omega) ?_
                          refine R.asE rfl (by conv => lhs; whnf) ?_
                          refine TL.nil (Post.thnN ?_)
                          -- round's end, way ny101yy00y
                          exact ⟨(i + 1, j + 1, cur.set i y2, c51), s_5, ⟨⟨by omega, by show k + (j + 1) ≤ _; omega, by show i + 1 + 1 ≤ k + (j + 1); omega, by rw [List.length_set]; exact hcl⟩, rfl, rfl, by rw [List.length_set]; exact w51, by rw [set_take (by omega), htk, hkj, compactI_take hz2 hy2', if_neg c44, hkj1], fun q hq => by rw [List.getElem?_set_ne (by omega)]; exact hrest q (by omega)⟩, by show xs.length - (k + (j + 1)) < xs.length - (k + j); omega, ⟨rfl, rfl, rfl, rfl, trivial⟩⟩
                        · refine T.skip (Post.blkN ?_)
                          refine id (Post.thnN ?_)
                          refine T.region ?_
                          refine R.mvE rfl (by conv => lhs; whnf) ?_
                          refine R.addI rfl rfl rfl (by omega) ?_
                          refine R.asE rfl (by conv => lhs; whnf) ?_
                          refine TL.nil (Post.thnN ?_)
                          -- round's end, way ny101yy00n
                          exact ⟨(i, j + 1, cur, [(b3, .cells cs3 3)]), s_5, ⟨⟨by omega, by show k + (j + 1) ≤ _; omega, by show i + 1 ≤ k + (j + 1); omega, hcl⟩, rfl, rfl, hw, by rw [htk, hkj, compactI_take hz2 hy2', if_pos (Decidable.of_not_not c44), hkj1], hrest⟩, by show xs.length - (k + (j + 1)) < xs.length - (k + j); omega, ⟨rfl, rfl, rfl, rfl, trivial⟩⟩
                      · refine R.ixp Tryz.underlying24 Tryz.sizeOf3 rfl rfl rfl (by omega) ix4' ?_
                        refine TL.nil (Plan.e1 (HLe.refl _) ?_)
                        refine Plan.s2 3 8 [8, 9] [3, 9] (by kernel_rfl) (by kernel_rfl) (by kernel_rfl) rfl rfl ?_ ?_
                        · refine R.ld Tryz.isAgg3 rfl rfl .hd (hcs3 0 _ rfl) ?_
                          refine TL.nil (Plan.e1 (HLe.refl _) ?_)
                          refine Plan.s1 8 [9] (by kernel_rfl) (by kernel_rfl) rfl ?_
                          refine R.ld Tryz.isAgg3 rfl rfl .hd (hcs4 0 _ rfl) ?_
                          refine TL.nil (Plan.e1 (HLe.refl _) ?_)
                          refine Plan.v 9 [] (by kernel_rfl) (by kernel_rfl) (by kernel_rfl) (by kernel_rfl) rfl (fun _ _ h_ => R.neq rfl rfl rfl (TL.nil h_)) ?_
                          refine Plan.done (Post.thnN ?_)
                          refine T.condD rfl (fun c44 => ?_) (fun c44 => ?_)
                          · refine T.seq ?_
                            refine T.region ?_
                            refine R.mvE rfl (by conv => lhs; whnf) ?_
                            refine R.mvE rfl (by conv => lhs; whnf) ?_
                            refine R.mvE rfl (by conv => lhs; whnf) ?_
                            refine R.mvE rfl (by conv => lhs; whnf) ?_
                            refine R.ixp Tryz.underlying24 Tryz.sizeOf3 rfl rfl rfl (by omega) ix3' ?_
                            refine R.ld Tryz.isAgg3 rfl rfl .hd (hcs3 0 _ rfl) ?_
                            refine R.ixp Tryz.underlying24 Tryz.sizeOf3 rfl rfl rfl (by omega) (by rw [← hcl]; exact ix5) ?_
                            refine R.stE (y := y2) Tryz.sizeOf3 rfl rfl hw .hd ix5 rfl rfl rfl ?_
                            intro c51 w51
                            refine TL.nil (Post.thnN ?_)
                            refine T.region ?_
                            refine R.mvE rfl (by conv => lhs; whnf) ?_
                            refine R.addI rfl rfl rfl (by omega) ?_
                            refine R.asE rfl (by conv => lhs; whnf) ?_
                            refine TL.nil (Post.blkN ?_)
                            refine id (Post.thnN ?_)
                            refine T.region ?_
                            refine R.mvE rfl (by conv => lhs; whnf) ?_
                            refine R.addI rfl rfl rfl (by omega) ?_
                            refine R.asE rfl (by conv => lhs; whnf) ?_
                            refine TL.nil (Post.thnN ?_)
                            -- round's end, way ny101yy010y
                            exact ⟨(i + 1, j + 1, cur.set i y2, c51), s_5, ⟨⟨by omega, by show k + (j + 1) ≤ _; omega, by show i + 1 + 1 ≤ k + (j + 1); omega, by rw [List.length_set]; exact hcl⟩, rfl, rfl, by rw [List.length_set]; exact w51, by rw [set_take (by omega), htk, hkj, compactI_take hz2 hy2', if_neg c44, hkj1], fun q hq => by rw [List.getElem?_set_ne (by omega)]; exact hrest q (by omega)⟩, by show xs.length - (k + (j + 1)) < xs.length - (k + j); omega, ⟨rfl, rfl, rfl, rfl, trivial⟩⟩
                          · refine T.skip (Post.blkN ?_)
                            refine id (Post.thnN ?_)
                            refine T.region ?_
                            refine R.mvE rfl (by conv => lhs; whnf) ?_
                            refine R.addI rfl rfl rfl (by omega) ?_
                            refine R.asE rfl (by conv => lhs; whnf) ?_
                            refine TL.nil (Post.thnN ?_)
                            -- round's end, way ny101yy010n
                            exact ⟨(i, j + 1, cur, [(b3, .cells cs3 3)]), s_5, ⟨⟨by omega, by show k + (j + 1) ≤ _; omega, by show i + 1 ≤ k + (j + 1); omega, hcl⟩, rfl, rfl, hw, by rw [htk, hkj, compactI_take hz2 hy2', if_pos (Decidable.of_not_not c44), hkj1], hrest⟩, by show xs.length - (k + (j + 1)) < xs.length - (k + j); omega, ⟨rfl, rfl, rfl, rfl, trivial⟩⟩
                        · refine R.ld Tryz.isAgg3 rfl rfl .hd (hcs4 0 _ rfl) ?_
                          refine TL.nil (Plan.e1 (HLe.refl _) ?_)
                          refine Plan.s1 3 [9] (by kernel_rfl) (by kernel_rfl) rfl ?_
                          refine R.ld Tryz.isAgg3 rfl rfl .hd (hcs3 0 _ rfl) ?_
                          refine TL.nil (Plan.e1 (HLe.refl _) ?_)
                          refine Plan.v 9 [] (by kernel_rfl) (by kernel_rfl) (by kernel_rfl) (by kernel_rfl) rfl (fun _ _ h_ => R.neq rfl rfl rfl (TL.nil h_)) ?_
                          refine Plan.done (Post.thnN ?_)
                          refine T.condD rfl (fun c44 => ?_) (fun c44 => ?_)
                          · refine T.seq ?_
                            refine T.region ?_
                            refine R.mvE rfl (by conv => lhs; whnf) ?_
                            refine R.mvE rfl (by conv => lhs; whnf) ?_
                            refine R.mvE rfl (by conv => lhs; whnf) ?_
                            refine R.mvE rfl (by conv => lhs; whnf) ?_
                            refine R.ixp Tryz.underlying24 Tryz.sizeOf3 rfl rfl rfl (by omega) ix3' ?_
                            refine R.ld Tryz.isAgg3 rfl rfl .hd (hcs3 0 _ rfl) ?_
                            refine R.ixp Tryz.underlying24 Tryz.sizeOf3 rfl rfl rfl (by omega) (by rw [← hcl]; exact ix5) ?_
                            refine R.stE (y := y2) Tryz.sizeOf3 rfl rfl hw .hd ix5 rfl rfl rfl ?_
                            intro c51 w51
                            refine TL.nil (Post.thnN ?_)
                            refine T.region ?_
                            refine R.mvE rfl (by conv => lhs; whnf) ?_
                            refine R.addI rfl rfl rfl (by omega) ?_
                            refine R.asE rfl (by conv => lhs; whnf) ?_
                            refine TL.nil (Post.blkN ?_)
                            refine id (Post.thnN ?_)
                            refine T.region ?_
                            refine R.mvE rfl (by conv => lhs; whnf) ?_
                            refine R.addI rfl rfl rfl (by omega) ?_
                            refine R.asE rfl (by conv => lhs; whnf) ?_
                            refine TL.nil (Post.thnN ?_)
                            -- round's end, way ny101yy011y
                            exact ⟨(i + 1, j + 1, cur.set i y2, c51), s_5, ⟨⟨by omega, by show k + (j + 1) ≤ _; omega, by show i + 1 + 1 ≤ k + (j + 1); omega, by rw [List.length_set]; exact hcl⟩, rfl, rfl, by rw [List.length_set]; exact w51, by rw [set_take (by omega), htk, hkj, compactI_take hz2 hy2', if_neg c44, hkj1], fun q hq => by rw [List.getElem?_set_ne (by omega)]; exact hrest q (by omega)⟩, by show xs.length - (k + (j + 1)) < xs.length - (k + j); omega, ⟨rfl, rfl, rfl, rfl, trivial⟩⟩
                          · refine T.skip (Post.blkN ?_)
                            refine id (Post.thnN ?_)
                            refine T.region ?_
                            refine R.mvE rfl (by conv => lhs; whnf) ?_
                            refine R.addI rfl rfl rfl (by omega) ?_
                            refine R.asE rfl (by conv => lhs; whnf) ?_
                            refine TL.nil (Post.thnN ?_)
                            -- round's end, way ny101yy011n
                            exact ⟨(i, j + 1, cur, [(b3, .cells cs3 3)]), s_5, ⟨⟨by omega, by show k + (j + 1) ≤ _; omega, by show i + 1 ≤ k + (j + 1); omega, hcl⟩, rfl, rfl, hw, by rw [htk, hkj, compactI_take hz2 hy2', if_pos (Decidable.of_not_not c44), hkj1], hrest⟩, by show xs.length - (k + (j + 1)) < xs.length - (k + j); omega, ⟨rfl, rfl, rfl, rfl, trivial⟩⟩
                    · refine R.ixp Tryz.underlying24 Tryz.sizeOf3 rfl rfl rfl (by omega) ix4' ?_
                      refine TL.nil (Plan.e1 (HLe.refl _) ?_)
                      refine Plan.s2 2 8 [3, 8, 9] [2, 3, 9] (by kernel_rfl) (by kernel_rfl) (by kernel_rfl) rfl rfl ?_ ?_
                      · refine R.ixp Tryz.underlying24 Tryz.sizeOf3 rfl rfl rfl (by omega) ix3' ?_
                        refine TL.nil (Plan.e1 (HLe.refl _) ?_)
                        refine Plan.s2 3 8 [8, 9] [3, 9] (by kernel_rfl) (by kernel_rfl) (by kernel_rfl) rfl rfl ?_ ?_
                        · refine R.ld Tryz.isAgg3 rfl rfl .hd (hcs3 0 _ rfl) ?_
                          refine TL.nil (Plan.e1 (HLe.refl _) ?_)
                          refine Plan.s1 8 [9] (by kernel_rfl) (by kernel_rfl) rfl ?_
                          refine R.ld Tryz.isAgg3 rfl rfl .hd (hcs4 0 _ rfl) ?_
                          refine TL.nil (Plan.e1 (HLe.refl _) ?_)
                          refine Plan.v 9 [] (by kernel_rfl) (by kernel_rfl) (by kernel_rfl) (by kernel_rfl) rfl (fun _ _ h_ => R.neq rfl rfl rfl (TL.nil h_)) ?_
                          refine Plan.done (Post.thnN ?_)
                          refine T.condD rfl (fun c44 => ?_) (fun c44 => ?_)
                          · refine T.seq ?_
                            refine T.region ?_
                            refine R.mvE rfl (by conv => lhs; whnf) ?_
                            refine R.mvE rfl (by conv => lhs; whnf) ?_
                            refine R.mvE rfl (by conv => lhs; whnf) ?_
                            refine R.mvE rfl (by conv => lhs; whnf) ?_
                            refine R.ixp Tryz.underlying24 Tryz.sizeOf3 rfl rfl rfl (by omega) ix3' ?_
                            refine R.ld Tryz.isAgg3 rfl rfl .hd (hcs3 0 _ rfl) ?_
                            refine R.ixp Tryz.underlying24 Tryz.sizeOf3 rfl rfl rfl (by omega) (by rw [← hcl]; exact ix5) ?_
                            refine R.stE (y := y2) Tryz.sizeOf3 rfl rfl hw .hd ix5 rfl rfl rfl ?_
                            intro c51 w51
                            refine TL.nil (Post.thnN ?_)
                            refine T.region ?_
                            refine R.mvE rfl (by conv => lhs; whnf) ?_
                            refine R.addI rfl rfl rfl (by omega) ?_
                            refine R.asE rfl (by conv => lhs; whnf) ?_
                            refine TL.nil (Post.blkN ?_)
                            refine id (Post.thnN ?_)
                            refine T.region ?_
                            refine R.mvE rfl (by conv => lhs; whnf) ?_
                            refine R.addI rfl rfl rfl (by omega) ?_
                            refine R.asE rfl (by conv => lhs; whnf) ?_
                            refine TL.nil (Post.thnN ?_)
                            -- round's end, way ny101yy100y
                            exact ⟨(i + 1, j + 1, cur.set i y2, c51), s_5, ⟨⟨by omega, by show k + (j + 1) ≤ _; omega, by show i + 1 + 1 ≤ k + (j + 1); omega, by rw [List.length_set]; exact hcl⟩, rfl, rfl, by rw [List.length_set]; exact w51, by rw [set_take (by omega), htk, hkj, compactI_take hz2 hy2', if_neg c44, hkj1], fun q hq => by rw [List.getElem?_set_ne (by omega)]; exact hrest q (by omega)⟩, by show xs.length - (k + (j + 1)) < xs.length - (k + j); omega, ⟨rfl, rfl, rfl, rfl, trivial⟩⟩
                          · refine T.skip (Post.blkN ?_)
                            refine id (Post.thnN ?_)
                            refine T.region ?_
                            refine R.mvE rfl (by conv => lhs; whnf) ?_
                            refine R.addI rfl rfl rfl (by omega) ?_
                            refine R.asE rfl (by conv => lhs; whnf) ?_
                            refine TL.nil (Post.thnN ?_)
                            -- round's end, way ny101yy100n
                            exact ⟨(i, j + 1, cur, [(b3, .cells cs3 3)]), s_5, ⟨⟨by omega, by show k + (j + 1) ≤ _; omega, by show i + 1 ≤ k + (j + 1); omega, hcl⟩, rfl, rfl, hw, by rw [htk, hkj, compactI_take hz2 hy2', if_pos (Decidable.of_not_not c44), hkj1], hrest⟩, by show xs.length - (k + (j + 1)) < xs.length - (k + j); omega, ⟨rfl, rfl, rfl, rfl, trivial⟩⟩
                        · refine R.ld Tryz.isAgg3 rfl rfl .hd (hcs4 0 _ rfl) ?_
                          refine TL.nil (Plan.e1 (HLe.refl _) ?_)
                          refine Plan.s1 3 [9] (by kernel_rfl) (by kernel_rfl) rfl ?_
                          refine R.ld Tryz.isAgg3 rfl rfl .hd (hcs3 0 _ rfl) ?_
                          refine TL.nil (Plan.e1 (HLe.refl _) ?_)
                          refine Plan.v 9 [] (by kernel_rfl) (by kernel_rfl) (by kernel_rfl) (by kernel_rfl) rfl (fun _ _ h_ => R.neq rfl rfl rfl (TL.nil h_)) ?_
                          refine Plan.done (Post.thnN ?_)
                          refine T.condD rfl (fun c44 => ?_) (fun c44 => ?_)
                          · refine T.seq ?_
                            refine T.region ?_
                            refine R.mvE rfl (by conv => lhs; whnf) ?_
                            refine R.mvE rfl (by conv => lhs; whnf) ?_
                            refine R.mvE rfl (by conv => lhs; whnf) ?_
                            refine R.mvE rfl (by conv => lhs; whnf) ?_
                            refine R.ixp Tryz.underlying24 Tryz.sizeOf3 rfl rfl rfl (by omega) ix3' ?_
                            refine R.ld Tryz.isAgg3 rfl rfl .hd (hcs3 0 _ rfl) ?_
                            refine R.ixp Tryz.underlying24 Tryz.sizeOf3 rfl rfl rfl (by omega) (by rw [← hcl]; exact ix5) ?_
                            refine R.stE (y := y2) Tryz.sizeOf3 rfl rfl hw .hd ix5 rfl rfl rfl ?_
                            intro c51 w51
                            refine TL.nil (Post.thnN ?_)
                            refine T.region ?_
                            refine R.mvE rfl (by conv => lhs; whnf) ?_
                            refine R.addI rfl rfl rfl (by omega) ?_
                            refine R.asE rfl (by conv => lhs; whnf) ?_
                            refine TL.nil (Post.blkN ?_)
                            refine id (Post.thnN ?_)
                            refine T.region ?_
                            refine R.mvE rfl (by conv => lhs; whnf) ?_
                            refine R.addI rfl rfl rfl (by omega) ?_
                            refine R.asE rfl (by conv => lhs; whnf) ?_
                            refine TL.nil (Post.thnN ?_)
                            -- round's end, way ny101yy101y
                            exact ⟨(i + 1, j + 1, cur.set i y2, c51), s_5, ⟨⟨by omega, by show k + (j + 1) ≤ _; omega, by show i + 1 + 1 ≤ k + (j + 1); omega, by rw [List.length_set]; exact hcl⟩, rfl, rfl, by rw [List.length_set]; exact w51, by rw [set_take (by omega), htk, hkj, compactI_take hz2 hy2', if_neg c44, hkj1], fun q hq => by rw [List.getElem?_set_ne (by omega)]; exact hrest q (by omega)⟩, by show xs.length - (k + (j + 1)) < xs.length - (k + j); omega, ⟨rfl, rfl, rfl, rfl, trivial⟩⟩
                          · refine T.skip (Post.blkN ?_)
                            refine id (Post.thnN ?_)
                            refine T.region ?_
                            refine R.mvE rfl (by conv => lhs; whnf) ?_
                            refine R.addI rfl rfl rfl (by omega) ?_
                            refine R.asE rfl (by conv => lhs; whnf) ?_
                            refine TL.nil (Post.thnN ?_)
                            -- round's end, way ny101yy101n
                            exact ⟨(i, j + 1, cur, [(b3, .cells cs3 3)]), s_5, ⟨⟨by omega, by show k + (j + 1) ≤ _; omega, by show i + 1 ≤ k + (j + 1); omega, hcl⟩, rfl, rfl, hw, by rw [htk, hkj, compactI_take hz2 hy2', if_pos (Decidable.of_not_not c44), hkj1], hrest⟩, by show xs.length - (k + (j + 1)) < xs.length - (k + j); omega, ⟨rfl, rfl, rfl, rfl, trivial⟩⟩
                      · refine R.ld Tryz.isAgg3 rfl rfl .hd (hcs4 0 _ rfl) ?_
                        refine TL.nil (Plan.e1 (HLe.refl _) ?_)
                        refine Plan.s1 2 [3, 9] (by kernel_rfl) (by kernel_rfl) rfl ?_
                        refine R.ixp Tryz.underlying24 Tryz.sizeOf3 rfl rfl rfl (by omega) ix3' ?_
                        refine TL.nil (Plan.e1 (HLe.refl _) ?_)
                        refine Plan.s1 3 [9] (by kernel_rfl) (by kernel_rfl) rfl ?_
                        refine R.ld Tryz.isAgg3 rfl rfl .hd (hcs3 0 _ rfl) ?_
                        refine TL.nil (Plan.e1 (HLe.refl _) ?_)
                        refine Plan.v 9 [] (by kernel_rfl) (by kernel_rfl) (by kernel_rfl) (by kernel_rfl) rfl (fun _ _ h_ => R.neq rfl rfl rfl (TL.nil h_)) ?_
                        refine Plan.done (Post.thnN ?_)
                        refine T.condD rfl (fun c44 => ?_) (fun c44 => ?_)
                        · refine T.seq ?_
                          refine T.region ?_
                          refine R.mvE rfl (by conv => lhs; whnf) ?_
                          refine R.mvE rfl (by conv => lhs; whnf) ?_
                          refine R.mvE rfl (by conv => lhs; whnf) ?_
                          refine R.mvE rfl (by conv => lhs; whnf) ?_
                          refine R.ixp Tryz.underlying24 Tryz.sizeOf3 rfl rfl rfl (by omega) ix3' ?_
                          refine R.ld Tryz.isAgg3 rfl rfl .hd (hcs3 0 _ rfl) ?_
                          refine R.ixp Tryz.underlying24 Tryz.sizeOf3 rfl rfl rfl (by omega) (by rw [← hcl]; exact ix5) ?_
                          refine R.stE (y := y2) Tryz.sizeOf3 rfl rfl hw .hd ix5 rfl rfl rfl ?_
                          intro c51 w51
                          refine TL.nil (Post.thnN ?_)
                          refine T.region ?_
                          refine R.mvE rfl (by conv => lhs; whnf) ?_
                          refine R.addI rfl rfl rfl (by omega) ?_
                          refine R.asE rfl (by conv => lhs; whnf) ?_
                          refine TL.nil (Post.blkN ?_)
                          refine id (Post.thnN ?_)
                          refine T.region ?_
                          refine R.mvE rfl (by conv => lhs; whnf) ?_
                          refine R.addI rfl rfl rfl (by omega) ?_
                          refine R.asE rfl (by conv => lhs; whnf) ?_
                          refine TL.nil (Post.thnN ?_)
                          -- round's end, way ny101yy11y
                          exact ⟨(i + 1, j + 1, cur.set i y2, c51), s_5, ⟨⟨by omega, by show k + (j + 1) ≤ _; omega, by show i + 1 + 1 ≤ k + (j + 1); omega, by rw [List.length_set]; exact hcl⟩, rfl, rfl, by rw [List.length_set]; exact w51, by rw [set_take (by omega), htk, hkj, compactI_take hz2 hy2', if_neg c44, hkj1], fun q hq => by rw [List.getElem?_set_ne (by omega)]; exact hrest q (by omega)⟩, by show xs.length - (k + (j + 1)) < xs.length - (k + j); omega, ⟨rfl, rfl, rfl, rfl, trivial⟩⟩
                        · refine T.skip (Post.blkN ?_)
                          refine id (Post.thnN ?_)
                          refine T.region ?_
                          refine R.mvE rfl (by conv => lhs; whnf) ?_
                          refine R.addI rfl rfl rfl (by omega) ?_
                          refine R.asE rfl (by conv => lhs; whnf) ?_
                          refine TL.nil (Post.thnN ?_)
                          -- round's end, way ny101yy11n
                          exact ⟨(i, j + 1, cur, [(b3, .cells cs3 3)]), s_5, ⟨⟨by omega, by show k + (j + 1) ≤ _; omega, by show i + 1 ≤ k + (j + 1); omega, hcl⟩, rfl, rfl, hw, by rw [htk, hkj, compactI_take hz2 hy2', if_pos (Decidable.of_not_not c44), hkj1], hrest⟩, by show xs.length - (k + (j + 1)) < xs.length - (k + j); omega, ⟨rfl, rfl, rfl, rfl, trivial⟩⟩
                  · have hje : k + j = xs.length := by omega
                    rw [hje, List.take_length] at htk
                    have hil : (cur.take i).length = i := by simp; omega
                    refine T.exit (Post.thnE (Post.thnE (Post.blkX ?_)))
                    refine id (Post.thnN ?_)
                    refine T.seq ?_
                    refine T.region ?_
                    refine R.mvE rfl (by conv => lhs; whnf) ?_
                    refine R.mvE rfl (by conv => lhs; whnf) ?_
                    refine R.sL Tryz.underlying24 Tryz.sizeOf3 rfl rfl rfl (by omega) (by omega) ?_
                    refine R.clr (dd := none) (xs := cur.take i) Tryz_ty24 (zone_of (z := .int .i64 0) (by kernel_rfl) (by intro v hv; have e0 : v = .int .i64 0 := (by simpa [Value.cells] using hv); subst e0; rfl)) rfl (fun q h => by cases h) (m := xs.length) (by rw [hil]; rfl) (by rw [hil]; exact own_take0 hw (by omega)) .hd (by omega) (by omega) ?_
                    intro c57 w57
                    refine TL.nil (Post.thnN ?_)
                    refine T.seq ?_
                    refine T.region ?_
                    refine R.mvE rfl (by conv => lhs; whnf) ?_
                    refine R.mvE rfl (by conv => lhs; whnf) ?_
                    refine R.sH Tryz.underlying24 Tryz.sizeOf3 rfl rfl rfl (by omega) (by omega) ?_
                    refine R.asE rfl (by conv => lhs; whnf) ?_
                    refine TL.nil (Post.thnN ?_)
                    refine T.ret (Post.blkR (Post.thnR (Post.thnR (Post.blkR (Post.thnR ?_)))))
                    -- way ny101yn
                    refine fin1L [c57] rfl rfl (List.Sublist.refl _) ⟨_, rfl, ?_⟩
                    show OwnS (intE .i64) 3 _ (slcV (.slice A xs.length cap) 0 i cap 1) (compactI xs) c57
                    rw [slc_take0, ← htk]
                    rw [hil] at w57
                    exact w57
              · refine T.skip (Post.blkN ?_)
                refine id (Post.thnN ?_)
                refine T.region ?_
                refine R.mvE rfl (by conv => lhs; whnf) ?_
                refine R.addI rfl rfl rfl (by omega) ?_
                refine R.asE rfl (by conv => lhs; whnf) ?_
                refine TL.nil (Post.thnN ?_)
                -- round's end, way ny101n
                exact ⟨k + 1, s_0, ⟨⟨by omega, by omega⟩, rfl, rfl, by rw [show k + 1 = (k - 1) + 2 by omega, compactI_take hz hy1, if_neg c25, show k - 1 + 1 = k by omega, hco, show k - 1 + 2 = k + 1 by omega, take_snoc _ _ _ hy]⟩, by omega, ⟨rfl, rfl, trivial⟩⟩
          · refine R.ld Tryz.isAgg3 rfl rfl .hd (hcs2 0 _ rfl) ?_
            refine TL.nil (Plan.e1 (HLe.refl _) ?_)
            refine Plan.s1 2 [3, 9] (by kernel_rfl) (by kernel_rfl) rfl ?_
            refine R.ixp Tryz.underlying24 Tryz.sizeOf3 rfl rfl rfl (by omega) ix1 ?_
            refine TL.nil (Plan.e1 (HLe.refl _) ?_)
            refine Plan.s1 3 [9] (by kernel_rfl) (by kernel_rfl) rfl ?_
            refine R.ld Tryz.isAgg3 rfl rfl .hd (hcs1 0 _ rfl) ?_
            refine TL.nil (Plan.e1 (HLe.refl _) ?_)
            refine Plan.v 9 [] (by kernel_rfl) (by kernel_rfl) (by kernel_rfl) (by kernel_rfl) rfl (fun _ _ h_ => R.eql rfl rfl rfl (TL.nil h_)) ?_
            refine Plan.done (Post.thnN ?_)
            refine T.condD rfl (fun c25 => ?_) (fun c25 => ?_)
            · refine T.seq ?_
              refine T.region ?_
              refine R.mvE rfl (by conv => lhs; whnf) ?_
              refine R.mvE rfl (by conv => lhs; whnf) ?_
              refine R.sL Tryz.underlying24 Tryz.sizeOf3 rfl rfl rfl (by omega) (by omega) ?_
              refine R.asE rfl (by conv => lhs; whnf) ?_
              refine TL.nil (Post.thnN ?_)
              refine T.seq ?_
              refine T.seq ?_
              refine T.region ?_
              refine R.asE rfl (by conv => lhs; whnf) ?_
              refine TL.nil (Post.thnN ?_)
              refine T.block ?_
              refine T.loop (ι := Nat × Nat × List Int × Chunk) (fun ⟨i, j, cur, ch2⟩ H' L' ds' => (1 ≤ j ∧ k + j ≤ xs.length ∧ i + 1 ≤ k + j ∧ cur.length = xs.length) ∧ L' = [ch2] ∧ ds' = [] ∧ OwnS (intE .i64) 3 H' (.slice A cur.length cap) cur ch2 ∧ cur.take i = compactI (xs.take (k + j)) ∧ (∀ q, i ≤ q → cur[q]? = xs[q]?)) (fun ⟨i, j, cur, ch2⟩ => [(0, .slice A xs.length cap), (3, .int .i64 i), (4, slcV (.slice A xs.length cap) k xs.length cap 1), (5, .int .i64 j)]) (fun ⟨i, j, cur, ch2⟩ => xs.length - (k + j)) ((k, 1, xs, [(b1, .cells cs1 3)])) ?_ ?_ ?_
              · exact ⟨⟨by omega, by omega, by omega, rfl⟩, rfl, rfl, ho, by rw [hk2, compactI_take hz hy1, if_pos c25, show k - 1 + 1 = k by omega, hco], fun q hq => rfl⟩
              · exact ⟨rfl, rfl, rfl, rfl, trivial⟩
              · intro ⟨i, j, cur, ch2⟩ σ6 H_6 L_6 ds_6 s_6 hI_6
                obtain ⟨⟨hj1, hj2, hij, hcl⟩, rfl, rfl, hw, htk, hrest⟩ := hI_6
                refine T.seq ?_
                refine T.seq ?_
                refine T.region ?_
                refine R.mvE rfl (by conv => lhs; whnf) ?_
                refine R.mvE rfl (by conv => lhs; whnf) ?_
                refine R.len Tryz.underlying24 rfl rfl ?_
                refine R.lss rfl rfl rfl ?_
                refine TL.nil (Post.thnN ?_)
                refine T.condD rfl (fun c32 => ?_) (fun c32 => ?_)
                · have hlt2 : k + j < xs.length := by omega
                  obtain ⟨y2, hy2⟩ := getk hlt2
                  obtain ⟨z2, hz2⟩ := getk (xs := xs) (k := k + j - 1) (by omega)
                  have hkj : k + (j + 1) = (k + j - 1) + 2 := by omega
                  have hkj1 : k + j - 1 + 1 = k + j := by omega
                  have hy2' : xs[k + j - 1 + 1]? = some y2 := by rw [hkj1]; exact hy2
                  have hcy : cur[k + j]? = some y2 := by rw [hrest _ (by omega)]; exact hy2
                  have hcz : cur[k + ((j : Int) - 1).toNat]? = some z2 := by rw [show k + ((j : Int) - 1).toNat = k + j - 1 by omega, hrest _ (by omega)]; exact hz2
                  obtain ⟨yi, hci⟩ := getk (xs := cur) (k := i) (by omega)
                  obtain ⟨b3, k3, cs3, l3, hce3, hve3, ix3, hR3, hcs3⟩ := hw.elem hcy
                  obtain rfl : l3 = [.int .i64 y2] := hR3
                  obtain ⟨b4, k4, cs4, l4, hce4, hve4, ix4, hR4, hcs4⟩ := hw.elem hcz
                  obtain rfl : l4 = [.int .i64 z2] := hR4
                  obtain ⟨b5, k5, cs5, l5, hce5, hve5, ix5, hR5, hcs5⟩ := hw.elem hci
                  subst hce3
                  obtain ⟨rfl, rfl⟩ : b3 = b4 ∧ cs3 = cs4 := by simpa using hce4
                  obtain ⟨rfl, rfl⟩ : b3 = b5 ∧ cs3 = cs5 := by simpa using hce5
                  obtain rfl : cap = k3 := by injection hve3
                  rw [hcl] at hve3
                  have ix3' := ix_off (sz := 1) (k := k) (i := j) hve3 (by omega) (by omega) (by omega)
                  have ix4' := ix_off (sz := 1) (k := k) (i := ((j : Int) - 1).toNat) hve3 (by omega) (by omega) (by omega)
                  refine T.skip (Post.thnN ?_)
                  refine T.seq ?_
                  refine T.block ?_
                  refine T.seq ?_
                  refine T.draw Tryz_mixed (by kernel_rfl) ?_
                  refine Plan.v 0 [1, 2, 3, 4, 5, 6, 7, 8, 9] (by kernel_rfl) (by kernel_rfl) (by kernel_rfl) (by kernel_rfl) rfl (fun _ _ h_ => R.mvE rfl (by conv => lhs; whnf) (TL.nil h_)) ?_
                  refine Plan.v 1 [2, 3, 4, 5, 6, 7, 8, 9] (by kernel_rfl) (by kernel_rfl) (by kernel_rfl) (by kernel_rfl) rfl (fun _ _ h_ => R.mvE rfl (by conv => lhs; whnf) (TL.nil h_)) ?_
                  refine Plan.v 4 [2, 3, 5, 6, 7, 8, 9] (by kernel_rfl) (by kernel_rfl) (by kernel_rfl) (by kernel_rfl) rfl (fun _ _ h_ => R.mvE rfl (by conv => lhs; whnf) (TL.nil h_)) ?_
                  refine Plan.v 5 [2, 3, 6, 7, 8, 9] (by kernel_rfl) (by kernel_rfl) (by kernel_rfl) (by kernel_rfl) rfl (fun _ _ h_ => R.mvE rfl (by conv => lhs; whnf) (TL.nil h_)) ?_
                  refine Plan.v 6 [2, 3, 7, 8, 9] (by kernel_rfl) (by kernel_rfl) (by kernel_rfl) (by kernel_rfl) rfl (fun _ _ h_ => R.subI rfl rfl rfl (by omega) (TL.nil h_)) ?_
                  refine Plan.s2 2 7 [3, 7, 8, 9] [2, 3, 8, 9] (by kernel_rfl) (by kernel_rfl) (by kernel_rfl) rfl rfl ?_ ?_
                  · refine R.ixp Tryz.underlying24 Tryz.sizeOf3 rfl rfl rfl (by omega) ix3' ?_
                    refine TL.nil (Plan.e1 (HLe.refl _) ?_)
                    refine Plan.s2 3 7 [7, 8, 9] [3, 8, 9] (by kernel_rfl) (by kernel_rfl) (by kernel_rfl) rfl rfl ?_ ?_
                    · refine R.ld Tryz.isAgg3 rfl rfl .hd (hcs3 0 _ rfl) ?_
                      refine TL.nil (Plan.e1 (HLe.refl _) ?_)
                      refine Plan.s1 7 [8, 9] (by kernel_rfl) (by kernel_rfl) rfl ?_
                      refine R.ixp Tryz.underlying24 Tryz.sizeOf3 rfl rfl rfl (by omega) ix4' ?_
                      refine TL.nil (Plan.e1 (HLe.refl _) ?_)
                      refine Plan.s1 8 [9] (by kernel_rfl) (by kernel_rfl) rfl ?_
                      refine R.ld Tryz.isAgg3 rfl rfl .hd (hcs4 0 _ rfl) ?_
                      refine TL.nil (Plan.e1 (HLe.refl _) ?_)
                      refine Plan.v 9 [] (by kernel_rfl) (by kernel_rfl) (by kernel_rfl) (by kernel_rfl) rfl (fun _ _ h_ => R.neq rfl rfl rfl (TL.nil h_)) ?_
                      refine Plan.done (Post.thnN ?_)
                      refine T.condD rfl (fun c44 => ?_) (fun c44 => ?_)
                      · refine T.seq ?_
                        refine T.region ?_
                        refine R.mvE rfl (by conv => lhs; whnf) ?_
                        refine R.mvE rfl (by conv => lhs; whnf) ?_
                        refine R.mvE rfl (by conv => lhs; whnf) ?_
                        refine R.mvE rfl (by conv => lhs; whnf) ?_
                        refine R.ixp Tryz.underlying24 Tryz.sizeOf3 rfl rfl rfl (by omega) ix3' ?_
                        refine R.ld Tryz.isAgg3 rfl rfl .hd (hcs3 0 _ rfl) ?_
                        refine R.ixp Tryz.underlying24 Tryz.sizeOf3 rfl rfl rfl (by omega) (by rw [← hcl]; exact ix5) ?_
                        refine R.stE (y := y2) Tryz.sizeOf3 rfl rfl hw .hd ix5 rfl rfl rfl ?_
                        intro c51 w51
                        refine TL.nil (Post.thnN ?_)
                        refine T.region ?_
                        refine R.mvE rfl (by conv => lhs; whnf) ?_
                        refine R.addI rfl rfl rfl (by omega) ?_
                        refine R.asE rfl (by conv => lhs; whnf) ?_
                        refine TL.nil (Post.blkN ?_)
                        refine id (Post.thnN ?_)
                        refine T.region ?_
                        refine R.mvE rfl (by conv => lhs; whnf) ?_
                        refine R.addI rfl rfl rfl (by omega) ?_
                        refine R.asE rfl (by conv => lhs; whnf) ?_
                        refine TL.nil (Post.thnN ?_)
                        -- round's end, way ny11yy00y
                        exact ⟨(i + 1, j + 1, cur.set i y2, c51), s_6, ⟨⟨by omega, by show k + (j + 1) ≤ _; omega, by show i + 1 + 1 ≤ k + (j + 1); omega, by rw [List.length_set]; exact hcl⟩, rfl, rfl, by rw [List.length_set]; exact w51, by rw [set_take (by omega), htk, hkj, compactI_take hz2 hy2', if_neg c44, hkj1], fun q hq => by rw [List.getElem?_set_ne (by omega)]; exact hrest q (by omega)⟩, by show xs.length - (k + (j + 1)) < xs.length - (k + j); omega, ⟨rfl, rfl, rfl, rfl, trivial⟩⟩
                      · refine T.skip (Post.blkN ?_)
                        refine id (Post.thnN ?_)
                        refine T.region ?_
                        refine R.mvE rfl (by conv => lhs; whnf) ?_
                        refine R.addI rfl rfl rfl (by omega) ?_
                        refine R.asE rfl (by conv => lhs; whnf) ?_
                        refine TL.nil (Post.thnN ?_)
                        -- round's end, way ny11yy00n
                        exact ⟨(i, j + 1, cur, [(b3, .cells cs3 3)]), s_6, ⟨⟨by omega, by show k + (j + 1) ≤ _; omega, by show i + 1 ≤ k + (j + 1); omega, hcl⟩, rfl, rfl, hw, by rw [htk, hkj, compactI_take hz2 hy2', if_pos (Decidable.of_not_not c44), hkj1], hrest⟩, by show xs.length - (k + (j + 1)) < xs.length - (k + j); omega, ⟨rfl, rfl, rfl, rfl, trivial⟩⟩
                    · refine R.ixp Tryz.underlying24 Tryz.sizeOf3 rfl rfl rfl (by omega) ix4' ?_
                      refine TL.nil (Plan.e1 (HLe.refl _) ?_)
                      refine Plan.s2 3 8 [8, 9] [3, 9] (by kernel_rfl) (by kernel_rfl) (by kernel_rfl) rfl rfl ?_ ?_
                      · refine R.ld Tryz.isAgg3 rfl rfl .hd (hcs3 0 _ rfl) ?_
                        refine TL.nil (Plan.e1 (HLe.refl _) ?_)
                        refine Plan.s1 8 [9] (by kernel_rfl) (by kernel_rfl) rfl ?_
                        refine R.ld Tryz.isAgg3 rfl rfl .hd (hcs4 0 _ rfl) ?_
                        refine TL.nil (Plan.e1 (HLe.refl _) ?_)
                        refine Plan.v 9 [] (by kernel_rfl) (by kernel_rfl) (by kernel_rfl) (by kernel_rfl) rfl (fun _ _ h_ => R.neq rfl rfl rfl (TL.nil h_)) ?_
                        refine Plan.done (Post.thnN ?_)
                        refine T.condD rfl (fun c44 => ?_) (fun c44 => ?_)
                        · refine T.seq ?_
                          refine T.region ?_
                          refine R.mvE rfl (by conv => lhs; whnf) ?_
                          refine R.mvE rfl (by conv => lhs; whnf) ?_
                          refine R.mvE rfl (by conv => lhs; whnf) ?_
                          refine R.mvE rfl (by conv => lhs; whnf) ?_
                          refine R.ixp Tryz.underlying24 Tryz.sizeOf3 rfl rfl rfl (by omega) ix3' ?_
                          refine R.ld Tryz.isAgg3 rfl rfl .hd (hcs3 0 _ rfl) ?_
                          refine R.ixp Tryz.underlying24 Tryz.sizeOf3 rfl rfl rfl (by omega) (by rw [← hcl]; exact ix5) ?_
                          refine R.stE (y := y2) Tryz.sizeOf3 rfl rfl hw .hd ix5 rfl rfl rfl ?_
                          intro c51 w51
                          refine TL.nil (Post.thnN ?_)
                          refine T.region ?_
                          refine R.mvE rfl (by conv => lhs; whnf) ?_
                          refine R.addI rfl rfl rfl (by omega) ?_
                          refine R.asE rfl (by conv => lhs; whnf) ?_
                          refine TL.nil (Post.blkN ?_)
                          refine id (Post.thnN ?_)
                          refine T.region ?_
                          refine R.mvE rfl (by conv => lhs; whnf) ?_
                          refine R.addI rfl rfl rfl (by omega) ?_
                          refine R.asE rfl (by conv => lhs; whnf) ?_
                          refine TL.nil (Post.thnN ?_)
                          -- round's end, way ny11yy010y
                          exact ⟨(i + 1, j + 1, cur.set i y2, c51), s_6, ⟨⟨by omega, by show k + (j + 1) ≤ _; omega, by show i + 1 + 1 ≤ k + (j + 1); omega, by rw [List.length_set]; exact hcl⟩, rfl, rfl, by rw [List.length_set]; exact w51, by rw [set_take (by omega), htk, hkj, compactI_take hz2 hy2', if_neg c44, hkj1], fun q hq => by rw [List.getElem?_set_ne (by omega)]; exact hrest q (by omega)⟩, by show xs.length - (k + (j + 1)) < xs.length - (k + j); omega, ⟨rfl, rfl, rfl, rfl, trivial⟩⟩
                        · refine T.skip (Post.blkN ?_)
                          refine id (Post.thnN ?_)
                          refine T.region ?_
                          refine R.mvE rfl (by conv => lhs; whnf) ?_
                          refine R.addI rfl rfl rfl (by omega) ?_
                          refine R.asE rfl (by conv => lhs; whnf) ?_
                          refine TL.nil (Post.thnN ?_)
                          -- round's end, way ny11yy010n
                          exact ⟨(i, j + 1, cur, [(b3, .cells cs3 3)]), s_6, ⟨⟨by omega, by show k + (j + 1) ≤ _; omega, by show i + 1 ≤ k + (j + 1); omega, hcl⟩, rfl, rfl, hw, by rw [htk, hkj, compactI_take hz2 hy2', if_pos (Decidable.of_not_not c44), hkj1], hrest⟩, by show xs.length - (k + (j + 1)) < xs.length - (k + j); omega, ⟨rfl, rfl, rfl, rfl, trivial⟩⟩
                      · refine R.ld Tryz.isAgg3 rfl rfl .hd (hcs4 0 _ rfl) ?_
                        refine TL.nil (Plan.e1 (HLe.refl _) ?_)
                        refine Plan.s1 3 [9] (by kernel_rfl) (by kernel_rfl) rfl ?_
                        refine R.ld Tryz.isAgg3 rfl rfl .hd (hcs3 0 _ rfl) ?_
                        refine TL.nil (Plan.e1 (HLe.refl _) ?_)
                        refine Plan.v 9 [] (by kernel_rfl) (by kernel_rfl) (by kernel_rfl) (by kernel_rfl) rfl (fun _ _ h_ => R.neq rfl rfl rfl (TL.nil h_)) ?_
                        refine Plan.done (Post.thnN ?_)
                        refine T.condD rfl (fun c44 => ?_) (fun c44 => ?_)
                        · refine T.seq ?_
                          refine T.region ?_
                          refine R.mvE rfl (by conv => lhs; whnf) ?_
                          refine R.mvE rfl (by conv => lhs; whnf) ?_
                          refine R.mvE rfl (by conv => lhs; whnf) ?_
                          refine R.mvE rfl (by conv => lhs; whnf) ?_
                          refine R.ixp Tryz.underlying24 Tryz.sizeOf3 rfl rfl rfl (by omega) ix3' ?_
                          refine R.ld Tryz.isAgg3 rfl rfl .hd (hcs3 0 _ rfl) ?_
                          refine R.ixp Tryz.underlying24 Tryz.sizeOf3 rfl rfl rfl (by omega) (by rw [← hcl]; exact ix5) ?_
                          refine R.stE (y := y2) Tryz.sizeOf3 rfl rfl hw .hd ix5 rfl rfl rfl ?_
                          intro c51 w51
                          refine TL.nil (Post.thnN ?_)
                          refine T.region ?_
                          refine R.mvE rfl (by conv => lhs; whnf) ?_
                          refine R.addI rfl rfl rfl (by omega) ?_
                          refine R.asE rfl (by conv => lhs; whnf) ?_
                          refine TL.nil (Post.blkN ?_)
                          refine id (Post.thnN ?_)
                          refine T.region ?_
                          refine R.mvE rfl (by conv => lhs; whnf) ?_
                          refine R.addI rfl rfl rfl (by omega) ?_
                          refine R.asE rfl (by conv => lhs; whnf) ?_
                          refine TL.nil (Post.thnN ?_)
                          -- round's end, way ny11yy011y
                          exact ⟨(i + 1, j + 1, cur.set i y2, c51), s_6, ⟨⟨by omega, by show k + (j + 1) ≤ _; omega, by show i + 1 + 1 ≤ k + (j + 1); omega, by rw [List.length_set]; exact hcl⟩, rfl, rfl, by rw [List.length_set]; exact w51, by rw [set_take (by omega), htk, hkj, compactI_take hz2 hy2', if_neg c44, hkj1], fun q hq => by rw [List.getElem?_set_ne (by omega)]; exact hrest q (by omega)⟩, by show xs.length - (k + (j + 1)) < xs.length - (k + j); omega, ⟨rfl, rfl, rfl, rfl, trivial⟩⟩
                        · refine T.skip (Post.blkN ?_)
                          refine id (Post.thnN ?_)
                          refine T.region ?_
                          refine R.mvE rfl (by conv => lhs; whnf) ?_
                          refine R.addI rfl rfl rfl (by omega) ?_
                          refine R.asE rfl (by conv => lhs; whnf) ?_
                          refine TL.nil (Post.thnN ?_)
                          -- round's end, way ny11yy011n
                          exact ⟨(i, j + 1, cur, [(b3, .cells cs3 3)]), s_6, ⟨⟨by omega, by show k + (j + 1) ≤ _; omega, by show i + 1 ≤ k + (j + 1); omega, hcl⟩, rfl, rfl, hw, by rw [htk, hkj, compactI_take hz2 hy2', if_pos (Decidable.of_not_not c44), hkj1], hrest⟩, by show xs.length - (k + (j + 1)) < xs.length - (k + j); omega, ⟨rfl, rfl, rfl, rfl, trivial⟩⟩
                  · refine R.ixp Tryz.underlying24 Tryz.sizeOf3 rfl rfl rfl (by omega) ix4' ?_
                    refine TL.nil (Plan.e1 (HLe.refl _) ?_)
                    refine Plan.s2 2 8 [3, 8, 9] [2, 3, 9] (by kernel_rfl) (by kernel_rfl) (by kernel_rfl) rfl rfl ?_ ?_
                    · refine R.ixp Tryz.underlying24 Tryz.sizeOf3 rfl rfl rfl (by omega) ix3' ?_
                      refine TL.nil (Plan.e1 (HLe.refl _) ?_)
                      refine Plan.s2 3 8 [8, 9] [3, 9] (by kernel_rfl) (by kernel_rfl) (by kernel_rfl) rfl rfl ?_ ?_
                      · refine R.ld Tryz.isAgg3 rfl rfl .hd (hcs3 0 _ rfl) ?_
                        refine TL.nil (Plan.e1 (HLe.refl _) ?_)
                        refine Plan.s1 8 [9] (by kernel_rfl) (by kernel_rfl) rfl ?_
                        refine R.ld Tryz.isAgg3 rfl rfl .hd (hcs4 0 _ rfl) ?_
                        refine TL.nil (Plan.e1 (HLe.refl _) ?_)
                        refine Plan.v 9 [] (by kernel_rfl) (by kernel_rfl) (by kernel_rfl) (by kernel_rfl) rfl (fun _ _ h_ => R.neq rfl rfl rfl (TL.nil h_)) ?_
                        refine Plan.done (Post.thnN ?_)
                        refine T.condD rfl (fun c44 => ?_) (fun c44 => ?_)
                        · refine T.seq ?_
                          refine T.region ?_
                          refine R.mvE rfl (by conv => lhs; whnf) ?_
                          refine R.mvE rfl (by conv => lhs; whnf) ?_
                          refine R.mvE rfl (by conv => lhs; whnf) ?_
                          refine R.mvE rfl (by conv => lhs; whnf) ?_
                          refine R.ixp Tryz.underlying24 Tryz.sizeOf3 rfl rfl rfl (by omega) ix3' ?_
                          refine R.ld Tryz.isAgg3 rfl rfl .hd (hcs3 0 _ rfl) ?_
                          refine R.ixp Tryz.underlying24 Tryz.sizeOf3 rfl rfl rfl (by omega) (by rw [← hcl]; exact ix5) ?_
                          refine R.stE (y := y2) Tryz.sizeOf3 rfl rfl hw .hd ix5 rfl rfl rfl ?_
                          intro c51 w51
                          refine TL.nil (Post.thnN ?_)
                          refine T.region ?_
                          refine R.mvE rfl (by conv => lhs; whnf) ?_
                          refine R.addI rfl rfl rfl (by omega) ?_
                          refine R.asE rfl (by conv => lhs; whnf) ?_
                          refine TL.nil (Post.blkN ?_)
                          refine id (Post.thnN ?_)
                          refine T.region ?_
                          refine R.mvE rfl (by conv => lhs; whnf) ?_
                          refine R.addI rfl rfl rfl (by omega) ?_
                          refine R.asE rfl (by conv => lhs; whnf) ?_
                          refine TL.nil (Post.thnN ?_)
                          -- round's end, way ny11yy100y
                          exact ⟨(i + 1, j + 1, cur.set i y2, c51), s_6, ⟨⟨by omega, by show k + (j + 1) ≤ _; omega, by show i + 1 + 1 ≤ k + (j + 1); omega, by rw [List.length_set]; exact hcl⟩, rfl, rfl, by rw [List.length_set]; exact w51, by rw [set_take (by omega), htk, hkj, compactI_take hz2 hy2', if_neg c44, hkj1], fun q hq => by rw [List.getElem?_set_ne (by omega)]; exact hrest q (by omega)⟩, by show xs.length - (k + (j + 1)) < xs.length - (k + j); omega, ⟨rfl, rfl, rfl, rfl, trivial⟩⟩
                        · refine T.skip (Post.blkN ?_)
                          refine id (Post.thnN ?_)
                          refine T.region ?_
                          refine R.mvE rfl (by conv => lhs; whnf) ?_
                          refine R.addI rfl rfl rfl (by omega) ?_
                          refine R.asE rfl (by conv => lhs; whnf) ?_
                          refine TL.nil (Post.thnN ?_)
                          -- round's end, way ny11yy100n
                          exact ⟨(i, j + 1, cur, [(b3, .cells cs3 3)]), s_6, ⟨⟨by omega, by show k + (j + 1) ≤ _; omega, by show i + 1 ≤ k + (j + 1); omega, hcl⟩, rfl, rfl, hw, by rw [htk, hkj, compactI_take hz2 hy2', if_pos (Decidable.of_not_not c44), hkj1], hrest⟩, by show xs.length - (k + (j + 1)) < xs.length - (k + j); omega, ⟨rfl, rfl, rfl, rfl, trivial⟩⟩
                      · refine R.ld Tryz.isAgg3 rfl rfl .hd (hcs4 0 _ rfl) ?_
                        refine TL.nil (Plan.e1 (HLe.refl _) ?_)
                        refine Plan.s1 3 [9] (by kernel_rfl) (by kernel_rfl) rfl ?_
                        refine R.ld Tryz.isAgg3 rfl rfl .hd (hcs3 0 _ rfl) ?_
                        refine TL.nil (Plan.e1 (HLe.refl _) ?_)
                        refine Plan.v 9 [] (by kernel_rfl) (by kernel_rfl) (by kernel_rfl) (by kernel_rfl) rfl (fun _ _ h_ => R.neq rfl rfl rfl (TL.nil h_)) ?_
                        refine Plan.done (Post.thnN ?_)
                        refine T.condD rfl (fun c44 => ?_) (fun c44 => ?_)
                        · refine T.seq ?_
                          refine T.region ?_
                          refine R.mvE rfl (by conv => lhs; whnf) ?_
                          refine R.mvE rfl (by conv => lhs; whnf) ?_
                          refine R.mvE rfl (by conv => lhs; whnf) ?_
                          refine R.mvE rfl (by conv => lhs; whnf) ?_
                          refine R.ixp Tryz.underlying24 Tryz.sizeOf3 rfl rfl rfl (by omega) ix3' ?_
                          refine R.ld Tryz.isAgg3 rfl rfl .hd (hcs3 0 _ rfl) ?_
                          refine R.ixp Tryz.underlying24 Tryz.sizeOf3 rfl rfl rfl (by omega) (by rw [← hcl]; exact ix5) ?_
                          refine R.stE (y := y2) Tryz.sizeOf3 rfl rfl hw .hd ix5 rfl rfl rfl ?_
                          intro c51 w51
                          refine TL.nil (Post.thnN ?_)
                          refine T.region ?_
                          refine R.mvE rfl (by conv => lhs; whnf) ?_
                          refine R.addI rfl rfl rfl (by omega) ?_
                          refine R.asE rfl (by conv => lhs; whnf) ?_
                          refine TL.nil (Post.blkN ?_)
                          refine id (Post.thnN ?_)
                          refine T.region ?_
                          refine R.mvE rfl (by conv => lhs; whnf) ?_
                          refine R.addI rfl rfl rfl (by omega) ?_
                          refine R.asE rfl (by conv => lhs; whnf) ?_
                          refine TL.nil (Post.thnN ?_)
                          -- round's end, way ny11yy101y
                          exact ⟨(i + 1, j + 1, cur.set i y2, c51), s_6, ⟨⟨by omega, by show k + (j + 1) ≤ _; omega, by show i + 1 + 1 ≤ k + (j + 1); omega, by rw [List.length_set]; exact hcl⟩, rfl, rfl, by rw [List.length_set]; exact w51, by rw [set_take (by omega), htk, hkj, compactI_take hz2 hy2', if_neg c44, hkj1], fun q hq => by rw [List.getElem?_set_ne (by omega)]; exact hrest q (by omega)⟩, by show xs.length - (k + (j + 1)) < xs.length - (k + j); omega, ⟨rfl, rfl, rfl, rfl, trivial⟩⟩
                        · refine T.skip (Post.blkN ?_)
                          refine id (Post.thnN ?_)
                          refine T.region ?_
                          refine R.mvE rfl (by conv => lhs; whnf) ?_
                          refine R.addI rfl rfl rfl (by omega) ?_
                          refine R.asE rfl (by conv => lhs; whnf) ?_
                          refine TL.nil (Post.thnN ?_)
                          -- round's end, way ny11yy101n
                          exact ⟨(i, j + 1, cur, [(b3, .cells cs3 3)]), s_6, ⟨⟨by omega, by show k + (j + 1) ≤ _; omega, by show i + 1 ≤ k + (j + 1); omega, hcl⟩, rfl, rfl, hw, by rw [htk, hkj, compactI_take hz2 hy2', if_pos (Decidable.of_not_not c44), hkj1], hrest⟩, by show xs.length - (k + (j + 1)) < xs.length - (k + j); omega, ⟨rfl, rfl, rfl, rfl, trivial⟩⟩
                    · refine R.ld Tryz.isAgg3 rfl rfl .hd (hcs4 0 _ rfl) ?_
                      refine TL.nil (Plan.e1 (HLe.refl _) ?_)
                      refine Plan.s1 2 [3, 9] (by kernel_rfl) (by kernel_rfl) rfl ?_
                      refine R.ixp Tryz.underlying24 Tryz.sizeOf3 rfl rfl rfl (by omega) ix3' ?_
                      refine TL.nil (Plan.e1 (HLe.refl _) ?_)
                      refine Plan.s1 3 [9] (by kernel_rfl) (by kernel_rfl) rfl ?_
                      refine R.ld Tryz.isAgg3 rfl rfl .hd (hcs3 0 _ rfl) ?_
                      refine TL.nil (Plan.e1 (HLe.refl _) ?_)
                      refine Plan.v 9 [] (by kernel_rfl) (by kernel_rfl) (by kernel_rfl) (by kernel_rfl) rfl (fun _ _ h_ => R.neq rfl rfl rfl (TL.nil h_)) ?_
                      refine Plan.done (Post.thnN ?_)
                      refine T.condD rfl (fun c44 => ?_) (fun c44 => ?_)
                      · refine T.seq ?_
                        refine T.region ?_
                        refine R.mvE rfl (by conv => lhs; whnf) ?_
                        refine R.mvE rfl (by conv => lhs; whnf) ?_
                        refine R.mvE rfl (by conv => lhs; whnf) ?_
                        refine R.mvE rfl (by conv => lhs; whnf) ?_
                        refine R.ixp Tryz.underlying24 Tryz.sizeOf3 rfl rfl rfl (by omega) ix3' ?_
                        refine R.ld Tryz.isAgg3 rfl rfl .hd (hcs3 0 _ rfl) ?_
                        refine R.ixp Tryz.underlying24 Tryz.sizeOf3 rfl rfl rfl (by omega) (by rw [← hcl]; exact ix5) ?_
                        refine R.stE (y := y2) Tryz.sizeOf3 rfl rfl hw .hd ix5 rfl rfl rfl ?_
                        intro c51 w51
                        refine TL.nil (Post.thnN ?_)
                        refine T.region ?_
                        refine R.mvE rfl (by conv => lhs; whnf) ?_
                        refine R.addI rfl rfl rfl (by omega) ?_
                        refine R.asE rfl (by conv => lhs; whnf) ?_
                        refine TL.nil (Post.blkN ?_)
                        refine id (Post.thnN ?_)
                        refine T.region ?_
                        refine R.mvE rfl (by conv => lhs; whnf) ?_
                        refine R.addI rfl rfl rfl (by omega) ?_
                        refine R.asE rfl (by conv => lhs; whnf) ?_
                        refine TL.nil (Post.thnN ?_)
                        -- round's end, way ny11yy11y
                        exact ⟨(i + 1, j + 1, cur.set i y2, c51), s_6, ⟨⟨by omega, by show k + (j + 1) ≤ _; omega, by show i + 1 + 1 ≤ k + (j + 1); omega, by rw [List.length_set]; exact hcl⟩, rfl, rfl, by rw [List.length_set]; exact w51, by rw [set_take (by omega), htk, hkj, compactI_take hz2 hy2', if_neg c44, hkj1], fun q hq => by rw [List.getElem?_set_ne (by omega)]; exact hrest q (by omega)⟩, by show xs.length - (k + (j + 1)) < xs.length - (k + j); omega, ⟨rfl, rfl, rfl, rfl, trivial⟩⟩
                      · refine T.skip (Post.blkN ?_)
                        refine id (Post.thnN ?_)
                        refine T.region ?_
                        refine R.mvE rfl (by conv => lhs; whnf) ?_
                        refine R.addI rfl rfl rfl (by omega) ?_
                        refine R.asE rfl (by conv => lhs; whnf) ?_
                        refine TL.nil (Post.thnN ?_)
                        -- round's end, way ny11yy11n
                        exact ⟨(i, j + 1, cur, [(b3, .cells cs3 3)]), s_6, ⟨⟨by omega, by show k + (j + 1) ≤ _; omega, by show i + 1 ≤ k + (j + 1); omega, hcl⟩, rfl, rfl, hw, by rw [htk, hkj, compactI_take hz2 hy2', if_pos (Decidable.of_not_not c44), hkj1], hrest⟩, by show xs.length - (k + (j + 1)) < xs.length - (k + j); omega, ⟨rfl, rfl, rfl, rfl, trivial⟩⟩
                · have hje : k + j = xs.length := by omega
                  rw [hje, List.take_length] at htk
                  have hil : (cur.take i).length = i := by simp; omega
                  refine T.exit (Post.thnE (Post.thnE (Post.blkX ?_)))
                  refine id (Post.thnN ?_)
                  refine T.seq ?_
                  refine T.region ?_
                  refine R.mvE rfl (by conv => lhs; whnf) ?_
                  refine R.mvE rfl (by conv => lhs; whnf) ?_
                  refine R.sL Tryz.underlying24 Tryz.sizeOf3 rfl rfl rfl (by omega) (by omega) ?_
                  refine R.clr (dd := none) (xs := cur.take i) Tryz_ty24 (zone_of (z := .int .i64 0) (by kernel_rfl) (by intro v hv; have e0 : v = .int .i64 0 := (by simpa [Value.cells] using hv); subst e0; rfl)) rfl (fun q h => by cases h) (m := xs.length) (by rw [hil]; rfl) (by rw [hil]; exact own_take0 hw (by omega)) .hd (by omega) (by omega) ?_
                  intro c57 w57
                  refine TL.nil (Post.thnN ?_)
                  refine T.seq ?_
                  refine T.region ?_
                  refine R.mvE rfl (by conv => lhs; whnf) ?_
                  refine R.mvE rfl (by conv => lhs; whnf) ?_
                  refine R.sH Tryz.underlying24 Tryz.sizeOf3 rfl rfl rfl (by omega) (by omega) ?_
                  refine R.asE rfl (by conv => lhs; whnf) ?_
                  refine TL.nil (Post.thnN ?_)
                  refine T.ret (Post.blkR (Post.thnR (Post.thnR (Post.blkR (Post.thnR ?_)))))
                  -- way ny11yn
                  refine fin1L [c57] rfl rfl (List.Sublist.refl _) ⟨_, rfl, ?_⟩
                  show OwnS (intE .i64) 3 _ (slcV (.slice A xs.length cap) 0 i cap 1) (compactI xs) c57
                  rw [slc_take0, ← htk]
                  rw [hil] at w57
                  exact w57
            · refine T.skip (Post.blkN ?_)
              refine id (Post.thnN ?_)
              refine T.region ?_
              refine R.mvE rfl (by conv => lhs; whnf) ?_
              refine R.addI rfl rfl rfl (by omega) ?_
              refine R.asE rfl (by conv => lhs; whnf) ?_
              refine TL.nil (Post.thnN ?_)
              -- round's end, way ny11n
              exact ⟨k + 1, s_0, ⟨⟨by omega, by omega⟩, rfl, rfl, by rw [show k + 1 = (k - 1) + 2 by omega, compactI_take hz hy1, if_neg c25, show k - 1 + 1 = k by omega, hco, show k - 1 + 2 = k + 1 by omega, take_snoc _ _ _ hy]⟩, by omega, ⟨rfl, rfl, trivial⟩⟩
      · have hkx : k = xs.length := by omega
        rw [hkx, List.take_length] at hco
        refine T.exit (Post.thnE (Post.thnE (Post.blkX ?_)))
        refine id (Post.thnN ?_)
        refine T.seq ?_
        refine T.region ?_
        refine R.mvE rfl (by conv => lhs; whnf) ?_
        refine R.asE rfl (by conv => lhs; whnf) ?_
        refine TL.nil (Post.thnN ?_)
        refine T.ret ?_
        -- way nn
        exact fin1L [ch] rfl rfl (List.Sublist.refl _) ⟨_, rfl, by rw [hco]; exact ho⟩


set_option maxHeartbeats 1600000 in
theorem all_c (H : Heap) (v : Value) (xs : List Lk) (hr : RdS pairE H v xs) (hl : xs.length ≤ 1000) : Fc Tryz.prog (fnv 63) [v] H [] (fun v' H' L' => ∃ c, L' = [c] ∧ OwnS (intE .i64) 3 H' v' (allL xs) c) := by
  refine Fc.of_body (N := 20) Tryz.func63 rfl (by kernel_rfl) rfl rfl ?_
  intro w0
  obtain ⟨A, c, rfl, hc1, hc2, hr⟩ := hr.shape
  refine T.seq ?_
  refine T.region ?_
  refine R.asE rfl (by conv => lhs; whnf) ?_
  refine TL.nil (Post.thnN ?_)
  refine T.seq ?_
  refine T.region ?_
  refine R.asE rfl (by conv => lhs; whnf) ?_
  refine TL.nil (Post.thnN ?_)
  refine T.seq ?_
  refine T.seq ?_
  refine T.nilc ?_
  refine T.region ?_
  refine R.mvE rfl (by conv => lhs; whnf) ?_
  refine R.len Tryz.underlying22 rfl rfl ?_
  refine R.mvE rfl (by conv => lhs; whnf) ?_
  refine TL.nil (Post.thnN ?_)
  refine T.block ?_
  refine T.loop (ι := Nat × Value × Chunk) (fun ⟨k, vw, cw⟩ H' L' ds' => k ≤ xs.length ∧ ds' = [] ∧ L' = [cw] ∧ OwnS (intE .i64) 3 H' vw ((xs.take k).map (·.1)) cw) (fun ⟨k, vw, cw⟩ => [(3, vw), (6, .slice A xs.length c), (7, .int .i64 xs.length), (8, .int .i64 k)]) (fun ⟨k, vw, cw⟩ => xs.length - k) ((0, .slice none 0 0, [])) ?_ ?_ ?_
  · exact ⟨Nat.zero_le _, rfl, rfl, OwnS.nil⟩
  · exact ⟨rfl, rfl, rfl, rfl, trivial⟩
  · intro ⟨k, vw, cw⟩ σ0 H_0 L_0 ds_0 s_0 hI_0
    obtain ⟨hk, rfl, rfl, ho⟩ := hI_0
    refine T.seq ?_
    refine T.region ?_
    refine R.lss rfl rfl rfl ?_
    refine TL.nil (Post.thnN ?_)
    refine T.seq ?_
    refine T.condD rfl (fun c9 => ?_) (fun c9 => ?_)
    · have hlt : k < xs.length := by omega
      obtain ⟨y, hy⟩ := getk hlt
      refine T.skip (Post.thnN ?_)
      refine T.seq ?_
      refine T.block ?_
      refine T.seq ?_
      refine T.region ?_
      obtain ⟨b10, o10, i10, e10⟩ := (hr.mono s_0).elem (hy)
      refine R.ixp Tryz.underlying22 Tryz.sizeOf45 rfl rfl rfl (by omega) i10 ?_
      refine R.ldP Tryz.isAgg45 Tryz.sizeOf45 rfl rfl (e10) ?_
      refine R.alloc Tryz.zeroValue45 rfl ?_
      intro b5
      refine R.stA (old := [.int .i64 0, .int .i64 0]) Tryz.sizeOf45 rfl rfl rfl rfl rfl (by intro v hv; simp at hv; rcases hv with rfl | rfl <;> rfl) .hd ?_
      refine TL.nil (Post.thnN ?_)
      refine T.shut .hd ?_
      intro H5 s5 q5
      have h5 : H5 b5 = some (.cells #[.int .i64 y.1, .int .i64 y.2] 45) := shut1 q5
      refine T.region ?_
      refine R.mvE rfl (by conv => lhs; whnf) ?_
      refine R.fldA Tryz.underlying45 rfl Tryz.sizeOf3 (by decide) rfl rfl ?_
      refine R.ldH Tryz.isAgg3 rfl rfl (h5) rfl ?_
      refine R.bs rfl (run_buildSlice1 Tryz.underlying24 Tryz.sizeOf3 Tryz.zeroValue3 rfl rfl) ?_
      intro b15
      refine R.app (ys := [y.1]) Tryz_ty24 rfl rfl rfl (ho.mono s5) (.tl .hd) (Src.lit (vs := [.int .i64 y.1]) .hd) ⟨[.int .i64 y.1], [], rfl, rfl, rfl⟩ (by simp; omega) (by simp; omega) ?_
      intro v16 c16 w16
      refine TL.del (.tl .hd) ?_
      refine R.asE rfl (by conv => lhs; whnf) ?_
      refine TL.nil (Post.blkN ?_)
      refine id (Post.thnN ?_)
      refine T.region ?_
      refine R.addI rfl rfl rfl (by omega) ?_
      refine R.mvE rfl (by conv => lhs; whnf) ?_
      refine TL.nil (Post.thnN ?_)
      -- round's end, way y
      exact ⟨(k + 1, v16, c16), s_0.trans s5, ⟨by show k + 1 ≤ _; omega, rfl, rfl, by rw [take_snoc _ _ _ hy, List.map_append]; exact w16⟩, by show xs.length - (k + 1) < xs.length - k; omega, ⟨rfl, rfl, rfl, rfl, trivial⟩⟩
    · have hkx : k = xs.length := by omega
      rw [hkx, List.take_length] at ho
      refine T.exit (Post.thnE (Post.thnE (Post.blkX ?_)))
      refine id (Post.thnN ?_)
      refine T.seq ?_
      refine T.region ?_
      refine R.mvE rfl (by conv => lhs; whnf) ?_
      refine TL.call [true] rfl rfl rfl (compactI_c _ _ _ _ ho) ?_
      intro v19 H19 L19 s19 q19
      obtain ⟨c19, rfl, w19⟩ := q19
      refine R.asE rfl (by conv => lhs; whnf) ?_
      refine TL.nil (Post.thnN ?_)
      refine T.ret ?_
      -- way n
      exact fin1L [c19] rfl rfl (List.Sublist.refl _) ⟨_, rfl, w19⟩


/-- what a call of deep leaves -/
def DPost (xs : List Lk) (mk : Nat) (n : Int) (m : MapL) : Value → Heap → Own → Prop := fun v' _ L' => v' = .int .i64 (depL xs n) ∧ ∃ es' ck' m', L' = [[(mk, .map es' ck')]] ∧ MapIs .i64 es' m' ∧ KOK xs m' ∧ KLe m m' ∧ mget m' n ≠ none
/-- what is known, as rises goes on -/
def RSK (xs : List Lk) (mk : Nat) (pre : List Lk) (_ : Heap) (c : Chunk) : Prop := ∃ es ck m, c = [(mk, .map es ck)] ∧ MapIs .i64 es m ∧ KOK xs m ∧ ∀ y ∈ pre, mget m y.1 ≠ none

set_option maxHeartbeats 1600000 in
theorem deepS_c (H : Heap) (bk bt bd : Nat) (mk mt : Nat) (est : Array MapEntry) (ckt : Nat) (mT : MapL) (xs : List Lk) (hmt : H mt = some (.map est ckt)) (hmT : MapIs .i64 est mT) (hAt : ∀ j, RdS (intE .i64) H ((mget mT j).getD (.slice none 0 0)) (toL xs j)) (hA : Acyc xs) (hl : xs.length ≤ 1000) (hk : H bk = some (.cells #[.map (some mk)] 93)) (ht : H bt = some (.cells #[.map (some mt)] 90)) (hd : H bd = some (.cells #[(.func (.func 132) #[] ([.pointer (some ⟨bk, 0, none⟩), .pointer (some ⟨bt, 0, none⟩), .pointer (some ⟨bd, 0, none⟩)] : List Value).toArray)] 152)) (n : Int) (ih : ∀ t, t ∈ toL xs n → ∀ H' es ck m, HLe H H' → MapIs .i64 es m → KOK xs m → Fc Tryz.prog (.func (.func 132) #[] ([.pointer (some ⟨bk, 0, none⟩), .pointer (some ⟨bt, 0, none⟩), .pointer (some ⟨bd, 0, none⟩)] : List Value).toArray) [.int .i64 t] H' [[(mk, .map es ck)]] (DPost xs mk t m)) (es : Array MapEntry) (ck : Nat) (m : MapL) (hm : MapIs .i64 es m) (hK : KOK xs m) : Fc Tryz.prog (.func (.func 132) #[] ([.pointer (some ⟨bk, 0, none⟩), .pointer (some ⟨bt, 0, none⟩), .pointer (some ⟨bd, 0, none⟩)] : List Value).toArray) [.int .i64 n] H [[(mk, .map es ck)]] (DPost xs mk n m) := by
  refine Fc.of_body (N := 38) Tryz.func132 rfl (by kernel_rfl) rfl rfl ?_
  intro w0
  refine T.seq ?_
  refine T.region ?_
  refine R.asE rfl (by conv => lhs; whnf) ?_
  refine TL.nil (Post.thnN ?_)
  refine T.seq ?_
  refine T.seq ?_
  refine T.region ?_
  refine R.ldH Tryz.isAgg93 rfl rfl (hk) rfl ?_
  refine R.mvE rfl (by conv => lhs; whnf) ?_
  refine R.lkok Tryz.underlying93 Tryz.underlying3 Tryz.zeroValue3 rfl rfl rfl .hd hm ?_
  refine R.mvE rfl (by conv => lhs; whnf) ?_
  refine R.ext rfl rfl rfl ?_
  refine R.ext rfl rfl rfl ?_
  refine R.asE rfl (by conv => lhs; whnf) ?_
  refine R.asE rfl (by conv => lhs; whnf) ?_
  refine TL.nil (Post.thnN ?_)
  refine T.seq ?_
  refine T.region ?_
  refine R.mvE rfl (by conv => lhs; whnf) ?_
  refine TL.nil (Post.thnN ?_)
  refine T.cond rfl (fun c17 => ?_) (fun c17 => ?_)
  · have hns : mget m n ≠ none := fun e => by rw [e] at c17; cases c17
    refine T.seq ?_
    refine T.region ?_
    refine R.mvE rfl (by conv => lhs; whnf) ?_
    refine R.asE rfl (by conv => lhs; whnf) ?_
    refine TL.nil (Post.thnN ?_)
    refine T.ret (Post.thnR ?_)
    -- way y
    exact fin1L [_] rfl rfl (List.Sublist.refl _) ⟨hK.is hns, es, ck, m, rfl, hm, hK, KLe.refl _, hns⟩
  · refine T.skip (Post.thnN ?_)
    refine T.seq ?_
    refine T.region ?_
    refine R.asE rfl (by conv => lhs; whnf) ?_
    refine TL.nil (Post.thnN ?_)
    refine T.seq ?_
    refine T.seq ?_
    refine T.region ?_
    refine R.ldH Tryz.isAgg90 rfl rfl (ht) rfl ?_
    refine R.mvE rfl (by conv => lhs; whnf) ?_
    refine R.lkuH Tryz.underlying90 Tryz.underlying3 Tryz.zeroValue24 rfl rfl rfl hmt hmT ?_
    have hat := hAt n
    obtain ⟨At, kt, hva, ht1, ht2, hat⟩ := hat.shape
    refine TL.set 21 (.slice At (toL xs n).length kt) hva ?_
    refine R.len Tryz.underlying24 rfl rfl ?_
    refine R.mvE rfl (by conv => lhs; whnf) ?_
    refine TL.nil (Post.thnN ?_)
    refine T.block ?_
    refine T.loop (ι := Nat × Array MapEntry × Nat × MapL) (fun ⟨k, es2, ck2, m2⟩ H' L' ds' => k ≤ (toL xs n).length ∧ ds' = [] ∧ L' = [[(mk, .map es2 ck2)]] ∧ MapIs .i64 es2 m2 ∧ KOK xs m2 ∧ KLe m m2) (fun ⟨k, es2, ck2, m2⟩ => [(0, .int .i64 n), (1, .pointer (some ⟨bk, 0, none⟩)), (2, .pointer (some ⟨bt, 0, none⟩)), (3, .pointer (some ⟨bd, 0, none⟩)), (8, .int .i64 (maxL (((toL xs n).take k).map (fun t => depL xs t + 1)))), (21, .slice At (toL xs n).length kt), (22, .int .i64 (toL xs n).length), (23, .int .i64 k)]) (fun ⟨k, es2, ck2, m2⟩ => (toL xs n).length - k) ((0, es, ck, m)) ?_ ?_ ?_
    · exact ⟨Nat.zero_le _, rfl, rfl, hm, hK, KLe.refl _⟩
    · exact ⟨rfl, rfl, rfl, rfl, rfl, rfl, rfl, rfl, trivial⟩
    · intro ⟨k, es2, ck2, m2⟩ σ0 H_0 L_0 ds_0 s_0 hI_0
      obtain ⟨hk0, rfl, rfl, hm2, hK2, hL2⟩ := hI_0
      refine T.seq ?_
      refine T.region ?_
      refine R.lss rfl rfl rfl ?_
      refine TL.nil (Post.thnN ?_)
      refine T.seq ?_
      refine T.condD rfl (fun c24 => ?_) (fun c24 => ?_)
      · have hlt : k < (toL xs n).length := by omega
        obtain ⟨y, hy⟩ := getk hlt
        have hbd := dep_bd xs y
        refine T.skip (Post.thnN ?_)
        refine T.seq ?_
        refine T.block ?_
        refine T.seq ?_
        refine T.region ?_
        obtain ⟨b25, o25, i25, e25⟩ := (hat.mono s_0).elem (hy)
        refine R.ixp Tryz.underlying24 Tryz.sizeOf3 rfl rfl rfl (by omega) i25 ?_
        refine R.ldC Tryz.isAgg3 rfl rfl (e25).int ?_
        refine R.asE rfl (by conv => lhs; whnf) ?_
        refine TL.nil (Post.thnN ?_)
        refine T.region ?_
        refine R.mvE rfl (by conv => lhs; whnf) ?_
        refine R.ldH Tryz.isAgg152 rfl rfl ((s_0 _ _ hd)) rfl ?_
        refine R.mvE rfl (by conv => lhs; whnf) ?_
        refine TL.call [true] rfl rfl rfl (ih y (List.mem_of_getElem? hy) _ es2 ck2 m2 s_0 hm2 hK2) ?_
        intro v30 H30 L30 s30 q30
        obtain ⟨rfl, es30, ck30, m30, rfl, hm30, hK30, hL30, _⟩ := q30
        refine R.addI rfl rfl rfl (by omega) ?_
        refine R.max2 rfl rfl rfl ?_
        have hmx : (if (maxL (((toL xs n).take k).map (fun t => depL xs t + 1))) < depL xs y + 1 then depL xs y + 1 else (maxL (((toL xs n).take k).map (fun t => depL xs t + 1)))) = maxL (((toL xs n).take (k + 1)).map (fun t => depL xs t + 1)) := by
          rw [take_snoc _ _ _ hy, List.map_append, List.map_cons, List.map_nil, maxL_snoc]
          split <;> omega
        refine TL.set 32 (.int .i64 (maxL (((toL xs n).take (k + 1)).map (fun t => depL xs t + 1)))) (congrArg _ hmx) ?_
        refine R.asE rfl (by conv => lhs; whnf) ?_
        refine TL.nil (Post.blkN ?_)
        refine id (Post.thnN ?_)
        refine T.region ?_
        refine R.addI rfl rfl rfl (by omega) ?_
        refine R.mvE rfl (by conv => lhs; whnf) ?_
        refine TL.nil (Post.thnN ?_)
        -- round's end, way ny
        exact ⟨(k + 1, es30, ck30, m30), s_0.trans s30, ⟨by show k + 1 ≤ _; omega, rfl, rfl, hm30, hK30, hL2.trans hL30⟩, by show (toL xs n).length - (k + 1) < (toL xs n).length - k; omega, ⟨rfl, rfl, rfl, rfl, rfl, rfl, rfl, rfl, trivial⟩⟩
      · have hkx : k = (toL xs n).length := by omega
        have hmo : (maxL (((toL xs n).take k).map (fun t => depL xs t + 1))) = depL xs n := by rw [hkx, List.take_length, ← dep_eq hA n]
        refine T.exit (Post.thnE (Post.thnE (Post.blkX ?_)))
        refine id (Post.thnN ?_)
        refine T.seq ?_
        refine T.region ?_
        refine R.ldH Tryz.isAgg93 rfl rfl ((s_0 _ _ hk)) rfl ?_
        refine R.mvE rfl (by conv => lhs; whnf) ?_
        refine R.mvE rfl (by conv => lhs; whnf) ?_
        refine R.mup Tryz.underlying93 Tryz.underlying3 rfl rfl rfl rfl .hd hm2 ?_
        intro es36 ck36 i36
        refine TL.nil (Post.thnN ?_)
        refine T.seq ?_
        refine T.region ?_
        refine R.mvE rfl (by conv => lhs; whnf) ?_
        refine R.asE rfl (by conv => lhs; whnf) ?_
        refine TL.nil (Post.thnN ?_)
        refine T.ret ?_
        -- way nn
        exact fin1L [_] rfl rfl (List.Sublist.refl _) ⟨congrArg _ hmo, es36, ck36, _, rfl, i36, hK2.put hmo, hL2.trans (KLe.put _ _ _), mput_at _ _ _⟩


theorem deep_c (H : Heap) (bk bt bd : Nat) (mk mt : Nat) (est : Array MapEntry) (ckt : Nat) (mT : MapL) (xs : List Lk) (hmt : H mt = some (.map est ckt)) (hmT : MapIs .i64 est mT) (hAt : ∀ j, RdS (intE .i64) H ((mget mT j).getD (.slice none 0 0)) (toL xs j)) (hA : Acyc xs) (hl : xs.length ≤ 1000) (hk : H bk = some (.cells #[.map (some mk)] 93)) (ht : H bt = some (.cells #[.map (some mt)] 90)) (hd : H bd = some (.cells #[(.func (.func 132) #[] ([.pointer (some ⟨bk, 0, none⟩), .pointer (some ⟨bt, 0, none⟩), .pointer (some ⟨bd, 0, none⟩)] : List Value).toArray)] 152)) : ∀ (r : Nat) (n : Int), rankL xs n ≤ r → ∀ H' es ck m, HLe H H' → MapIs .i64 es m → KOK xs m → Fc Tryz.prog (.func (.func 132) #[] ([.pointer (some ⟨bk, 0, none⟩), .pointer (some ⟨bt, 0, none⟩), .pointer (some ⟨bd, 0, none⟩)] : List Value).toArray) [.int .i64 n] H' [[(mk, .map es ck)]] (DPost xs mk n m) := fun r => by
  induction r with
  | zero =>
    intro n hn H' es ck m hle hm hK
    exact deepS_c H' bk bt bd mk mt est ckt mT xs (hle _ _ hmt) hmT (fun j => (hAt j).mono hle) hA hl (hle _ _ hk) (hle _ _ ht) (hle _ _ hd) n (fun t ht => absurd (rank_lt hA ht) (by omega)) es ck m hm hK
  | succ r ih =>
    intro n hn H' es ck m hle hm hK
    exact deepS_c H' bk bt bd mk mt est ckt mT xs (hle _ _ hmt) hmT (fun j => (hAt j).mono hle) hA hl (hle _ _ hk) (hle _ _ ht) (hle _ _ hd) n (fun t ht H2 es2 ck2 m2 h2 hm2 hK2 => ih t (by have := rank_lt hA ht; omega) H2 es2 ck2 m2 (hle.trans h2) hm2 hK2) es ck m hm hK

set_option maxHeartbeats 1600000 in
theorem risesIt_c (H : Heap) (bk bt br : Nat) (mk mt : Nat) (est : Array MapEntry) (ckt : Nat) (mT : MapL) (xs : List Lk) (hmt : H mt = some (.map est ckt)) (hmT : MapIs .i64 est mT) (hAt : ∀ j, RdS (intE .i64) H ((mget mT j).getD (.slice none 0 0)) (toL xs j)) (hA : Acyc xs) (hl : xs.length ≤ 1000) (hk : H bk = some (.cells #[.map (some mk)] 93)) (ht : H bt = some (.cells #[.map (some mt)] 90)) (v : Value) (row : List Int) (hb : H br = some (.cells #[v] 24)) (hrr : RdS (intE .i64) H v row) (hpos : ∀ n ∈ row, 0 < depL xs n) : IterR Tryz.prog (.func (.func 131) #[] ([.pointer (some ⟨bk, 0, none⟩), .pointer (some ⟨bt, 0, none⟩), .pointer (some ⟨br, 0, none⟩)] : List Value).toArray) YP (RSK xs mk) H (row.map (fun n => (n, depL xs n))) := by
  obtain ⟨A, c, rfl, hc1, hc2, hrr⟩ := hrr.shape
  intro l J Jx H1 cR Lc hle hJ hJx hY hR h0
  obtain ⟨es, ck, m, rfl, hm, hK, _⟩ := hR
  refine Fc.of_body (N := 30) Tryz.func131 rfl (by kernel_rfl) rfl rfl ?_
  intro w0
  refine T.seq ?_
  refine T.region ?_
  refine R.alloc Tryz.zeroValue152 rfl ?_
  intro b5
  refine TL.nil (Post.thnN ?_)
  refine T.seq ?_
  refine T.region ?_
  refine R.mkf (cs := [_, _, _]) rfl rfl ?_
  refine R.st Tryz.sizeOf152 rfl rfl (by conv => lhs; whnf) rfl (by first | exact .hd | exact .tl .hd | exact .tl (.tl .hd) | exact .tl (.tl (.tl .hd)) | exact .tl (.tl (.tl (.tl .hd))) | exact .tl (.tl (.tl (.tl (.tl .hd)))) | exact .tl (.tl (.tl (.tl (.tl (.tl .hd))))) | exact .tl (.tl (.tl (.tl (.tl (.tl (.tl .hd)))))) | exact .tl (.tl (.tl (.tl (.tl (.tl (.tl (.tl .hd))))))) | exact .tl (.tl (.tl (.tl (.tl (.tl (.tl (.tl (.tl .hd))))))))) ?_
  refine TL.nil (Post.thnN ?_)
  refine T.seq ?_
  refine T.shut .hd ?_
  intro H5 s5 q5
  have h5 : H5 b5 = some (.cells #[(.func (.func 132) #[] ([.pointer (some ⟨bk, 0, none⟩), .pointer (some ⟨bt, 0, none⟩), .pointer (some ⟨b5, 0, none⟩)] : List Value).toArray)] 152) := shut1 q5
  refine T.region ?_
  refine R.ldH Tryz.isAgg24 rfl rfl ((s5 _ _ (hle _ _ hb))) rfl ?_
  refine R.len Tryz.underlying24 rfl rfl ?_
  refine R.mvE rfl (by conv => lhs; whnf) ?_
  refine TL.nil (Post.thnN ?_)
  refine T.block ?_
  refine T.loop (ι := Nat × Array MapEntry × Nat × MapL × Own) (fun ⟨k, es2, ck2, m2, Lj⟩ H' L' ds' => k ≤ row.length ∧ ds' = [] ∧ L' = [(mk, .map es2 ck2)] :: Lj ∧ MapIs .i64 es2 m2 ∧ KOK xs m2 ∧ (∀ n ∈ row.take k, mget m2 n ≠ none) ∧ J ((row.take k).map (fun n => (n, depL xs n))) H' Lj) (fun ⟨k, es2, ck2, m2, Lj⟩ => [(0, yieldv l), (5, .pointer (some ⟨b5, 0, none⟩)), (10, .slice A row.length c), (11, .int .i64 row.length), (12, .int .i64 k)]) (fun ⟨k, es2, ck2, m2, Lj⟩ => row.length - k) ((0, es, ck, m, Lc)) ?_ ?_ ?_
  · exact ⟨Nat.zero_le _, rfl, rfl, hm, hK, fun n h => by simp at h, hJ _ _ _ _ s5 h0⟩
  · exact ⟨rfl, rfl, rfl, rfl, rfl, trivial⟩
  · intro ⟨k, es2, ck2, m2, Lj⟩ σ0 H_0 L_0 ds_0 s_0 hI_0
    obtain ⟨hk0, rfl, rfl, hm2, hK2, hkn, hJk⟩ := hI_0
    refine T.seq ?_
    refine T.region ?_
    refine R.lss rfl rfl rfl ?_
    refine TL.nil (Post.thnN ?_)
    refine T.seq ?_
    refine T.condD rfl (fun c13 => ?_) (fun c13 => ?_)
    · have hlt : k < row.length := by omega
      obtain ⟨y, hy⟩ := getk hlt
      have hpe : (row.take k).map (fun n => (n, depL xs n)) ++ [(y, depL xs y)] = (row.take (k + 1)).map (fun n => (n, depL xs n)) := by rw [take_snoc _ _ _ hy, List.map_append]; rfl
      have hpre : (row.take k).map (fun n => (n, depL xs n)) ++ [(y, depL xs y)] <+: row.map (fun n => (n, depL xs n)) := by rw [hpe, List.map_take]; exact List.take_prefix _ _
      refine T.skip (Post.thnN ?_)
      refine T.seq ?_
      refine T.block ?_
      refine T.seq ?_
      refine T.region ?_
      obtain ⟨b14, o14, i14, e14⟩ := (hrr.mono (hle.trans (s5.trans s_0))).elem (hy)
      refine R.ixp Tryz.underlying24 Tryz.sizeOf3 rfl rfl rfl (by omega) i14 ?_
      refine R.ldC Tryz.isAgg3 rfl rfl (e14).int ?_
      refine R.asE rfl (by conv => lhs; whnf) ?_
      refine TL.nil (Post.thnN ?_)
      refine T.seq ?_
      refine T.region ?_
      refine R.ldH Tryz.isAgg152 rfl rfl ((s_0 _ _ h5)) rfl ?_
      refine R.mvE rfl (by conv => lhs; whnf) ?_
      refine TL.call [true] rfl rfl rfl (deep_c H_0 bk bt b5 mk mt est ckt mT xs ((hle.trans (s5.trans s_0)) _ _ hmt) hmT (fun j => (hAt j).mono (hle.trans (s5.trans s_0))) hA hl ((hle.trans (s5.trans s_0)) _ _ hk) ((hle.trans (s5.trans s_0)) _ _ ht) (s_0 _ _ h5) _ y (Nat.le_refl _) H_0 es2 ck2 m2 (HLe.refl _) hm2 hK2) ?_
      intro v18 H18 L18 s18 q18
      obtain ⟨rfl, es18, ck18, m18, rfl, hm18, hK18, hL18, hn18⟩ := q18
      have hRS : RSK xs mk ((row.take k).map (fun n => (n, depL xs n)) ++ [(y, depL xs y)]) H18 [(mk, .map es18 ck18)] := ⟨es18, ck18, m18, rfl, hm18, hK18, fun z hz => by
        rcases List.mem_append.1 hz with hz | hz
        · obtain ⟨n, hn, rfl⟩ := List.mem_map.1 hz
          exact hL18 n (hkn n hn)
        · rw [List.mem_singleton.1 hz]; exact hn18⟩
      refine R.asE rfl (by conv => lhs; whnf) ?_
      refine TL.nil (Post.thnN ?_)
      refine T.seq ?_
      refine T.region ?_
      refine R.mvE rfl (by conv => lhs; whnf) ?_
      refine R.gtr rfl rfl rfl ?_
      refine R.mvE rfl (by conv => lhs; whnf) ?_
      refine TL.set 21 (.bool true) (congrArg Value.bool (decide_eq_true (hpos y (List.mem_of_getElem? hy)))) ?_
      refine R.mvE rfl (by conv => lhs; whnf) ?_
      refine R.mvE rfl (by conv => lhs; whnf) ?_
      refine R.mvE rfl (by conv => lhs; whnf) ?_
      refine R.bld (cs := [.int .i64 y, .int .i64 (depL xs y)]) rfl (fun _ => by kernel_rfl) ?_
      refine TL.callT 0 rfl rfl rfl (hY ((row.take k).map (fun n => (n, depL xs n))) (y, depL xs y) _ H18 _ Lj (s5.trans (s_0.trans s18)) hpre (hJ _ _ _ _ s18 hJk) hRS rfl) ?_
      intro v26 H26 L26 s26 q26
      rcases q26 with ⟨rfl, c26, M26, rfl, hR26, hJ2⟩ | ⟨rfl, c26, M26, rfl, hR26, hJ2⟩
      · refine R.not rfl rfl ?_
        refine R.pkTE rfl rfl (by conv => lhs; whnf) ?_
        refine TL.nil (Post.thnN ?_)
        refine T.condN rfl ?_
        refine T.skip (Post.blkN ?_)
        refine id (Post.thnN ?_)
        refine T.region ?_
        refine R.addI rfl rfl rfl (by omega) ?_
        refine R.mvE rfl (by conv => lhs; whnf) ?_
        refine TL.nil (Post.thnN ?_)
        -- round's end, way yy
        obtain ⟨es26, ck26, m26, rfl, hm26, hK26, hn26⟩ := hR26
        exact ⟨(k + 1, es26, ck26, m26, M26), s_0.trans (s18.trans s26), ⟨by show k + 1 ≤ _; omega, rfl, rfl, hm26, hK26, fun n hn => hn26 (n, depL xs n) (by rw [hpe, List.map_take]; rw [← List.map_take]; exact List.mem_map.2 ⟨n, hn, rfl⟩), by have h9 := hJ2; rw [hpe, List.map_take] at h9; rw [List.map_take]; exact h9⟩, by show row.length - (k + 1) < row.length - k; omega, ⟨rfl, rfl, rfl, rfl, rfl, trivial⟩⟩
      · refine R.not rfl rfl ?_
        refine R.pkTE rfl rfl (by conv => lhs; whnf) ?_
        refine TL.nil (Post.thnN ?_)
        refine T.condY rfl ?_
        refine T.ret (Post.blkR (Post.thnR (Post.thnR (Post.blkR ?_))))
        -- way yn
        exact fin0L (c26 :: M26) rfl (List.Sublist.refl _) (.inr ⟨_, (y, depL xs y), hpre, c26, M26, rfl, hR26, hJ2⟩)
    · have hkx : k = row.length := by omega
      rw [hkx, List.take_length] at hJk hkn
      refine T.exit (Post.thnE (Post.thnE (Post.blkX ?_)))
      refine id ?_
      -- way n
      exact fin0N ([(mk, .map es2 ck2)] :: Lj) rfl (List.Sublist.refl _) (.inl ⟨_, Lj, rfl, ⟨es2, ck2, m2, rfl, hm2, hK2, fun z hz => by
        obtain ⟨n, hn, rfl⟩ := List.mem_map.1 hz
        exact hkn n hn⟩, hJk⟩)


set_option maxHeartbeats 1600000 in
theorem rises_c (H : Heap) (mk mt : Nat) (est : Array MapEntry) (ckt : Nat) (mT : MapL) (xs : List Lk) (hmt : H mt = some (.map est ckt)) (hmT : MapIs .i64 est mT) (hAt : ∀ j, RdS (intE .i64) H ((mget mT j).getD (.slice none 0 0)) (toL xs j)) (hA : Acyc xs) (hl : xs.length ≤ 1000) (v : Value) (row : List Int) (hrr : RdS (intE .i64) H v row) (hpos : ∀ n ∈ row, 0 < depL xs n) : Fp Tryz.prog (fnv 61) [.map (some mt), v, .map (some mk)] H (fun v' H' => ∃ lb, v' = .func (.func 131) #[] lb ∧ IterR Tryz.prog v' YP (RSK xs mk) H' (row.map (fun n => (n, depL xs n)))) := by
  refine Fc.of_body (N := 8) Tryz.func61 rfl (by kernel_rfl) rfl rfl ?_
  intro w0
  obtain ⟨A, c, rfl, hc1, hc2, hrr⟩ := hrr.shape
  refine T.seq ?_
  refine T.region ?_
  refine R.box rfl (by conv => lhs; whnf) ?_
  intro b3
  refine R.box rfl (by conv => lhs; whnf) ?_
  intro b4
  refine R.box rfl (by conv => lhs; whnf) ?_
  intro b5
  refine R.asE rfl (by conv => lhs; whnf) ?_
  refine TL.nil (Post.thnN ?_)
  refine T.seq ?_
  refine T.shut .hd ?_
  intro H5 s5 q5
  refine T.shut .hd ?_
  intro H4 s4 q4
  refine T.shut .hd ?_
  intro H3 s3 q3
  have hle := s5.trans (s4.trans s3)
  refine T.region ?_
  refine R.mkf (cs := [_, _, _]) rfl rfl ?_
  refine R.asE rfl (by conv => lhs; whnf) ?_
  refine TL.nil (Post.thnN ?_)
  refine T.ret ?_
  exact fin1 rfl rfl ⟨rfl, _, rfl, risesIt_c H3 b5 b3 b4 mk mt est ckt mT xs (hle _ _ hmt) hmT (fun j => (hAt j).mono hle) hA hl ((s4.trans s3) _ _ (shut1 q5)) (shut1 q3) _ row (s3 _ _ (shut1 q4)) (hrr.mono hle) hpos⟩


set_option maxHeartbeats 1600000 in
theorem appseqD_c (H : Heap) (gf : Nat) (lb : Array Value) (ys : List Lk) (RS : List Lk → Heap → Chunk → Prop) (c0 : Chunk) (hen : Enters Tryz.prog gf) (hl : ys.length ≤ 100000) (hit : IterR Tryz.prog (.func (.func gf) #[] lb) YP RS H ys) (hRm : ∀ pre H H' c, HLe H H' → RS pre H c → RS pre H' c) (hrs : RS [] H c0) : Fc Tryz.prog (fnv 130) [.slice none 0 0, .func (.func gf) #[] lb] H [c0] (fun v' H' L' => ∃ c2 c1, L' = [c2, c1] ∧ RS ys H' c2 ∧ OwnS pairE 29 H' v' ys c1) := by
  refine Fc.of_body (N := 13) Tryz.func130 rfl (by kernel_rfl) rfl rfl ?_
  intro w0
  refine T.seq ?_
  refine T.region ?_
  refine R.box rfl (by conv => lhs; whnf) ?_
  intro b2
  refine R.asE rfl (by conv => lhs; whnf) ?_
  refine TL.nil (Post.thnN ?_)
  refine T.seq ?_
  refine T.seq ?_
  refine T.nilc ?_
  refine T.region ?_
  refine R.mvE rfl (by conv => lhs; whnf) ?_
  refine TL.nil (Post.thnN ?_)
  refine T.block ?_
  refine T.permL (L' := c0 :: [] :: [[(b2, .cells #[.slice none 0 0] 23)]]) (by simp only [List.flatten_cons, List.flatten_nil, List.append_nil, List.nil_append]; exact List.perm_append_comm (l₁ := [(b2, Obj.cells #[.slice none 0 0] 23)])) ?_
  refine T.rangeFuncR rfl rfl hen hit (fun _ _ _ h => by subst h; rfl) rfl (fun pre H' L' => ∃ v c, L' = [c, [(b2, .cells #[v] 23)]] ∧ OwnS pairE 29 H' v pre c) (fun c pre H' L' => False) (fun pre H H' L hle ⟨v, c, h1, h2⟩ => ⟨v, c, h1, h2.mono hle⟩) (fun _ _ _ _ _ _ h => h) (hrs) ?_ ?_ ?_ ?_
  · exact ⟨_, _, rfl, OwnS.nil⟩
  · intro l0 r0 w0 pre y vs Hr0 cR0 Lr0 sr0 hp0 hI0 hR0 hY0
    obtain ⟨v, c, rfl, ho⟩ := hI0
    obtain rfl := hY0
    have hpl := hp0.length_le
    simp at hpl
    refine T.region ?_
    refine R.alloc Tryz.zeroValue29 rfl ?_
    intro b5
    refine R.stA (old := [.int .i64 0, .int .i64 0]) Tryz.sizeOf29 rfl rfl rfl rfl rfl (by intro v hv; simp at hv; rcases hv with rfl | rfl <;> rfl) .hd ?_
    refine TL.nil ?_
    refine onlyN.mk ?_
    refine T.block ?_
    refine T.shut .hd ?_
    intro H5 s5 q5
    have h5 : H5 b5 = some (.cells #[.int .i64 y.1, .int .i64 y.2] 29) := shut1 q5
    refine T.region ?_
    refine R.ld Tryz.isAgg23 rfl rfl (by repeat (first | exact .hd | refine .tl ?_)) rfl ?_
    refine R.ldAH Tryz.isAgg29 Tryz.sizeOf29 rfl rfl rfl h5 ?_
    refine R.bs (e := 29) (cs := [.int .i64 y.1, .int .i64 y.2]) rfl (fun _ => by kernel_rfl) ?_
    intro b10
    refine R.app (ys := [y]) Tryz_ty23 rfl rfl rfl (ho.mono s5) (.tl (.tl .hd)) (Src.lit (vs := [.int .i64 y.1, .int .i64 y.2]) .hd) ⟨[.int .i64 y.1, .int .i64 y.2], [], rfl, rfl, rfl⟩ (by simp; omega) (by simp; omega) ?_
    intro v11 c11 w11
    refine R.st Tryz.sizeOf23 rfl rfl rfl (by obtain ⟨_, _, e, _⟩ := w11.shape; subst e; rfl) (by first | exact .hd | exact .tl .hd | exact .tl (.tl .hd) | exact .tl (.tl (.tl .hd)) | exact .tl (.tl (.tl (.tl .hd))) | exact .tl (.tl (.tl (.tl (.tl .hd)))) | exact .tl (.tl (.tl (.tl (.tl (.tl .hd))))) | exact .tl (.tl (.tl (.tl (.tl (.tl (.tl .hd)))))) | exact .tl (.tl (.tl (.tl (.tl (.tl (.tl (.tl .hd))))))) | exact .tl (.tl (.tl (.tl (.tl (.tl (.tl (.tl (.tl .hd))))))))) ?_
    refine TL.del (.tl .hd) ?_
    refine TL.permL (perm_two (a := c11) (b := cR0)) ?_
    refine TL.nil (Post.blkN ?_)
    refine id ?_
    -- way b
    exact ⟨cR0, [c11, [(b2, .cells #[v11] 23)]], rfl, hRm _ _ _ _ s5 hR0, v11, c11, rfl, w11⟩
  · intro D0 Hr0 cR0 Lr0 sr0 hR0 hI0
    obtain ⟨v, c, rfl, ho⟩ := hI0
    refine id (Post.blkN ?_)
    refine id (Post.thnN ?_)
    refine T.seq ?_
    refine T.region ?_
    refine R.ld Tryz.isAgg23 rfl rfl (by repeat (first | exact .hd | refine .tl ?_)) rfl ?_
    refine R.asE rfl (by conv => lhs; whnf) ?_
    refine TL.nil (Post.thnN ?_)
    refine T.ret ?_
    -- way d
    exact fin1L [cR0, c] rfl rfl (List.Sublist.cons_cons _ (List.Sublist.cons_cons _ (List.nil_sublist _))) ⟨cR0, c, rfl, hR0, ho⟩
  · intro D0 c0 pre y Hr0 cR0 Lr0 sr0 hp0 hR0 hI0
    exact hI0.elim


set_option maxHeartbeats 1600000 in
theorem collectD_c (H : Heap) (gf : Nat) (lb : Array Value) (ys : List Lk) (RS : List Lk → Heap → Chunk → Prop) (c0 : Chunk) (hen : Enters Tryz.prog gf) (hl : ys.length ≤ 100000) (hit : IterR Tryz.prog (.func (.func gf) #[] lb) YP RS H ys) (hRm : ∀ pre H H' c, HLe H H' → RS pre H c → RS pre H' c) (hrs : RS [] H c0) : Fc Tryz.prog (fnv 60) [.func (.func gf) #[] lb] H [c0] (fun v' H' L' => ∃ c2 c1, L' = [c2, c1] ∧ RS ys H' c2 ∧ OwnS pairE 29 H' v' ys c1) := by
  refine Fc.of_body (N := 5) Tryz.func60 rfl (by kernel_rfl) rfl rfl ?_
  intro w0
  refine T.seq ?_
  refine T.region ?_
  refine R.asE rfl (by conv => lhs; whnf) ?_
  refine TL.nil (Post.thnN ?_)
  refine T.seq ?_
  refine T.region ?_
  refine R.mvE rfl (by conv => lhs; whnf) ?_
  refine TL.call [true] rfl rfl rfl (appseqD_c _ gf lb ys RS c0 hen hl hit hRm hrs) ?_
  intro v4 H4 L4 s4 q4
  obtain ⟨c4, d4, rfl, g4, w4⟩ := q4
  refine R.asE rfl (by conv => lhs; whnf) ?_
  refine TL.nil (Post.thnN ?_)
  refine T.ret ?_
  exact fin1L [c4, d4] rfl rfl (List.Sublist.refl _) ⟨_, _, rfl, g4, w4⟩


theorem RSK.mono {xs : List Lk} {mk : Nat} : ∀ pre H H' c, HLe H H' → RSK xs mk pre H c → RSK xs mk pre H' c := fun _ _ _ _ _ h => h
theorem RSK.start (xs : List Lk) (mk : Nat) (H : Heap) : RSK xs mk [] H [(mk, .map #[] 0)] := ⟨#[], 0, [], rfl, mapIs_nil _, KOK.nil xs, fun y h => by simp at h⟩

set_option maxHeartbeats 1600000 in
theorem dOf_c (H : Heap) (v : Value) (xs : List Lk) (hr : RdS pairE H v xs) (hl : xs.length ≤ 1000) : Fp Tryz.prog (fnv 13) [v] H (fun v' H' => ∃ w, v' = .tuple #[w, .int .i64 (ofDR xs).2] ∧ RdS pairE H' w (ofDR xs).1) := by
  refine Fc.of_body (N := 18) Tryz.func13 rfl (by kernel_rfl) rfl rfl ?_
  intro w0
  obtain ⟨A, c, rfl, hc1, hc2, hr⟩ := hr.shape
  refine T.seq ?_
  refine T.region ?_
  refine R.asE rfl (by conv => lhs; whnf) ?_
  refine R.asE rfl (by conv => lhs; whnf) ?_
  refine TL.nil (Post.thnN ?_)
  refine T.seq ?_
  refine T.block ?_
  refine T.seq ?_
  refine T.region ?_
  refine R.mvE rfl (by conv => lhs; whnf) ?_
  refine R.callv rfl rfl rfl (ccheck_c _ _ _ hr) ?_
  refine R.neq rfl rfl rfl ?_
  refine R.asE rfl (by conv => lhs; whnf) ?_
  refine TL.nil (Post.thnN ?_)
  refine T.condD rfl (fun c4 => ?_) (fun c4 => ?_)
  · have hcb : chainB xs = false := by
      cases h : chainB xs with
      | false => rfl
      | true => rw [h] at c4; exact absurd rfl c4
    refine T.seq ?_
    refine T.region ?_
    refine R.asE rfl (by conv => lhs; whnf) ?_
    refine R.asE rfl (by conv => lhs; whnf) ?_
    refine TL.nil (Post.thnN ?_)
    refine T.ret (Post.blkR (Post.thnR ?_))
    -- way y
    exact fin2 rfl rfl rfl ⟨rfl, _, by rw [ofDR_a hcb]; rfl, by rw [ofDR_a hcb]; exact RdS.nil⟩
  · have hcb : chainB xs = true := by
      cases h : chainB xs with
      | true => rfl
      | false => rw [h] at c4; exact absurd c4 (by decide)
    refine T.seq ?_
    refine T.region ?_
    refine R.mvE rfl (by conv => lhs; whnf) ?_
    refine R.callv rfl rfl rfl (round_c _ _ xs hr hl) ?_
    refine R.asE rfl (by conv => lhs; whnf) ?_
    refine TL.nil (Post.thnN ?_)
    refine T.cond rfl (fun c8 => ?_) (fun c8 => ?_)
    · refine T.seq ?_
      refine T.region ?_
      refine R.asE rfl (by conv => lhs; whnf) ?_
      refine R.asE rfl (by conv => lhs; whnf) ?_
      refine TL.nil (Post.thnN ?_)
      refine T.ret (Post.blkR (Post.thnR ?_))
      -- way ny
      exact fin2 rfl rfl rfl ⟨rfl, _, by rw [ofDR_b hcb c8]; rfl, by rw [ofDR_b hcb c8]; exact RdS.nil⟩
    · have hA : Acyc xs := ⟨hcb, c8⟩
      refine T.skip (Post.blkN ?_)
      refine id (Post.thnN ?_)
      refine T.seq ?_
      refine T.region ?_
      refine R.mvE rfl (by conv => lhs; whnf) ?_
      refine R.callp rfl rfl rfl (outs_c _ _ xs hr hcb hl) ?_
      intro v12 H12 s12 q12
      obtain ⟨b12, es12, ck12, m12, rfl, hb12, hm12, hAt12⟩ := q12
      refine R.mvE rfl (by conv => lhs; whnf) ?_
      refine TL.call [] rfl rfl rfl (all_c _ _ xs (hr.mono s12) hl) ?_
      intro v14 H14 L14 s14 q14
      obtain ⟨c14, rfl, w14⟩ := q14
      refine TL.shut .hd ?_
      intro HF14 sF14 qF14
      have f14 := w14.read sF14 qF14
      have hle := s14.trans sF14
      refine R.mkm rfl ?_
      intro b15
      refine R.callp rfl rfl rfl (rises_c _ b15 b12 es12 ck12 m12 xs (hle _ _ hb12) hm12 (fun j => (hAt12 j).mono hle) hA hl _ (allL xs) f14 (fun n hn => all_pos hA hn)) ?_
      intro v16 H16 s16 q16
      obtain ⟨lb, rfl, hit⟩ := q16
      refine TL.call [true] rfl rfl rfl (collectD_c _ _ lb (ofD xs) (RSK xs b15) [(b15, .map #[] 0)] (enters_of Tryz.func131 (by kernel_rfl) rfl) (by have := ofD_len xs; omega) hit RSK.mono (RSK.start xs b15 _)) ?_
      intro v17 H17 L17 s17 q17
      obtain ⟨c17, d17, rfl, _, w17⟩ := q17
      refine TL.shut (.tl .hd) ?_
      intro HF17 sF17 qF17
      have f17 := w17.read sF17 qF17
      refine R.asE rfl (by conv => lhs; whnf) ?_
      refine R.asE rfl (by conv => lhs; whnf) ?_
      refine TL.nil (Post.thnN ?_)
      refine T.ret ?_
      -- way nn
      exact fin2 rfl rfl rfl ⟨rfl, _, by rw [ofDR_c hA]; rfl, by rw [ofDR_c hA]; exact f17⟩

end Go.SX
