/- WV: how rows stand; in plain Lean. -/
import Derived.Test.YtmkmdfgfclckoaaWu
set_option linter.unusedVariables false
set_option linter.unusedSimpArgs false
namespace Go.SX
open Go

def cmpL : List Int → List Int → Int
  | [], [] => 0
  | [], _ :: _ => -1
  | _ :: _, [] => 1
  | a :: x, b :: y => if a < b then -1 else if a > b then 1 else cmpL x y
theorem cmpL_at : ∀ (k : Nat) (xs ys : List Int) (a b : Int), xs.take k = ys.take k → xs[k]? = some a → ys[k]? = some b → a ≠ b → cmpL xs ys = cmpI a b
  | 0, [], _, _, _, _, h, _, _ => by simp at h
  | 0, _ :: _, [], _, _, _, _, h, _ => by simp at h
  | 0, p :: x, q :: y, a, b, _, h1, h2, hne => by
    simp at h1 h2; subst h1; subst h2
    unfold cmpL cmpI
    split
    · rfl
    · split
      · rfl
      · omega
  | k + 1, [], _, _, _, _, h, _, _ => by simp at h
  | k + 1, _ :: _, [], _, _, _, _, h, _ => by simp at h
  | k + 1, p :: x, q :: y, a, b, h, h1, h2, hne => by
    simp only [List.take_succ_cons, List.cons.injEq] at h
    obtain ⟨rfl, h⟩ := h
    have := cmpL_at k x y a b h (by simpa using h1) (by simpa using h2) hne
    rw [← this]
    conv => lhs; unfold cmpL
    rw [if_neg (by omega), if_neg (by omega)]
theorem cmpL_end : ∀ (xs ys : List Int), xs = ys.take xs.length → cmpL xs ys = if xs.length < ys.length then -1 else 0
  | [], [], _ => rfl
  | [], _ :: _, _ => by simp [cmpL]
  | a :: x, [], h => by simp at h
  | a :: x, b :: y, h => by
    simp only [List.length_cons, List.take_succ_cons, List.cons.injEq] at h
    obtain ⟨rfl, h⟩ := h
    have := cmpL_end x y h
    unfold cmpL
    rw [if_neg (by omega), if_neg (by omega), this]
    simp
theorem cmpL_long : ∀ (xs ys : List Int), xs.take ys.length = ys → ys.length < xs.length → cmpL xs ys = 1
  | [], ys, _, h => by simp at h
  | a :: x, [], _, _ => rfl
  | a :: x, b :: y, h, h2 => by
    simp only [List.length_cons, List.take_succ_cons, List.cons.injEq] at h
    obtain ⟨rfl, h⟩ := h
    have := cmpL_long x y h (by simpa using h2)
    unfold cmpL
    rw [if_neg (by omega), if_neg (by omega), this]
theorem cmpI_zero {a b : Int} : cmpI a b = 0 ↔ a = b := by unfold cmpI; split <;> (try split) <;> omega
theorem cmpL_rng : ∀ (xs ys : List Int), cmpL xs ys = -1 ∨ cmpL xs ys = 0 ∨ cmpL xs ys = 1
  | [], [] => by simp [cmpL]
  | [], _ :: _ => by simp [cmpL]
  | _ :: _, [] => by simp [cmpL]
  | a :: x, b :: y => by
    unfold cmpL
    split
    · exact .inl rfl
    · split
      · exact .inr (.inr rfl)
      · exact cmpL_rng x y
theorem cmpL_anti : ∀ (xs ys : List Int), cmpL ys xs = - cmpL xs ys
  | [], [] => rfl
  | [], _ :: _ => rfl
  | _ :: _, [] => rfl
  | a :: x, b :: y => by
    have := cmpL_anti x y
    unfold cmpL
    repeat' split
    all_goals first | omega | rfl
theorem cmpL_zero : ∀ (xs ys : List Int), cmpL xs ys = 0 ↔ xs = ys
  | [], [] => by simp [cmpL]
  | [], _ :: _ => by simp [cmpL]
  | _ :: _, [] => by simp [cmpL]
  | a :: x, b :: y => by
    have := cmpL_zero x y
    unfold cmpL
    split
    · simp; omega
    · split
      · simp; omega
      · have e : a = b := by omega
        subst e
        simp [this]
theorem cmpL_trans : ∀ (xs ys zs : List Int), cmpL xs ys ≤ 0 → cmpL ys zs ≤ 0 → cmpL xs zs ≤ 0 ∧ (cmpL xs zs = 0 ↔ cmpL xs ys = 0 ∧ cmpL ys zs = 0)
  | [], [], [], _, _ => by simp [cmpL]
  | [], [], _ :: _, _, _ => by simp [cmpL]
  | [], _ :: _, [], _, h => by simp [cmpL] at h
  | [], _ :: _, _ :: _, _, _ => by simp [cmpL]
  | _ :: _, [], _, h, _ => by simp [cmpL] at h
  | _ :: _, _ :: _, [], _, h => by simp [cmpL] at h
  | a :: x, b :: y, c :: z, h1, h2 => by
    have ih := cmpL_trans x y z
    unfold cmpL at h1 h2 ⊢
    by_cases h3 : a < b
    · rw [if_pos h3] at h1 ⊢
      by_cases h4 : b < c
      · rw [if_pos h4, if_pos (by omega)]; simp
      · rw [if_neg h4] at h2 ⊢
        by_cases h5 : b > c
        · rw [if_pos h5] at h2; omega
        · rw [if_neg h5, if_pos (by omega)]; simp
    · rw [if_neg h3] at h1 ⊢
      by_cases h4 : a > b
      · rw [if_pos h4] at h1; omega
      · rw [if_neg h4] at h1 ⊢
        have e : a = b := by omega
        subst e
        by_cases h5 : a < c
        · rw [if_pos h5, if_pos h5]; simp
        · rw [if_neg h5] at h2 ⊢
          by_cases h6 : a > c
          · rw [if_pos h6] at h2; omega
          · rw [if_neg h6] at h2 ⊢
            rw [if_neg h5, if_neg h6]
            exact ih h1 h2
/-- What compares two ids. -/
def FCmp (P : Program) (fv : Value) (H : Heap) : Prop := ∀ H', HLe H H' → ∀ a b, Fv P fv [.int .u64 a, .int .u64 b] H' (.int .i64 (cmpI a b))
/-- i from either end are turned. -/
def revI (xs : List Int) (i : Nat) (l : List Int) : Prop := l.length = xs.length ∧ ∀ t : Nat, t < xs.length → l[t]? = if t < i ∨ xs.length ≤ t + i then xs[xs.length - 1 - t]? else xs[t]?
theorem revI_zero (xs : List Int) : revI xs 0 xs := ⟨rfl, fun t ht => by rw [if_neg (by omega)]⟩
theorem revI_step {xs l : List Int} {i : Nat} {a b : Int} (h : revI xs i l) (hij : 2 * i + 1 < xs.length) (hi : l[i]? = some a) (hj : l[((xs.length : Int) - 1 - i).toNat]? = some b) :
    revI xs (i + 1) ((l.set i b).set (((xs.length : Int) - 1 - i).toNat) a) := by
  obtain ⟨h1, h2⟩ := h
  have hj' : ((xs.length : Int) - 1 - i).toNat = xs.length - 1 - i := by omega
  rw [hj'] at hj ⊢
  refine ⟨by simp [h1], fun t ht => ?_⟩
  have hi2 := h2 i (by omega)
  rw [if_neg (by omega), hi] at hi2
  have hj2 := h2 (xs.length - 1 - i) (by omega)
  rw [if_neg (by omega), hj] at hj2
  by_cases e1 : t = xs.length - 1 - i
  · subst e1
    rw [List.getElem?_set_self (by simp; omega), if_pos (by omega), show xs.length - 1 - (xs.length - 1 - i) = i by omega]
    exact hi2
  · rw [List.getElem?_set_ne (fun e => e1 e.symm)]
    by_cases e2 : t = i
    · subst e2
      rw [List.getElem?_set_self (by omega), if_pos (by omega)]
      exact hj2
    · rw [List.getElem?_set_ne (fun e => e2 e.symm), h2 t ht]
      by_cases e3 : t < i ∨ xs.length ≤ t + i
      · rw [if_pos e3, if_pos (by omega)]
      · rw [if_neg e3, if_neg (by omega)]
theorem revI_end {xs l : List Int} {i : Nat} (h : revI xs i l) (hij : xs.length ≤ 2 * i + 1) : l = xs.reverse := by
  obtain ⟨h1, h2⟩ := h
  refine List.ext_getElem? (fun t => ?_)
  by_cases ht : t < xs.length
  · rw [h2 t ht, List.getElem?_reverse ht]
    split
    · rfl
    · have : t = xs.length - 1 - t := by omega
      rw [← this]
  · rw [List.getElem?_eq_none (by omega), List.getElem?_eq_none (by simp; omega)]
theorem up_ext : ∀ {a b : List Int}, Up a → Up b → (∀ x, x ∈ a ↔ x ∈ b) → a = b
  | [], [], _, _, _ => rfl
  | [], y :: b, _, _, h => by have := (h y).2 (List.mem_cons_self ..); cases this
  | x :: a, [], _, _, h => by have := (h x).1 (List.mem_cons_self ..); cases this
  | x :: a, y :: b, ha, hb, h => by
    obtain ⟨ha1, ha2⟩ := List.pairwise_cons.1 ha
    obtain ⟨hb1, hb2⟩ := List.pairwise_cons.1 hb
    have e : x = y := by
      have h1 := (h x).1 (List.mem_cons_self ..)
      have h2 := (h y).2 (List.mem_cons_self ..)
      rcases List.mem_cons.1 h1 with h1 | h1
      · exact h1
      · rcases List.mem_cons.1 h2 with h2 | h2
        · exact h2.symm
        · have := ha1 y h2; have := hb1 x h1; omega
    subst e
    rw [up_ext ha2 hb2 (fun z => ?_)]
    constructor
    · intro hz
      rcases List.mem_cons.1 ((h z).1 (List.mem_cons_of_mem _ hz)) with e | h3
      · have := ha1 z hz; omega
      · exact h3
    · intro hz
      rcases List.mem_cons.1 ((h z).2 (List.mem_cons_of_mem _ hz)) with e | h3
      · have := hb1 z hz; omega
      · exact h3
theorem foldl_mem : ∀ (xs a : List Int) (x : Int), x ∈ xs.foldl insU a ↔ x ∈ a ∨ x ∈ xs
  | [], a, x => by simp
  | y :: xs, a, x => by
    rw [List.foldl_cons, foldl_mem xs (insU a y) x, ins_mem, List.mem_cons]
    constructor
    · rintro ((h | h) | h)
      · exact .inr (.inl h)
      · exact .inl h
      · exact .inr (.inr h)
    · rintro (h | h | h)
      · exact .inl (.inr h)
      · exact .inl (.inl h)
      · exact .inr h
theorem ofU_mem (xs : List Int) (x : Int) : x ∈ ofU xs ↔ x ∈ xs := by unfold ofU; rw [foldl_mem]; simp
theorem ofU_reverse (xs : List Int) : ofU xs.reverse = ofU xs := up_ext (ofU_up _) (ofU_up _) (fun x => by rw [ofU_mem, ofU_mem]; simp)
theorem ofR_reverse (xs : List Int) : ofR xs.reverse = ofR xs := by unfold ofR; rw [ofU_reverse, List.all_reverse]
theorem ofR_type {xs : List Int} (h : (ofR xs).2 = 0) : typeB (ofR xs).1 = true := by
  cases h1 : xs.all mayB with
  | false => rw [ofR_a h1] at h; cases h
  | true =>
    by_cases h2 : 12 < (ofU xs).length
    · rw [ofR_b h1 h2] at h; cases h
    · rw [ofR_c h1 h2]
      exact typeB_iff.2 ⟨by show (ofU xs).length ≤ 12; omega, fun y hy => (List.all_eq_true.1 h1) y ((ofU_mem xs y).1 hy), ofU_up xs⟩
theorem us_ofR {xs : List Int} (h : Us xs) : Us (ofR xs).1 := by
  unfold ofR
  split
  · intro x hx; cases hx
  · split
    · intro x hx; cases hx
    · exact fun x hx => h x ((ofU_mem xs x).1 hx)
def meetR (xs ys : List Int) : List Int × Int := if typeB xs = true ∧ typeB ys = true then (xs.filter (fun y => ys.any (fun z => decide (y = z))), 0) else ([], 130)
theorem meetR_a {xs ys : List Int} (h : typeB xs = false) : meetR xs ys = ([], 130) := by unfold meetR; rw [if_neg (by rw [h]; simp)]
theorem meetR_b {xs ys : List Int} (h : typeB ys = false) : meetR xs ys = ([], 130) := by unfold meetR; rw [if_neg (by rw [h]; simp)]
theorem meetR_c {xs ys : List Int} (h : typeB xs = true) (h2 : typeB ys = true) : meetR xs ys = (xs.filter (fun y => ys.any (fun z => decide (y = z))), 0) := by unfold meetR; rw [if_pos ⟨h, h2⟩]
theorem meet_eq (xs ys : List Int) : xs.filter (fun y => ys.any (fun z => decide (y = z))) = xs.filter (fun y => ys.any (fun z => decide (z = y))) := by
  congr 1; funext y; congr 1; funext z; exact decide_eq_decide.2 ⟨Eq.symm, Eq.symm⟩
theorem neg_cmp (xs ys : List Int) : IntKind.i64.wrap (0 - cmpL xs ys) = - cmpL xs ys := by
  rw [IntWalk.i64_in _ (by rcases cmpL_rng xs ys with h | h | h <;> rw [h] <;> omega)]; omega
theorem beq_dec {p q : Prop} [Decidable p] [Decidable q] (h : p ↔ q) : (decide p == decide q) = true := by
  have e : decide p = decide q := decide_eq_decide.2 h
  exact beq_iff_eq.2 e
theorem any_may {xs : List Int} (h : xs.any (fun y => !mayB y) = true) : xs.all mayB = false := by
  obtain ⟨y, hy, h1⟩ := List.any_eq_true.1 h
  obtain ⟨j, hj⟩ := List.mem_iff_getElem?.1 hy
  exact all_not hj (by simpa using h1)
theorem all_may {xs : List Int} (h : xs.any (fun y => !mayB y) = false) : xs.all mayB = true := by
  rw [List.all_eq_true]
  intro y hy
  cases hm : mayB y with
  | true => rfl
  | false => rw [List.any_eq_true.2 ⟨y, hy, by rw [hm]; rfl⟩] at h; cases h
end Go.SX
