/- PL: plain laws of lists that the walks ask for. -/
import Derived.Test.YtkhjpgimjkofcaaSx9
set_option linter.unusedVariables false
set_option linter.unusedSimpArgs false
namespace Go.SX
open Go

theorem take_eq_of {α : Type} {xs ys : List α} {k : Nat} {a : α} (h : xs.take k = ys.take k) (hx : xs[k]? = some a) (hy : ys[k]? = some a) : xs.take (k + 1) = ys.take (k + 1) := by
  rw [List.take_add_one, List.take_add_one, h, hx, hy]
theorem ne_of_get {α : Type} {xs ys : List α} {k : Nat} {a b : α} (hx : xs[k]? = some a) (hy : ys[k]? = some b) (h : a ≠ b) : xs ≠ ys := by
  intro e; subst e; rw [hx] at hy; injection hy with e; exact h e
theorem getk {α : Type} {xs : List α} {k : Nat} (h : k < xs.length) : ∃ y, xs[k]? = some y := ⟨_, List.getElem?_eq_getElem h⟩

def fidxI {α : Type} (p : α → Bool) (xs : List α) : Int := match xs.findIdx? p with
  | some i => i
  | none => -1
theorem fidxI_at {α : Type} {p : α → Bool} {xs : List α} {k : Nat} {y : α} (hk : xs[k]? = some y) (hp : p y = true) (hlt : ∀ (j : Nat) z, j < k → xs[j]? = some z → p z = false) : fidxI p xs = k := by
  have : xs.findIdx? p = some k := by
    rw [List.findIdx?_eq_some_iff_getElem]
    have hl := (List.getElem?_eq_some_iff.1 hk).1
    refine ⟨hl, by rw [(List.getElem?_eq_some_iff.1 hk).2]; exact hp, fun j hj => ?_⟩
    have := hlt j _ hj (List.getElem?_eq_getElem (by omega))
    simp [this]
  unfold fidxI; rw [this]
theorem fidxI_none {α : Type} {p : α → Bool} {xs : List α} (hlt : ∀ (j : Nat) z, xs[j]? = some z → p z = false) : fidxI p xs = -1 := by
  have : xs.findIdx? p = none := by
    rw [List.findIdx?_eq_none_iff]
    intro z hz
    obtain ⟨j, hj⟩ := List.mem_iff_getElem?.1 hz
    exact hlt j z hj
  unfold fidxI; rw [this]
theorem fidxI_ge {α : Type} {p : α → Bool} {xs : List α} : (0 ≤ fidxI p xs) ↔ xs.any p = true := by
  unfold fidxI
  cases h : xs.findIdx? p with
  | none =>
    rw [List.findIdx?_eq_none_iff] at h
    constructor
    · intro h0; simp at h0
    · intro h0
      obtain ⟨y, hy, hp⟩ := List.any_eq_true.1 h0
      rw [h y hy] at hp; cases hp
  | some i =>
    rw [List.findIdx?_eq_some_iff_getElem] at h
    obtain ⟨h1, h2, _⟩ := h
    constructor
    · intro _; exact List.any_eq_true.2 ⟨_, List.getElem_mem h1, h2⟩
    · intro _; simp

theorem RdS.none_nil {α : Type} {E : ER α} {H : Heap} {n c : Nat} {xs : List α} (h : RdS E H (.slice none n c) xs) : xs = [] := by
  cases xs with
  | nil => rfl
  | cons a r =>
    obtain ⟨A, c, h1, _, _, h4⟩ := h
    obtain ⟨b, o, h5, _⟩ := h4 0 a rfl
    subst h5; cases h1

def cntLt (xs : List Int) (x : Int) : Nat := xs.countP (fun y => decide (y < x))
abbrev Up (xs : List Int) : Prop := xs.Pairwise (· < ·)
theorem up_get {xs : List Int} (h : Up xs) {i j : Nat} {a b : Int} (hi : xs[i]? = some a) (hj : xs[j]? = some b) (hij : i < j) : a < b := by
  obtain ⟨h1, rfl⟩ := List.getElem?_eq_some_iff.1 hi
  obtain ⟨h2, rfl⟩ := List.getElem?_eq_some_iff.1 hj
  exact (List.pairwise_iff_getElem.1 h) i j h1 h2 hij
theorem cntLt_eq {xs : List Int} {x : Int} {k : Nat} (hk : k ≤ xs.length) (hlo : ∀ j y, j < k → xs[j]? = some y → y < x) (hhi : ∀ j y, k ≤ j → xs[j]? = some y → x ≤ y) : cntLt xs x = k := by
  unfold cntLt
  have h1 : xs = xs.take k ++ xs.drop k := (List.take_append_drop k xs).symm
  rw [h1, List.countP_append]
  have h2 : (xs.take k).countP (fun y => decide (y < x)) = (xs.take k).length := by
    rw [List.countP_eq_length]
    intro y hy
    obtain ⟨j, hj⟩ := List.mem_iff_getElem?.1 hy
    have hjk : j < k := by have := (List.getElem?_eq_some_iff.1 hj).1; simp at this; omega
    rw [List.getElem?_take_of_lt hjk] at hj
    exact decide_eq_true (hlo j y hjk hj)
  have h3 : (xs.drop k).countP (fun y => decide (y < x)) = 0 := by
    rw [List.countP_eq_zero]
    intro y hy
    obtain ⟨j, hj⟩ := List.mem_iff_getElem?.1 hy
    rw [List.getElem?_drop] at hj
    have := hhi _ y (by omega) hj
    simp; omega
  rw [h2, h3, List.length_take]; omega
theorem cntLt_le (xs : List Int) (x : Int) : cntLt xs x ≤ xs.length := List.countP_le_length
theorem cnt_mem {xs : List Int} {x : Int} {k : Nat} (hlo : ∀ j y, j < k → xs[j]? = some y → y < x) (hhi : ∀ j y, k ≤ j → xs[j]? = some y → x ≤ y) (hup : Up xs) : x ∈ xs ↔ xs[k]? = some x := by
  constructor
  · intro h
    obtain ⟨j, hj⟩ := List.mem_iff_getElem?.1 h
    have h1 : k ≤ j := by
      rcases Nat.lt_or_ge j k with h | h
      · have := hlo j x h hj; omega
      · exact h
    rcases Nat.lt_or_ge k j with h2 | h2
    · obtain ⟨y, hy⟩ := getk (xs := xs) (k := k) (by have := (List.getElem?_eq_some_iff.1 hj).1; omega)
      have h3 := hhi k y (Nat.le_refl _) hy
      have h4 := up_get hup hy hj h2
      omega
    · have : j = k := by omega
      rw [← this]; exact hj
  · intro h; exact List.mem_of_getElem? h

def cmpI (x y : Int) : Int := if x < y then -1 else if x > y then 1 else 0
theorem tupIB {a a' : Int} {b b' : Bool} {k : IntKind} (h : a = a') (h' : b = b') : Value.tuple #[.int k a, .bool b] = Value.tuple #[.int k a', .bool b'] := by rw [h, h']
theorem mid_eq (a b : Nat) (h : a + b ≤ 4611686018427387904) : IntKind.i64.wrap (bshr .u64 (IntKind.u64.wrap ((a : Int) + b)) 1) = ((a + b) / 2 : Nat) := by
  have h1 : IntKind.u64.wrap ((a : Int) + b) = (a : Int) + b := by
    have : ((a : Int) + b) % 18446744073709551616 = (a : Int) + b := Int.emod_eq_of_lt (by omega) (by omega)
    simpa [IntKind.wrap, IntKind.bits, IntKind.signed] using this
  have h2 : bshr .u64 ((a : Int) + b) 1 = ((a : Int) + b) / 2 := by
    show ((a : Int) + b).fdiv (2 ^ (min (1 : Int).toNat 64)) = _
    rw [Int.fdiv_eq_ediv_of_nonneg _ (by decide)]
    rfl
  rw [h1, h2, IntWalk.i64_in _ (by omega)]
  omega
theorem bs_lo {xs : List Int} {x y : Int} {m : Nat} (hup : Up xs) (hy : xs[m]? = some y) (hlt : y < x) {j : Nat} {z : Int} (hj : j ≤ m) (hz : xs[j]? = some z) : z < x := by
  rcases Nat.lt_or_ge j m with h | h
  · have := up_get hup hz hy h; omega
  · have : j = m := by omega
    subst this; rw [hy] at hz; injection hz with hz; omega
theorem bs_hi {xs : List Int} {x y : Int} {m : Nat} (hup : Up xs) (hy : xs[m]? = some y) (hlt : ¬ y < x) {j : Nat} {z : Int} (hj : m ≤ j) (hz : xs[j]? = some z) : x ≤ z := by
  rcases Nat.lt_or_ge m j with h | h
  · have := up_get hup hy hz h; omega
  · have : j = m := by omega
    subst this; rw [hy] at hz; injection hz with hz; omega
theorem own_take0 {α : Type} {E : ER α} {e : TypeId} {H : Heap} {A : Option Addr} {cap : Nat} {xs : List α} {c : Chunk} (h : OwnS E e H (.slice A xs.length cap) xs c) {i : Nat} (hi : i ≤ xs.length) : OwnS E e H (.slice A i cap) (xs.take i) c := by
  have := h.take hi ⟨A, _, rfl⟩
  simp only [slcV, Nat.zero_mul, Nat.sub_zero] at this
  have e : (if cap = 0 then A else A.map fun x => x.add 0) = A := by
    split
    · rfl
    · cases A with
      | none => rfl
      | some a => simp [Addr.add_zero']
  rwa [e] at this
theorem slc_take0 {A : Option Addr} {n cap sz i : Nat} : slcV (.slice A n cap) 0 i cap sz = .slice A i cap := by
  simp only [slcV, Nat.zero_mul, Nat.sub_zero]
  congr 1
  split
  · rfl
  · cases A with
    | none => rfl
    | some a => simp [Addr.add_zero']
theorem zone_of {P : Program} {e : TypeId} {z : Value} (h : (P.info? e).map (fun i => i.zero) = some (some z)) (h1 : ∀ v ∈ z.cells.toList, v.oneCell' = true) : ∀ i z', P.info? e = some i → i.zero = some z' → ∀ v ∈ z'.cells.toList, v.oneCell' = true := by
  intro i z' hi hz
  rw [hi] at h
  simp only [Option.map_some, Option.some.injEq] at h
  rw [h] at hz
  injection hz with hz
  subst hz
  exact h1
theorem pre_ne {α : Type} {pre xs : List α} {y : α} (h : (pre ++ [y]) <+: xs) : (!xs.isEmpty) = true := by
  cases xs with
  | nil => have := h.length_le; simp at this
  | cons a r => rfl
end Go.SX
