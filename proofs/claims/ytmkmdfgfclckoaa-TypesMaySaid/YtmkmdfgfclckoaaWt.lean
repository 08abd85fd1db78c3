/- WT: what types are: rows of ids; in plain Lean. -/
import Derived.Test.YtmkmdfgfclckoaaPl
import Derived.Test.YtmkmdfgfclckoaaWi
import Derived.Test.YtmkmdfgfclckoaaSxA
set_option linter.unusedVariables false
set_option linter.unusedSimpArgs false
namespace Go.SX
open Go

def mayB (x : Int) : Bool := decide (kindI x = 2) || decide (kindI x = 3)
def typeB (xs : List Int) : Bool := decide (xs.length ≤ 12 ∧ (∀ x ∈ xs, mayB x = true) ∧ Up xs)
abbrev Us (xs : List Int) : Prop := ∀ x ∈ xs, U x
theorem typeB_iff {xs : List Int} : typeB xs = true ↔ xs.length ≤ 12 ∧ (∀ x ∈ xs, mayB x = true) ∧ Up xs := by unfold typeB; simp
theorem chk_ne {xs : List Int} : ((if typeB xs then (0 : Int) else 130) ≠ 0) ↔ typeB xs = false := by cases typeB xs <;> simp
theorem mem_take {α : Type} {xs : List α} {k : Nat} {x : α} (h : x ∈ xs.take k) : x ∈ xs := List.mem_of_mem_take h
theorem up_snoc {l : List Int} {y : Int} : Up (l ++ [y]) ↔ Up l ∧ ∀ x ∈ l, x < y := by
  unfold Up; rw [List.pairwise_append]; simp
theorem up_last {l : List Int} {y : Int} (h : Up l) (hl : ∀ z, l.getLast? = some z → z < y) : ∀ x ∈ l, x < y := by
  intro x hx
  obtain ⟨j, hj⟩ := List.mem_iff_getElem?.1 hx
  have hjl := (List.getElem?_eq_some_iff.1 hj).1
  obtain ⟨z, hz⟩ := getk (xs := l) (k := l.length - 1) (by omega)
  have h1 := hl z (by rw [List.getLast?_eq_getElem?]; exact hz)
  rcases Nat.lt_or_ge j (l.length - 1) with h2 | h2
  · have := up_get h hj hz h2; omega
  · have : j = l.length - 1 := by omega
    subst this; rw [hj] at hz; injection hz with hz; omega
/-- One more that may be. -/
theorem ty_snoc {xs : List Int} {k : Nat} {y : Int} (hy : xs[k]? = some y) (hm : ∀ x ∈ xs.take k, mayB x = true) (hu : Up (xs.take k)) (h1 : mayB y = true) (h2 : k = 0 ∨ ∃ z, xs[k - 1]? = some z ∧ z < y) :
    (∀ x ∈ xs.take (k + 1), mayB x = true) ∧ Up (xs.take (k + 1)) := by
  rw [take_snoc _ _ _ hy]
  refine ⟨fun x hx => ?_, ?_⟩
  · rcases List.mem_append.1 hx with hx | hx
    · exact hm x hx
    · simp at hx; rw [hx]; exact h1
  · rw [up_snoc]
    refine ⟨hu, up_last hu (fun z hz => ?_)⟩
    rcases h2 with rfl | ⟨z', h3, h4⟩
    · simp at hz
    · have hk := (List.getElem?_eq_some_iff.1 hy).1
      have hl : (xs.take k).length = k := by simp; omega
      rw [List.getLast?_eq_getElem?, hl] at hz
      rcases Nat.eq_zero_or_pos k with h0 | h0
      · subst h0; simp at hz
      · rw [List.getElem?_take_of_lt (by omega), h3] at hz
        injection hz with hz; omega
theorem ty_not_may {xs : List Int} {k : Nat} {y : Int} (hy : xs[k]? = some y) (h1 : mayB y = false) : typeB xs = false := by
  cases h : typeB xs with
  | false => rfl
  | true => have := (typeB_iff.1 h).2.1 y (List.mem_of_getElem? hy); rw [h1] at this; cases this
theorem ty_not_up {xs : List Int} {k : Nat} {y z : Int} (h0 : k ≠ 0) (hy : xs[k]? = some y) (hz : xs[k - 1]? = some z) (h1 : ¬ z < y) : typeB xs = false := by
  cases h : typeB xs with
  | false => rfl
  | true => exact absurd (up_get (typeB_iff.1 h).2.2 hz hy (by omega)) h1
theorem ty_long {xs : List Int} (h1 : ¬ (xs.length : Int) ≤ 12) : typeB xs = false := by
  cases h : typeB xs with
  | false => rfl
  | true => have := (typeB_iff.1 h).1; omega

def insU (xs : List Int) (x : Int) : List Int := if x ∈ xs then xs else xs.take (cntLt xs x) ++ [x] ++ xs.drop (cntLt xs x)
/-- Where x stands in a rising row. -/
theorem up_split {xs : List Int} (hup : Up xs) (x : Int) : (∀ (j : Nat) y, j < cntLt xs x → xs[j]? = some y → y < x) ∧ (∀ (j : Nat) y, cntLt xs x ≤ j → xs[j]? = some y → x ≤ y) := by
  -- the first place from which none is less
  have key : ∃ k, k ≤ xs.length ∧ (∀ (j : Nat) y, j < k → xs[j]? = some y → y < x) ∧ (∀ (j : Nat) y, k ≤ j → xs[j]? = some y → x ≤ y) := by
    induction xs with
    | nil => exact ⟨0, Nat.le_refl _, fun j y h => absurd h (Nat.not_lt_zero _), fun j y _ h => by simp at h⟩
    | cons a l ih =>
      obtain ⟨ha, hl⟩ := List.pairwise_cons.1 hup
      by_cases hax : a < x
      · obtain ⟨k, h1, h2, h3⟩ := ih hl
        refine ⟨k + 1, by simp; omega, fun j y hj hy => ?_, fun j y hj hy => ?_⟩
        · cases j with
          | zero => simp at hy; omega
          | succ j => exact h2 j y (by omega) (by simpa using hy)
        · cases j with
          | zero => omega
          | succ j => exact h3 j y (by omega) (by simpa using hy)
      · refine ⟨0, Nat.zero_le _, fun j y h => absurd h (Nat.not_lt_zero _), fun j y _ hy => ?_⟩
        cases j with
        | zero => simp at hy; omega
        | succ j =>
          have hm : y ∈ l := List.mem_of_getElem? (by simpa using hy)
          have := ha y hm; omega
  obtain ⟨k, h1, h2, h3⟩ := key
  rw [cntLt_eq h1 h2 h3]
  exact ⟨h2, h3⟩
theorem up_ins {xs : List Int} (hup : Up xs) (x : Int) : Up (insU xs x) := by
  unfold insU
  split
  · exact hup
  · rename_i hx
    obtain ⟨h1, h2⟩ := up_split hup x
    rw [List.append_assoc]
    unfold Up
    rw [List.pairwise_append]
    refine ⟨hup.sublist (List.take_sublist _ _), ?_, fun a ha b hb => ?_⟩
    · rw [List.singleton_append, List.pairwise_cons]
      refine ⟨fun b hb => ?_, hup.sublist (List.drop_sublist _ _)⟩
      obtain ⟨j, hj⟩ := List.mem_iff_getElem?.1 hb
      rw [List.getElem?_drop] at hj
      have h3 := h2 _ b (by omega) hj
      have : b ≠ x := fun e => hx (e ▸ List.mem_of_getElem? hj)
      omega
    · obtain ⟨i, hi⟩ := List.mem_iff_getElem?.1 ha
      have hik : i < cntLt xs x := by have := (List.getElem?_eq_some_iff.1 hi).1; simp at this; omega
      rw [List.getElem?_take_of_lt hik] at hi
      have h3 := h1 i a hik hi
      rcases List.mem_append.1 hb with hb | hb
      · simp at hb; omega
      · obtain ⟨j, hj⟩ := List.mem_iff_getElem?.1 hb
        rw [List.getElem?_drop] at hj
        have := h2 _ b (by omega) hj
        omega
theorem ins_len (xs : List Int) (x : Int) : (insU xs x).length ≤ xs.length + 1 := by
  unfold insU; split
  · omega
  · have := cntLt_le xs x; simp; omega
theorem ins_mem {xs : List Int} {x y : Int} : y ∈ insU xs x ↔ y = x ∨ y ∈ xs := by
  unfold insU
  split
  · rename_i h
    exact ⟨fun h2 => .inr h2, fun h2 => by rcases h2 with rfl | h2 <;> assumption⟩
  · constructor
    · intro h
      simp only [List.mem_append, List.mem_singleton] at h
      rcases h with (h | h) | h
      · exact .inr (mem_take h)
      · exact .inl h
      · exact .inr (List.mem_of_mem_drop h)
    · rintro (rfl | h)
      · simp
      · have : y ∈ xs.take (cntLt xs x) ++ xs.drop (cntLt xs x) := by rw [List.take_append_drop]; exact h
        simp only [List.mem_append, List.mem_singleton] at this ⊢
        rcases this with h | h
        · exact .inl (.inl h)
        · exact .inr h
def ofU (xs : List Int) : List Int := xs.foldl insU []
theorem ofU_snoc (xs : List Int) (k : Nat) (y : Int) (h : xs[k]? = some y) : ofU (xs.take (k + 1)) = insU (ofU (xs.take k)) y := by
  rw [take_snoc _ _ _ h]; simp [ofU]
theorem foldl_up : ∀ (xs a : List Int), Up a → Up (xs.foldl insU a)
  | [], _, h => h
  | x :: xs, _, h => foldl_up xs _ (up_ins h x)
theorem ofU_up (xs : List Int) : Up (ofU xs) := foldl_up xs [] List.Pairwise.nil
theorem foldl_len : ∀ (xs a : List Int), (xs.foldl insU a).length ≤ a.length + xs.length
  | [], _ => by simp
  | x :: xs, a => by
    have h1 := foldl_len xs (insU a x)
    have h2 := ins_len a x
    simp only [List.foldl_cons, List.length_cons]
    omega
theorem ofU_len (xs : List Int) : (ofU xs).length ≤ xs.length := by have := foldl_len xs []; simpa [ofU] using this
def withR (xs : List Int) (x : Int) : List Int × Int := if typeB xs = false then ([], 130) else if mayB x = false then ([], 2) else if 12 < (insU xs x).length then ([], 6) else (insU xs x, 0)
def withoutR (xs : List Int) (x : Int) : List Int × Int := if typeB xs = false then ([], 130) else if x ∈ xs then (xs.take (cntLt xs x) ++ xs.drop (cntLt xs x + 1), 0) else ([], 4)
def ofR (xs : List Int) : List Int × Int := if xs.all mayB = false then ([], 2) else if 12 < (ofU xs).length then ([], 6) else (ofU xs, 0)
def someL (xs : List Int) (p : Int → Bool) : List Int := if typeB xs then xs.filter p else []
def pairP (r : Int → Int → Bool) (x : Int) : Bool := decide (kindI x = 3) && r (partsI x).1 (partsI x).2
theorem cnt_lt {xs : List Int} {x : Int} (hup : Up xs) (h : x ∈ xs) : cntLt xs x + 1 ≤ xs.length := by
  obtain ⟨h1, h2⟩ := up_split hup x
  have := (List.getElem?_eq_some_iff.1 ((cnt_mem h1 h2 hup).1 h)).1
  omega
theorem all_not {xs : List Int} {p : Int → Bool} {k : Nat} {y : Int} (hy : xs[k]? = some y) (h : p y = false) : xs.all p = false := by
  cases ha : xs.all p with
  | false => rfl
  | true => have := (List.all_eq_true.1 ha) y (List.mem_of_getElem? hy); rw [h] at this; cases this
theorem withR_a {xs : List Int} {x : Int} (h : typeB xs = false) : withR xs x = ([], 130) := by unfold withR; rw [if_pos h]
theorem withR_b {xs : List Int} {x : Int} (h : typeB xs = true) (h1 : mayB x = false) : withR xs x = ([], 2) := by unfold withR; rw [if_neg (by rw [h]; simp), if_pos h1]
theorem withR_c {xs : List Int} {x : Int} (h : typeB xs = true) (h1 : mayB x = true) (h2 : 12 < (insU xs x).length) : withR xs x = ([], 6) := by unfold withR; rw [if_neg (by rw [h]; simp), if_neg (by rw [h1]; simp), if_pos h2]
theorem withR_d {xs : List Int} {x : Int} (h : typeB xs = true) (h1 : mayB x = true) (h2 : ¬ 12 < (insU xs x).length) : withR xs x = (insU xs x, 0) := by unfold withR; rw [if_neg (by rw [h]; simp), if_neg (by rw [h1]; simp), if_neg h2]
theorem withoutR_a {xs : List Int} {x : Int} (h : typeB xs = false) : withoutR xs x = ([], 130) := by unfold withoutR; rw [if_pos h]
theorem withoutR_b {xs : List Int} {x : Int} (h : typeB xs = true) (h1 : ¬ x ∈ xs) : withoutR xs x = ([], 4) := by unfold withoutR; rw [if_neg (by rw [h]; simp), if_neg h1]
theorem withoutR_c {xs : List Int} {x : Int} (h : typeB xs = true) (h1 : x ∈ xs) : withoutR xs x = (xs.take (cntLt xs x) ++ xs.drop (cntLt xs x + 1), 0) := by unfold withoutR; rw [if_neg (by rw [h]; simp), if_pos h1]
theorem ofR_a {xs : List Int} (h : xs.all mayB = false) : ofR xs = ([], 2) := by unfold ofR; rw [if_pos h]
theorem ofR_b {xs : List Int} (h : xs.all mayB = true) (h2 : 12 < (ofU xs).length) : ofR xs = ([], 6) := by unfold ofR; rw [if_neg (by rw [h]; simp), if_pos h2]
theorem ofR_c {xs : List Int} (h : xs.all mayB = true) (h2 : ¬ 12 < (ofU xs).length) : ofR xs = (ofU xs, 0) := by unfold ofR; rw [if_neg (by rw [h]; simp), if_neg h2]
theorem filt_pre {α : Type} {xs : List α} {p : α → Bool} {k : Nat} {y : α} (hy : xs[k]? = some y) (hp : p y = true) : (xs.take k).filter p ++ [y] <+: xs.filter p := by
  have h1 : (xs.take (k + 1)).filter p = (xs.take k).filter p ++ [y] := by rw [take_snoc _ _ _ hy, List.filter_append]; simp [hp]
  rw [← h1]
  exact (List.take_prefix _ _).filter p
theorem filt_yes {α : Type} {xs : List α} {p : α → Bool} {k : Nat} {y : α} (hy : xs[k]? = some y) (hp : p y = true) : (xs.take (k + 1)).filter p = (xs.take k).filter p ++ [y] := by rw [take_snoc _ _ _ hy, List.filter_append]; simp [hp]
theorem filt_no {α : Type} {xs : List α} {p : α → Bool} {k : Nat} {y : α} (hy : xs[k]? = some y) (hp : p y = false) : (xs.take (k + 1)).filter p = (xs.take k).filter p := by rw [take_snoc _ _ _ hy, List.filter_append]; simp [hp]
theorem someL_t {xs : List Int} {p : Int → Bool} (h : typeB xs = true) : someL xs p = xs.filter p := by unfold someL; rw [if_pos h]
theorem someL_f {xs : List Int} {p : Int → Bool} (h : typeB xs = false) : someL xs p = [] := by unfold someL; rw [if_neg (by rw [h]; simp)]
theorem someL_mem {xs : List Int} {p : Int → Bool} {x : Int} (h : x ∈ someL xs p) : x ∈ xs := by
  unfold someL at h; split at h
  · exact (List.mem_filter.1 h).1
  · simp at h
theorem someL_len (xs : List Int) (p : Int → Bool) : (someL xs p).length ≤ xs.length := by
  unfold someL; split
  · exact List.length_filter_le _ _
  · simp
/-- What a question of ids answers. -/
def Pred (P : Program) (fv : Value) (p : Int → Bool) (H : Heap) : Prop := ∀ H', HLe H H' → ∀ x, U x → Fv P fv [.int .u64 x] H' (.bool (p x))
theorem Pred.mono {P : Program} {fv : Value} {p : Int → Bool} {H H' : Heap} (h : Pred P fv p H) (hl : HLe H H') : Pred P fv p H' := fun H2 h2 => h H2 (hl.trans h2)
def RPred (P : Program) (fv : Value) (r : Int → Int → Bool) (H : Heap) : Prop := ∀ H', HLe H H' → ∀ a b, Fv P fv [.int .i64 a, .int .i64 b] H' (.bool (r a b))
def FPred (P : Program) (fv : Value) (k : IntKind) (f : Int → Int) (H : Heap) : Prop := ∀ H', HLe H H' → ∀ x, U x → Fv P fv [.int .u64 x] H' (.int k (f x))
def YU : Heap → List Value → Int → Prop := fun _ vs y => vs = [.int .u64 y]
theorem ty_end {xs : List Int} (hm : ∀ x ∈ xs, mayB x = true) (hu : Up xs) : decide ((xs.length : Int) ≤ 12) = typeB xs := by
  unfold typeB
  have : ((xs.length : Int) ≤ 12) ↔ (xs.length ≤ 12 ∧ (∀ x ∈ xs, mayB x = true) ∧ Up xs) := ⟨fun h => ⟨by omega, hm, hu⟩, fun h => by have := h.1; omega⟩
  exact decide_eq_decide.2 this
theorem us_of {xs : List Int} (h : xs.all (fun x => decide (0 ≤ x) && decide (x < 18446744073709551616)) = true) : Us xs := fun x hx => by
  have := (List.all_eq_true.1 h) x hx
  simpa using this
theorem cells_map {H : Heap} {k : IntKind} : ∀ xs : List Int, CellsOf (intE k) H (xs.map (Value.int k)) xs
  | [] => rfl
  | x :: xs => ⟨[.int k x], xs.map (Value.int k), rfl, rfl, cells_map xs⟩
theorem RdS.litI {H : Heap} {b : Nat} {k : IntKind} {e : TypeId} (xs : List Int) (hb : ∀ q ∈ [(b, Obj.cells (xs.map (Value.int k)).toArray e)], H q.1 = some q.2) (hl : Nat.ble xs.length 1000 = true) : RdS (intE k) H (.slice (some ⟨b, 0, none⟩) xs.length xs.length) xs :=
  RdS.lit (shut1 hb) (cells_map xs) (by have := Nat.le_of_ble_eq_true hl; unfold maxLen; omega)
theorem min20 (n : Nat) : (if (20 : Int) < (n : Int) then (20 : Int) else n) = ((min n 20 : Nat) : Int) := by split <;> omega
theorem take_min {α : Type} (xs : List α) (n : Nat) : xs.take (min xs.length n) = xs.take n := by
  rcases Nat.le_total xs.length n with h | h
  · rw [Nat.min_eq_left h, List.take_length, List.take_of_length_le h]
  · rw [Nat.min_eq_right h]
theorem has_law {xs : List Int} {x : Int} (h : typeB xs = true) : ((!(someL xs (fun y => decide (y = x))).isEmpty) != (xs.any (fun y => decide (y = x)))) = false := by
  rw [someL_t h]
  have : (!(xs.filter (fun y => decide (y = x))).isEmpty) = xs.any (fun y => decide (y = x)) := by
    rw [Bool.eq_iff_iff]
    simp [List.isEmpty_iff, List.filter_eq_nil_iff]
  rw [this]; simp
theorem has_none {xs : List Int} {p : Int → Bool} (h : typeB xs = false) : ((!(someL xs p).isEmpty) != false) = false := by rw [someL_f h]; rfl
theorem few_us {xs : List Int} {n : Nat} (h : Us xs) : Us (xs.take n) := fun x hx => h x (mem_take hx)
def smallL : List Int := [made 4611686018427387904 0 2, made 9223372036854775808 2 7, made 9223372036854775808 3 7]
def smallO : List Int := [made 9223372036854775808 3 7, made 4611686018427387904 0 2, made 9223372036854775808 2 7, made 4611686018427387904 0 2]
theorem taken_law {xs : List Int} {p : Int → Bool} (h : typeB xs = true) : someL xs p = xs.filter p := someL_t h
theorem taken_none {xs : List Int} {p : Int → Bool} (h : typeB xs = false) : someL xs p = [] := someL_f h
theorem targets_law {xs : List Int} {p : Int → Bool} {f : Int → Int} (h : typeB xs = true) : (someL xs p).map f = (xs.filter p).map f := by rw [someL_t h]
theorem targets_none {xs : List Int} {p : Int → Bool} {f : Int → Int} (h : typeB xs = false) : (someL xs p).map f = [] := by rw [someL_f h]; rfl
end Go.SX
