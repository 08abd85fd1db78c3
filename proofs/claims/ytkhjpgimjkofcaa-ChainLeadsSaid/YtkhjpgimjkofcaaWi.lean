/- WI: what ids are, by arithmetic: halves, packing, kinds; in plain Lean. -/
import Derived.Test.YtkhjpgimjkofcaaSx8
set_option linter.unusedVariables false
set_option linter.unusedSimpArgs false
namespace Go.SX
open Go

abbrev U (x : Int) : Prop := 0 ≤ x ∧ x < 18446744073709551616
def hA (x : Int) : Int := x / 4294967296 % 1073741824
def hB (x : Int) : Int := x % 1073741824
def made (m a b : Int) : Int := m + a * 4294967296 + b
def withinB (lo mo : Int) (l : List Int) : Bool := l.all (fun n => decide (lo ≤ n) && decide (n ≤ mo))
def kb (x : Int) : Nat → Bool
  | 1 => decide (x = made 0 (hA x) (hB x)) && withinB 1 1048578 [hB x] && withinB 0 7 [hA x]
  | 2 => decide (x = made 4611686018427387904 0 (hB x)) && withinB 1 24 [hB x]
  | 3 => decide (x = made 9223372036854775808 (hA x) (hB x)) && withinB 1 1048578 [hA x, hB x]
  | 4 => decide (x = made 9223372036854775808 (hA x) (hB x)) && withinB 0 1048578 [hA x, hB x]
  | _ => false
def kindI (x : Int) : Int := if kb x 1 then 1 else if kb x 2 then 2 else if kb x 3 then 3 else if kb x 4 then 4 else 0
def partsI (x : Int) : Int × Int := if kindI x = 1 ∨ kindI x = 2 then (hB x, hA x) else if kindI x = 3 ∨ kindI x = 4 then (hA x, hB x) else (0, 0)
def takesB (p x : Int) : Bool := if kindI p ≠ 4 then decide (p = x) && decide (kindI x ≠ 0)
  else decide (kindI x = 3) && (decide (hA p = 0) || decide (hA p = hA x)) && (decide (hB p = 0) || decide (hB p = hB x))

theorem hA_rng (x : Int) : 0 ≤ hA x ∧ hA x < 1073741824 := by unfold hA; omega
theorem hB_rng (x : Int) : 0 ≤ hB x ∧ hB x < 1073741824 := by unfold hB; omega
theorem wrap_u64 {x : Int} (h : U x) : IntKind.u64.wrap x = x := by
  obtain ⟨h1, h2⟩ := h
  have : x % 18446744073709551616 = x := Int.emod_eq_of_lt h1 h2
  simpa [IntKind.wrap, IntKind.bits, IntKind.signed] using this
theorem wrap_i64 {x : Int} (h0 : -9223372036854775808 ≤ x) (h1 : x < 9223372036854775808) : IntKind.i64.wrap x = x := IntWalk.i64_in _ ⟨h0, by omega⟩
theorem ofInt_toNat {x : Int} (h : U x) : (BitVec.ofInt 64 x).toNat = x.toNat := by
  obtain ⟨h1, h2⟩ := h
  rw [BitVec.toNat_ofInt]
  have : x % ((2 ^ 64 : Nat) : Int) = x := Int.emod_eq_of_lt h1 (by simpa using h2)
  rw [this]
theorem band_mask {x : Int} (h : U x) : band .u64 x 1073741823 = x % 1073741824 := by
  have h1 : (BitVec.ofInt 64 x &&& BitVec.ofInt 64 1073741823).toNat = x.toNat % 1073741824 := by
    rw [BitVec.toNat_and, ofInt_toNat h, ofInt_toNat ⟨by omega, by omega⟩]
    exact Nat.and_two_pow_sub_one_eq_mod x.toNat 30
  have h2 : ((BitVec.ofInt 64 x &&& BitVec.ofInt 64 1073741823).toNat : Int) = x % 1073741824 := by
    rw [h1]; have := h.1; omega
  show IntKind.u64.wrap ((BitVec.ofInt 64 x &&& BitVec.ofInt 64 1073741823).toNat : Int) = _
  rw [h2]
  exact wrap_u64 ⟨by omega, by omega⟩
theorem bshr32 {x : Int} (_ : U x) : bshr .u64 x 32 = x / 4294967296 := by
  show x.fdiv (2 ^ (min (32 : Int).toNat 64)) = _
  rw [Int.fdiv_eq_ediv_of_nonneg _ (by decide)]
  rfl
theorem bshl32 {a : Int} (h : 0 ≤ a ∧ a < 1073741824) : bshl .u64 a 32 = a * 4294967296 := by
  show IntKind.u64.wrap (a * 2 ^ (min (32 : Int).toNat 64)) = _
  exact wrap_u64 ⟨by show 0 ≤ a * 4294967296; omega, by show a * 4294967296 < _; omega⟩
theorem bor_add {u v : Int} (i : Nat) (q : Nat) (hu : u = (q * 2 ^ i : Nat)) (hv : 0 ≤ v ∧ v < (2 ^ i : Nat)) (h : U (u + v)) : bor .u64 u v = u + v := by
  have hu0 : U u := by obtain ⟨h1, h2⟩ := h; exact ⟨by rw [hu]; exact Int.natCast_nonneg _, by omega⟩
  have hv0 : U v := by obtain ⟨h1, h2⟩ := h; exact ⟨hv.1, by have := hu0.1; omega⟩
  have h1 : (BitVec.ofInt 64 u ||| BitVec.ofInt 64 v).toNat = u.toNat + v.toNat := by
    rw [BitVec.toNat_or, ofInt_toNat hu0, ofInt_toNat hv0, hu, Int.toNat_natCast]
    have := Nat.shiftLeft_add_eq_or_of_lt (a := q) (b := v.toNat) (i := i) (by have := hv.1; have := hv.2; omega)
    rw [Nat.shiftLeft_eq] at this
    exact this.symm
  have h2 : ((BitVec.ofInt 64 u ||| BitVec.ofInt 64 v).toNat : Int) = u + v := by
    rw [h1]; have := hu0.1; have := hv0.1; omega
  show IntKind.u64.wrap ((BitVec.ofInt 64 u ||| BitVec.ofInt 64 v).toNat : Int) = _
  rw [h2]
  exact wrap_u64 h
/-- What the program's packing says. -/
theorem pack_eq {m a b : Int} (hm : m = 0 ∨ m = 4611686018427387904 ∨ m = 9223372036854775808) (ha : 0 ≤ a ∧ a < 1073741824) (hb : 0 ≤ b ∧ b < 1073741824) :
    bor .u64 (bor .u64 m (bshl .u64 (IntKind.u64.wrap a) 32)) (IntKind.u64.wrap b) = made m a b := by
  rw [wrap_u64 ⟨ha.1, by omega⟩, wrap_u64 ⟨hb.1, by omega⟩, bshl32 ha]
  have h1 : bor .u64 m (a * 4294967296) = m + a * 4294967296 := by
    refine bor_add 62 (m / 4611686018427387904).toNat ?_ ⟨by omega, ?_⟩ ⟨by omega, by omega⟩
    · rcases hm with rfl | rfl | rfl <;> rfl
    · show _ < ((4611686018427387904 : Nat) : Int); omega
  rw [h1]
  refine bor_add 32 (m / 4294967296 + a).toNat ?_ ⟨hb.1, ?_⟩ ⟨by omega, by omega⟩
  · rw [Int.natCast_mul, Int.toNat_of_nonneg (by omega)]
    show _ = (m / 4294967296 + a) * 4294967296
    omega
  · show _ < ((4294967296 : Nat) : Int); omega
theorem halfA_eq {x : Int} (h : U x) : IntKind.i64.wrap (band .u64 (bshr .u64 x 32) 1073741823) = hA x := by
  rw [bshr32 h, band_mask ⟨by have := h.1; omega, by have := h.2; omega⟩]
  exact wrap_i64 (by have := hA_rng x; unfold hA at this; omega) (by have := hA_rng x; unfold hA at this; omega)
theorem halfB_eq {x : Int} (h : U x) : IntKind.i64.wrap (band .u64 x 1073741823) = hB x := by
  rw [band_mask h]
  exact wrap_i64 (by have := hB_rng x; unfold hB at this; omega) (by have := hB_rng x; unfold hB at this; omega)
theorem halfA_ref {x : Int} (h : U x) : IntKind.i64.wrap (Int.tmod (IntKind.u64.wrap (Int.tdiv x 4294967296)) 1073741824) = hA x := by
  have h1 : Int.tdiv x 4294967296 = x / 4294967296 := Int.tdiv_eq_ediv_of_nonneg h.1
  rw [h1, wrap_u64 ⟨by have := h.1; omega, by have := h.2; omega⟩, Int.tmod_eq_emod_of_nonneg (by have := h.1; omega)]
  exact wrap_i64 (by have := hA_rng x; unfold hA at this; omega) (by have := hA_rng x; unfold hA at this; omega)
theorem halfB_ref {x : Int} (h : U x) : IntKind.i64.wrap (Int.tmod x 1073741824) = hB x := by
  rw [Int.tmod_eq_emod_of_nonneg h.1]
  exact wrap_i64 (by have := hB_rng x; unfold hB at this; omega) (by have := hB_rng x; unfold hB at this; omega)
theorem made_ref {m a b : Int} (hm : m = 0 ∨ m = 4611686018427387904 ∨ m = 9223372036854775808) (ha : 0 ≤ a ∧ a < 1073741824) (hb : 0 ≤ b ∧ b < 1073741824) :
    IntKind.u64.wrap (IntKind.u64.wrap (m + IntKind.u64.wrap (IntKind.u64.wrap a * 4294967296)) + IntKind.u64.wrap b) = made m a b := by
  rw [wrap_u64 (x := a) ⟨ha.1, by omega⟩, wrap_u64 (x := b) ⟨hb.1, by omega⟩, wrap_u64 (x := a * 4294967296) ⟨by omega, by omega⟩, wrap_u64 (x := m + _) ⟨by omega, by omega⟩, wrap_u64 ⟨by omega, by omega⟩]
  rfl
theorem take_snoc {α : Type} (l : List α) (k : Nat) (y : α) (h : l[k]? = some y) : l.take (k + 1) = l.take k ++ [y] := by
  rw [List.take_add_one, h]; rfl
theorem within_snoc (lo mo : Int) (l : List Int) (k : Nat) (y : Int) (h : l[k]? = some y) : withinB lo mo (l.take (k + 1)) = (withinB lo mo (l.take k) && (decide (lo ≤ y) && decide (y ≤ mo))) := by
  rw [take_snoc l k y h]; simp [withinB]
theorem within_not (lo mo : Int) (l : List Int) (k : Nat) (y : Int) (h : l[k]? = some y) (hn : ¬ (lo ≤ y ∧ y ≤ mo)) : withinB lo mo l = false := by
  have hm : y ∈ l := List.mem_of_getElem? h
  cases hw : withinB lo mo l with
  | false => rfl
  | true =>
    have := (List.all_eq_true.1 hw) y hm
    simp at this
    exact absurd this hn
theorem kind_at {x : Int} {k : Nat} (h1 : 1 ≤ k) (h4 : k ≤ 4) (hk : kb x k = true) (hlt : ∀ j, 1 ≤ j → j < k → kb x j = false) : kindI x = k := by
  unfold kindI
  have h : k = 1 ∨ k = 2 ∨ k = 3 ∨ k = 4 := by omega
  rcases h with rfl | rfl | rfl | rfl
  · rw [hk]; rfl
  · rw [hlt 1 (by omega) (by omega), hk]; rfl
  · rw [hlt 1 (by omega) (by omega), hlt 2 (by omega) (by omega), hk]; rfl
  · rw [hlt 1 (by omega) (by omega), hlt 2 (by omega) (by omega), hlt 3 (by omega) (by omega), hk]; rfl
theorem kind_none {x : Int} (hlt : ∀ j, 1 ≤ j → j < 5 → kb x j = false) : kindI x = 0 := by
  unfold kindI
  rw [hlt 1 (by omega) (by omega), hlt 2 (by omega) (by omega), hlt 3 (by omega) (by omega), hlt 4 (by omega) (by omega)]; rfl
theorem kind_rng (x : Int) : 0 ≤ kindI x ∧ kindI x ≤ 4 := by
  unfold kindI; repeat' split
  all_goals omega
theorem kind_parts_u {x : Int} (h : kindI x ≠ 0) : U x := by
  have ha := hA_rng x
  have hb := hB_rng x
  unfold kindI kb withinB made at h
  simp only [Bool.and_eq_true, decide_eq_true_eq, List.all_cons, List.all_nil, Bool.and_true] at h
  repeat' split at h
  all_goals first | exact absurd rfl h | (constructor <;> omega)
theorem tup2 {k k' : IntKind} {a a' b b' : Int} (h : a = a') (h' : b = b') : Value.tuple #[.int k a, .int k' b] = Value.tuple #[.int k a', .int k' b'] := by rw [h, h']
end Go.SX
