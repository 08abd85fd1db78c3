/- WL: what the laws of chapters 16 and 18 ask, in plain Lean. -/
import Derived.Test.YtkhjpgimjkofcaaWj
set_option linter.unusedVariables false
set_option linter.unusedSimpArgs false
namespace Go.SX
open Go
theorem minN (n k : Nat) : (if (k : Int) < (n : Int) then (k : Int) else n) = ((min n k : Nat) : Int) := by split <;> omega
theorem takeMin {α : Type} (xs : List α) (n : Nat) : xs.take (min xs.length n) = xs.take n := by
  rcases Nat.le_total xs.length n with h | h
  · rw [Nat.min_eq_left h, List.take_length, List.take_of_length_le h]
  · rw [Nat.min_eq_right h]
theorem cells_int {H : Heap} {k : IntKind} : ∀ xs : List Int, CellsOf (intE k) H (xs.map (Value.int k)) xs
  | [] => rfl
  | x :: xs => ⟨[.int k x], xs.map (Value.int k), rfl, rfl, cells_int xs⟩
theorem RdS.litN {H : Heap} {b : Nat} {k : IntKind} {e : TypeId} (xs : List Int) (hb : ∀ q ∈ [(b, Obj.cells (xs.map (Value.int k)).toArray e)], H q.1 = some q.2) (hl : Nat.ble xs.length 1000 = true) : RdS (intE k) H (.slice (some ⟨b, 0, none⟩) xs.length xs.length) xs :=
  RdS.lit (shut1 hb) (cells_int xs) (by have := Nat.le_of_ble_eq_true hl; unfold maxLen; omega)
theorem cells_pair {H : Heap} : ∀ xs : List Lk, CellsOf pairE H (xs.flatMap (fun y => [Value.int .i64 y.1, .int .i64 y.2])) xs
  | [] => rfl
  | x :: xs => ⟨[.int .i64 x.1, .int .i64 x.2], xs.flatMap (fun y => [Value.int .i64 y.1, .int .i64 y.2]), rfl, rfl, cells_pair xs⟩
theorem RdS.litP {H : Heap} {b : Nat} {e : TypeId} (xs : List Lk) (hb : ∀ q ∈ [(b, Obj.cells (xs.flatMap (fun y => [Value.int .i64 y.1, .int .i64 y.2])).toArray e)], H q.1 = some q.2) (hl : Nat.ble xs.length 1000 = true) : RdS pairE H (.slice (some ⟨b, 0, none⟩) xs.length xs.length) xs :=
  RdS.lit (shut1 hb) (cells_pair xs) (by have := Nat.le_of_ble_eq_true hl; unfold maxLen; omega)
def smallK : List Lk := [(3, 2), (4, 1), (5, 3), (5, 4), (6, 5)]
/-- What heir.Way tells, in the reference's words. -/
theorem way_tell {xs : List Lk} (a z : Int) : firstR xs a (fun x => decide (x = z)) = if chainB xs then tellW (wayR xs a z) else (0, [], 260) := by
  cases hc : chainB xs with
  | false => rw [firstR_bad hc]; rfl
  | true => rw [way_first hc, if_pos rfl]
theorem owner_tell {xs : List Lk} (a : Int) (os : List Int) : firstR xs a (ownP os) = if chainB xs then tellW (ownerW xs a os) else (0, [], 260) := by
  cases hc : chainB xs with
  | false => rw [firstR_bad hc]; rfl
  | true => rw [owner_first hc, if_pos rfl]
end Go.SX
