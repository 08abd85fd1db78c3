/- 'TypesPairs' answers true, whatever it is handed, and what it is handed reads behind it as it did. -/
import Derived.RangeFuncNested
import Derived.RangeFuncBound
import Derived.RangeFuncCalls
import Derived.RangeFuncLeaves
import Derived.Shelf.Abstract
import Derived.Laws.AppendOwn
import Derived.Laws.OwnMore
import Derived.KernelRfl
import Derived.IntWalk
import Derived.Laws.Append
import Derived.WideLaws
import Derived.Laws.Slices
import Derived.Laws.MakeOwn
import Derived.OrdersIn
import Derived.Laws.Cover3
import Derived.Test.YtmigaagkfglabaaProg
import Derived.Laws.StructEq
import Derived.Shelf.Sort.Plain
import Derived.Sort.OwnSortedInts
import Derived.Shelf.Slices.In.SortNone
import Derived.Lib.AppendZeros
import Derived.Sort.AssemblyPlain
import Derived.Shelf.Small.Bits
import Derived.Sort.Walk7a
import Derived.Laws.Bits64
import Derived.Laws.Bits64b
import Derived.ProofKit
import Derived.ChangeSlices
import Derived.Carry
import Derived.Test.YtmigaagkfglabaaRows
import Derived.Test.YtmigaagkfglabaaKP4
set_option linter.unusedVariables false
set_option linter.unusedSimpArgs false
namespace Go.SX
open Go
theorem so_scan2 (b : Nat) (xs : List Int) : ∀ (k i m : Nat), b - i ≤ k → k < m → 1 ≤ i → slices_partialInsertionSortOrdered_Id_l2 (b : Int) xs m (i : Int) = ((Sort.scanSorted Sort.ltInt xs.toArray b i : Nat) : Int)
  | k, i, 0, _, h, _ => by omega
  | k, i, m + 1, h1, h2, h3 => by
    simp only [slices_partialInsertionSortOrdered_Id_l2, LR.seq_go, so_less, Int.toNat_natCast]
    rw [Sort.scanSorted, so_get, so_get, show ((i : Int) - 1).toNat = i - 1 by omega]
    rw [so_ifd, so_lt]
    cases hb : (decide (i < b) && !Sort.ltInt (xs.getD i 0) (xs.getD (i - 1) 0)) with
    | false => rfl
    | true =>
      have : i < b := of_decide_eq_true (Bool.and_eq_true_iff.1 hb).1
      rw [if_pos rfl, if_pos rfl]
      cases k with
      | zero => omega
      | succ k => exact so_scan2 b xs k (i + 1) m (by omega) (by omega) (by omega)
theorem so_scan2_ge (lt : Int → Int → Bool) (d : Array Int) (b : Nat) : ∀ (k i : Nat), b - i ≤ k → i ≤ Sort.scanSorted lt d b i ∧ (i ≤ b → Sort.scanSorted lt d b i ≤ b)
  | k, i, h => by
    rw [Sort.scanSorted]
    by_cases hi : (decide (i < b) && !lt d[i]! d[i - 1]!) = true
    · rw [if_pos hi]
      have : i < b := of_decide_eq_true (Bool.and_eq_true_iff.1 hi).1
      cases k with
      | zero => omega
      | succ k => have := so_scan2_ge lt d b k (i + 1) (by omega); omega
    · rw [if_neg hi]; omega
theorem so_down : ∀ (j m : Nat) (xs : List Int), j < m → (slices_partialInsertionSortOrdered_Id_l6 m ((j : Int), xs)).2 = (Sort.shiftDown Sort.ltInt j xs.toArray).toList
  | j, 0, xs, h => by omega
  | 0, m + 1, xs, h => by
    simp only [slices_partialInsertionSortOrdered_Id_l6]
    rw [if_neg (by omega), Sort.shiftDown]
  | j + 1, m + 1, xs, h => by
    simp only [slices_partialInsertionSortOrdered_Id_l6, LR.seq_go, so_less, Int.toNat_natCast, tn1, tn1i]
    rw [if_pos (by omega), Sort.shiftDown, so_get, so_get, so_swp]
    cases Sort.ltInt (xs.getD (j + 1) 0) (xs.getD j 0) with
    | false => rfl
    | true => rw [if_neg (by decide), if_neg (by decide)]; exact so_down j m (sw xs (j + 1) j) (by omega)
theorem so_up (b : Nat) : ∀ (k j m : Nat) (xs : List Int), b - j ≤ k → k < m → 1 ≤ j → (slices_partialInsertionSortOrdered_Id_l8 (b : Int) m ((j : Int), xs)).2 = (Sort.shiftUp Sort.ltInt b j xs.toArray).toList
  | k, j, 0, xs, _, h, _ => by omega
  | k, j, m + 1, xs, h1, h2, h3 => by
    simp only [slices_partialInsertionSortOrdered_Id_l8, LR.seq_go, so_less, Int.toNat_natCast]
    rw [Sort.shiftUp, show ((j : Int) - 1).toNat = j - 1 by omega, so_get, so_get, so_swp]
    by_cases h : j < b
    · rw [if_pos (by omega), if_pos h]
      cases Sort.ltInt (xs.getD j 0) (xs.getD (j - 1) 0) with
      | false => rfl
      | true =>
        rw [if_neg (by decide), if_neg (by decide)]
        cases k with
        | zero => omega
        | succ k => exact so_up b k (j + 1) m (sw xs j (j - 1)) (by omega) (by omega) (by omega)
    · rw [if_neg (by omega), if_neg h]
def pairL (p : Array Int × Bool) : Bool × List Int := (p.2, p.1.toList)
theorem so_part_l (a b : Nat) (hab : a < b) : ∀ (s m i : Nat) (xs : List Int), s < m → a + 1 ≤ i → i ≤ b → s ≤ 5 → LR.on (slices_partialInsertionSortOrdered_Id_l1 (a : Int) (b : Int) m ((i : Int), 5 - (s : Int), xs)) (fun r => r) (fun o => (false, o.2.2)) = pairL (Sort.partialIns Sort.ltInt a b s i xs.toArray)
  | s, 0, i, xs, h, _, _, _ => by omega
  | 0, m + 1, i, xs, _, _, _, _ => by
    simp only [slices_partialInsertionSortOrdered_Id_l1]
    rw [if_neg (by omega), LR.on_go, Sort.partialIns]; rfl
  | s + 1, m + 1, i, xs, h1, h2, h3, h4 => by
    simp only [slices_partialInsertionSortOrdered_Id_l1, LR.seq_go]
    rw [if_pos (by omega), Sort.partialIns, so_scan2 b xs (b - i) i _ (Nat.le_refl _) (by omega) (by omega)]
    have hg := so_scan2_ge Sort.ltInt xs.toArray b (b - i) i (Nat.le_refl _)
    generalize Sort.scanSorted Sort.ltInt xs.toArray b i = i' at *
    simp only
    by_cases e : i' = b
    · rw [if_pos (by omega), if_pos e, LR.on_ret]; rfl
    rw [if_neg (by omega), if_neg e]
    by_cases h50 : b - a < 50
    · rw [if_pos (by omega), if_pos h50, LR.on_ret]; rfl
    rw [if_neg (by omega), if_neg h50, Int.toNat_natCast, show ((i' : Int) - 1).toNat = i' - 1 by omega, so_swp]
    rw [show (xs.set i' (xs.getD (i' - 1) 0)).set (i' - 1) (xs.getD i' 0) = sw xs i' (i' - 1) from rfl]
    have e1 : (if (2 : Int) ≤ (i' : Int) - (a : Int) then (slices_partialInsertionSortOrdered_Id_l6 (i' - 1 + 1) ((i' : Int) - 1, sw xs i' (i' - 1))).2 else sw xs i' (i' - 1)) = (if i' - a ≥ 2 then Sort.shiftDown Sort.ltInt (i' - 1) (sw xs i' (i' - 1)).toArray else (sw xs i' (i' - 1)).toArray).toList := by
      by_cases h : i' - a ≥ 2
      · rw [if_pos (by omega), if_pos h, show (i' : Int) - 1 = ((i' - 1 : Nat) : Int) by omega, so_down _ _ _ (by omega)]
      · rw [if_neg (by omega), if_neg h]
    rw [e1]
    generalize (if i' - a ≥ 2 then Sort.shiftDown Sort.ltInt (i' - 1) (sw xs i' (i' - 1)).toArray else (sw xs i' (i' - 1)).toArray) = d
    by_cases hb : b - i' ≥ 2
    · rw [if_pos (by omega), if_pos hb, show (i' : Int) + 1 = ((i' + 1 : Nat) : Int) by omega, so_up b (b - (i' + 1)) (i' + 1) _ _ (Nat.le_refl _) (by omega) (by omega), Array.toArray_toList, show (5 : Int) - ((s + 1 : Nat) : Int) + 1 = 5 - (s : Int) by omega]
      have := so_part_l a b hab s m i' (Sort.shiftUp Sort.ltInt b (i' + 1) d).toList (by omega) (by omega) (by omega) (by omega)
      rw [Array.toArray_toList] at this
      exact this
    · rw [if_neg (by omega), if_neg hb, show (5 : Int) - ((s + 1 : Nat) : Int) + 1 = 5 - (s : Int) by omega]
      have := so_part_l a b hab s m i' d.toList (by omega) (by omega) (by omega) (by omega)
      rw [Array.toArray_toList] at this
      exact this
theorem so_part (xs : List Int) (a b : Nat) (hab : a < b) : slices_partialInsertionSortOrdered_Id_m xs (a : Int) (b : Int) = pairL (Sort.partialInsertionSort Sort.ltInt xs.toArray a b) := by
  unfold slices_partialInsertionSortOrdered_Id_m Sort.partialInsertionSort
  exact so_part_l a b hab 5 _ (a + 1) xs (by decide) (Nat.le_refl _) (by omega) (by decide)
/-- the two scans -/
theorem scanUp_le (p : Int → Bool) (d : Array Int) (j : Nat) : ∀ (k i : Nat), j + 1 - i ≤ k → i ≤ Sort.scanUp p d j i ∧ Sort.scanUp p d j i ≤ max i (j + 1)
  | k, i, h => by
    rw [Sort.scanUp]
    by_cases hi : (decide (i ≤ j) && p d[i]!) = true
    · rw [if_pos hi]
      have : i ≤ j := of_decide_eq_true (Bool.and_eq_true_iff.1 hi).1
      cases k with
      | zero => omega
      | succ k => have := scanUp_le p d j k (i + 1) (by omega); omega
    · rw [if_neg hi]; omega
theorem scanDown_le (p : Int → Bool) (d : Array Int) (i : Nat) (hi : 1 ≤ i) : ∀ (j : Nat), Sort.scanDown p d i j ≤ j ∧ (i - 1 ≤ j → i - 1 ≤ Sort.scanDown p d i j)
  | 0 => by rw [Sort.scanDown]; omega
  | j + 1 => by
    rw [Sort.scanDown]
    split
    · rename_i h
      have h1 : i ≤ j + 1 := of_decide_eq_true (Bool.and_eq_true_iff.1 h).1
      have := scanDown_le p d i hi j; omega
    · omega
theorem so_e3 (a j : Nat) (xs : List Int) : ∀ (k i m : Nat), j + 1 - i ≤ k → k < m → slices_partitionEqualOrdered_Id_l3 (a : Int) (j : Int) xs m (i : Int) = ((Sort.scanUp (fun x => !Sort.ltInt xs.toArray[a]! x) xs.toArray j i : Nat) : Int)
  | k, i, 0, _, h => by omega
  | k, i, m + 1, h1, h2 => by
    simp only [slices_partitionEqualOrdered_Id_l3, LR.seq_go, so_less, Int.toNat_natCast]
    rw [Sort.scanUp]
    simp only [so_get]
    rw [so_ifd, so_le]
    cases hb : (decide (i ≤ j) && !Sort.ltInt (xs.getD a 0) (xs.getD i 0)) with
    | false => rfl
    | true =>
      have : i ≤ j := of_decide_eq_true (Bool.and_eq_true_iff.1 hb).1
      rw [if_pos rfl, if_pos rfl]
      cases k with
      | zero => omega
      | succ k => have := so_e3 a j xs k (i + 1) m (by omega) (by omega); simp only [so_get] at this; exact this
theorem so_e5 (a i : Nat) (hi : 1 ≤ i) (xs : List Int) : ∀ (j m : Nat), j + 1 - i < m → slices_partitionEqualOrdered_Id_l5 (a : Int) (i : Int) xs m (j : Int) = ((Sort.scanDown (fun x => Sort.ltInt xs.toArray[a]! x) xs.toArray i j : Nat) : Int)
  | j, 0, h => by omega
  | 0, m + 1, h => by
    simp only [slices_partitionEqualOrdered_Id_l5, LR.seq_go]
    rw [so_ifd, show decide ((i : Int) ≤ ((0 : Nat) : Int)) = false from decide_eq_false (by omega), Bool.false_and, if_neg Bool.false_ne_true, Sort.scanDown]
  | j + 1, m + 1, h => by
    simp only [slices_partitionEqualOrdered_Id_l5, LR.seq_go, so_less, Int.toNat_natCast, tn1i]
    rw [Sort.scanDown]
    simp only [so_get]
    rw [so_ifd, so_le]
    cases hb : (decide (i ≤ j + 1) && Sort.ltInt (xs.getD a 0) (xs.getD (j + 1) 0)) with
    | false => rfl
    | true =>
      have hij : i ≤ j + 1 := of_decide_eq_true (Bool.and_eq_true_iff.1 hb).1
      rw [if_pos rfl, if_pos rfl]
      have := so_e5 a i hi xs j m (by omega); simp only [so_get] at this; exact this
def pairI2 (p : Nat × Array Int) : Int × List Int := ((p.1 : Int), p.2.toList)
theorem so_e2 (a : Nat) : ∀ (k i j m : Nat) (xs : List Int), j + 1 - i ≤ k → k < m → a + 1 ≤ i → i - 1 ≤ j + 1 → a ≤ j → slices_partitionEqualOrdered_Id_l2 (a : Int) m ((i : Int), (j : Int), xs) = pairI2 (Sort.partEqLoop Sort.ltInt a i j xs.toArray)
  | k, i, j, 0, xs, _, h, _, _, _ => by omega
  | k, i, j, m + 1, xs, h1, h2, h3, h4, h5 => by
    simp only [slices_partitionEqualOrdered_Id_l2, LR.seq_go]
    rw [Sort.partEqLoop, so_e3 a j xs (j + 1 - i) i _ (Nat.le_refl _) (by omega)]
    have hu := scanUp_le (fun x => !Sort.ltInt xs.toArray[a]! x) xs.toArray j (j + 1 - i) i (Nat.le_refl _)
    generalize hi2 : Sort.scanUp (fun x => !Sort.ltInt xs.toArray[a]! x) xs.toArray j i = i2 at *
    rw [so_e5 a i2 (by omega) xs j _ (by omega)]
    have hd := scanDown_le (fun x => Sort.ltInt xs.toArray[a]! x) xs.toArray i2 (by omega) j
    generalize hj2 : Sort.scanDown (fun x => Sort.ltInt xs.toArray[a]! x) xs.toArray i2 j = j2 at *
    by_cases hc : i2 > j2
    · rw [if_pos (by omega), if_pos hc]; rfl
    · rw [if_neg (by omega), if_neg hc, dif_pos (by omega), so_swp]
      simp only [Int.toNat_natCast]
      rw [show (j2 : Int) - 1 = ((j2 - 1 : Nat) : Int) by omega]
      cases k with
      | zero => omega
      | succ k => exact so_e2 a k (i2 + 1) (j2 - 1) m (sw xs i2 j2) (by omega) (by omega) (by omega) (by omega) (by omega)
theorem so_pe (xs : List Int) (a b p : Nat) (hab : a < b) : slices_partitionEqualOrdered_Id_m xs (a : Int) (b : Int) (p : Int) = pairI2 (Sort.partitionEqual Sort.ltInt xs.toArray a b p) := by
  unfold slices_partitionEqualOrdered_Id_m Sort.partitionEqual
  simp only [LR.seq_go, Int.toNat_natCast]
  rw [so_swp, show (b : Int) - 1 = ((b - 1 : Nat) : Int) by omega]
  exact so_e2 a (b - 1 + 1 - (a + 1)) (a + 1) (b - 1) _ (sw xs a p) (Nat.le_refl _) (by omega) (by omega) (by omega) (by omega)
theorem so_p8 (a j : Nat) (xs : List Int) : ∀ (k i m : Nat), j + 1 - i ≤ k → k < m → slices_partitionOrdered_Id_l8 (a : Int) (j : Int) xs m (i : Int) = ((Sort.scanUp (fun x => Sort.ltInt x xs.toArray[a]!) xs.toArray j i : Nat) : Int)
  | k, i, 0, _, h => by omega
  | k, i, m + 1, h1, h2 => by
    simp only [slices_partitionOrdered_Id_l8, LR.seq_go, so_less, Int.toNat_natCast]
    rw [Sort.scanUp]
    simp only [so_get]
    rw [so_ifd, so_le]
    cases hb : (decide (i ≤ j) && Sort.ltInt (xs.getD i 0) (xs.getD a 0)) with
    | false => rfl
    | true =>
      have : i ≤ j := of_decide_eq_true (Bool.and_eq_true_iff.1 hb).1
      rw [if_pos rfl, if_pos rfl]
      cases k with
      | zero => omega
      | succ k => have := so_p8 a j xs k (i + 1) m (by omega) (by omega); simp only [so_get] at this; exact this
theorem so_p10 (a i : Nat) (hi : 1 ≤ i) (xs : List Int) : ∀ (j m : Nat), j + 1 - i < m → slices_partitionOrdered_Id_l10 (a : Int) (i : Int) xs m (j : Int) = ((Sort.scanDown (fun x => !Sort.ltInt x xs.toArray[a]!) xs.toArray i j : Nat) : Int)
  | j, 0, h => by omega
  | 0, m + 1, h => by
    simp only [slices_partitionOrdered_Id_l10, LR.seq_go]
    rw [so_ifd, show decide ((i : Int) ≤ ((0 : Nat) : Int)) = false from decide_eq_false (by omega), Bool.false_and, if_neg Bool.false_ne_true, Sort.scanDown]
  | j + 1, m + 1, h => by
    simp only [slices_partitionOrdered_Id_l10, LR.seq_go, so_less, Int.toNat_natCast, tn1i]
    rw [Sort.scanDown]
    simp only [so_get]
    rw [so_ifd, so_le]
    cases hb : (decide (i ≤ j + 1) && !Sort.ltInt (xs.getD (j + 1) 0) (xs.getD a 0)) with
    | false => rfl
    | true =>
      have hij : i ≤ j + 1 := of_decide_eq_true (Bool.and_eq_true_iff.1 hb).1
      rw [if_pos rfl, if_pos rfl]
      have := so_p10 a i hi xs j m (by omega); simp only [so_get] at this; exact this
theorem so_p2 (a b : Nat) (hb0 : 1 ≤ b) (xs : List Int) : ∀ (k i m : Nat), b - 1 + 1 - i ≤ k → k < m → slices_partitionOrdered_Id_l2 (a : Int) (b : Int) xs m (i : Int) = ((Sort.scanUp (fun x => Sort.ltInt x xs.toArray[a]!) xs.toArray (b - 1) i : Nat) : Int)
  | k, i, 0, _, h => by omega
  | k, i, m + 1, h1, h2 => by
    simp only [slices_partitionOrdered_Id_l2, LR.seq_go, so_less, Int.toNat_natCast]
    rw [Sort.scanUp]
    simp only [so_get]
    rw [so_ifd, show decide ((i : Int) ≤ (b : Int) - 1) = decide (i ≤ b - 1) by rw [decide_eq_decide]; omega]
    cases hb : (decide (i ≤ b - 1) && Sort.ltInt (xs.getD i 0) (xs.getD a 0)) with
    | false => rfl
    | true =>
      have : i ≤ b - 1 := of_decide_eq_true (Bool.and_eq_true_iff.1 hb).1
      rw [if_pos rfl, if_pos rfl]
      cases k with
      | zero => omega
      | succ k => have := so_p2 a b hb0 xs k (i + 1) m (by omega) (by omega); simp only [so_get] at this; exact this
theorem so_p4 (a i : Nat) (hi : 1 ≤ i) (xs : List Int) : ∀ (j m : Nat), j + 1 - i < m → slices_partitionOrdered_Id_l4 (a : Int) (i : Int) xs m (j : Int) = ((Sort.scanDown (fun x => !Sort.ltInt x xs.toArray[a]!) xs.toArray i j : Nat) : Int)
  | j, 0, h => by omega
  | 0, m + 1, h => by
    simp only [slices_partitionOrdered_Id_l4, LR.seq_go]
    rw [so_ifd, show decide ((i : Int) ≤ ((0 : Nat) : Int)) = false from decide_eq_false (by omega), Bool.false_and, if_neg Bool.false_ne_true, Sort.scanDown]
  | j + 1, m + 1, h => by
    simp only [slices_partitionOrdered_Id_l4, LR.seq_go, so_less, Int.toNat_natCast, tn1i]
    rw [Sort.scanDown]
    simp only [so_get]
    rw [so_ifd, so_le]
    cases hb : (decide (i ≤ j + 1) && !Sort.ltInt (xs.getD (j + 1) 0) (xs.getD a 0)) with
    | false => rfl
    | true =>
      have hij : i ≤ j + 1 := of_decide_eq_true (Bool.and_eq_true_iff.1 hb).1
      rw [if_pos rfl, if_pos rfl]
      have := so_p4 a i hi xs j m (by omega); simp only [so_get] at this; exact this
theorem so_p7 (a : Nat) : ∀ (k i j m : Nat) (xs : List Int), j + 1 - i ≤ k → k < m → a + 1 ≤ i → i - 1 ≤ j + 1 → a ≤ j → slices_partitionOrdered_Id_l7 (a : Int) m ((i : Int), (j : Int), xs) = pairI2 (Sort.partLoop Sort.ltInt a i j xs.toArray)
  | k, i, j, 0, xs, _, h, _, _, _ => by omega
  | k, i, j, m + 1, xs, h1, h2, h3, h4, h5 => by
    simp only [slices_partitionOrdered_Id_l7, LR.seq_go]
    rw [Sort.partLoop, so_p8 a j xs (j + 1 - i) i _ (Nat.le_refl _) (by omega)]
    have hu := scanUp_le (fun x => Sort.ltInt x xs.toArray[a]!) xs.toArray j (j + 1 - i) i (Nat.le_refl _)
    generalize hi2 : Sort.scanUp (fun x => Sort.ltInt x xs.toArray[a]!) xs.toArray j i = i2 at *
    rw [so_p10 a i2 (by omega) xs j _ (by omega)]
    have hd := scanDown_le (fun x => !Sort.ltInt x xs.toArray[a]!) xs.toArray i2 (by omega) j
    generalize hj2 : Sort.scanDown (fun x => !Sort.ltInt x xs.toArray[a]!) xs.toArray i2 j = j2 at *
    by_cases hc : i2 > j2
    · rw [if_pos (by omega), if_pos hc]; rfl
    · rw [if_neg (by omega), if_neg hc, dif_pos (by omega), so_swp]
      simp only [Int.toNat_natCast]
      rw [show (j2 : Int) - 1 = ((j2 - 1 : Nat) : Int) by omega]
      cases k with
      | zero => omega
      | succ k => exact so_p7 a k (i2 + 1) (j2 - 1) m (sw xs i2 j2) (by omega) (by omega) (by omega) (by omega) (by omega)
def trip (p : Nat × Bool × Array Int) : Int × Bool × List Int := ((p.1 : Int), p.2.1, p.2.2.toList)
theorem so_pp (xs : List Int) (a b p : Nat) (hab : a < b) : slices_partitionOrdered_Id_m xs (a : Int) (b : Int) (p : Int) = trip (Sort.partition Sort.ltInt xs.toArray a b p) := by
  unfold slices_partitionOrdered_Id_m Sort.partition
  simp only [LR.seq_go, Int.toNat_natCast]
  rw [so_swp, show (xs.set a (xs.getD p 0)).set p (xs.getD a 0) = sw xs a p from rfl, show (a : Int) + 1 = ((a + 1 : Nat) : Int) by omega, so_p2 a b (by omega) (sw xs a p) (b - 1 + 1 - (a + 1)) (a + 1) _ (Nat.le_refl _) (by omega)]
  have hu := scanUp_le (fun x => Sort.ltInt x (sw xs a p).toArray[a]!) (sw xs a p).toArray (b - 1) (b - 1 + 1 - (a + 1)) (a + 1) (Nat.le_refl _)
  generalize Sort.scanUp (fun x => Sort.ltInt x (sw xs a p).toArray[a]!) (sw xs a p).toArray (b - 1) (a + 1) = i at *
  rw [show (b : Int) - 1 = ((b - 1 : Nat) : Int) by omega, so_p4 a i (by omega) (sw xs a p) (b - 1) _ (by omega)]
  have hd := scanDown_le (fun x => !Sort.ltInt x (sw xs a p).toArray[a]!) (sw xs a p).toArray i (by omega) (b - 1)
  generalize Sort.scanDown (fun x => !Sort.ltInt x (sw xs a p).toArray[a]!) (sw xs a p).toArray i (b - 1) = j at *
  generalize sw xs a p = ys at *
  by_cases hc : i > j
  · rw [if_pos (by omega), if_pos hc, Int.toNat_natCast, so_swp]; rfl
  · rw [if_neg (by omega), if_neg hc, so_swp]
    simp only [Int.toNat_natCast]
    rw [show (ys.set i (ys.getD j 0)).set j (ys.getD i 0) = sw ys i j from rfl, show (j : Int) - 1 = ((j - 1 : Nat) : Int) by omega, show (i : Int) + 1 = ((i + 1 : Nat) : Int) by omega, so_p7 a (j - 1 + 1 - (i + 1)) (i + 1) (j - 1) _ (sw ys i j) (Nat.le_refl _) (by omega) (by omega) (by omega) (by omega)]
    generalize Sort.partLoop Sort.ltInt a (i + 1) (j - 1) (sw ys i j).toArray = r
    obtain ⟨r1, r2⟩ := r
    obtain ⟨zs, rfl⟩ : ∃ zs : List Int, r2 = zs.toArray := ⟨r2.toList, (Array.toArray_toList).symm⟩
    simp only [pairI2, trip, Int.toNat_natCast]
    rw [so_swp]; rfl
end Go.SX

set_option linter.unusedVariables false
set_option linter.unusedSimpArgs false
namespace Go.SX
open Go
theorem so_o2 (xs : List Int) (a b s : Nat) : slices_order2Ordered_Id_m xs (a : Int) (b : Int) (s : Int) = (((Sort.order2 Sort.ltInt xs.toArray a b s).1 : Int), ((Sort.order2 Sort.ltInt xs.toArray a b s).2.1 : Int), xs, ((Sort.order2 Sort.ltInt xs.toArray a b s).2.2 : Int)) := by
  unfold slices_order2Ordered_Id_m Sort.order2
  rw [LR.seq_go, so_less, Int.toNat_natCast, Int.toNat_natCast, so_get, so_get]
  split <;> rfl
theorem so_med (xs : List Int) (a b c s : Nat) : slices_medianOrdered_Id_m xs (a : Int) (b : Int) (c : Int) (s : Int) = (((Sort.median Sort.ltInt xs.toArray a b c s).1 : Int), xs, ((Sort.median Sort.ltInt xs.toArray a b c s).2 : Int)) := by
  unfold slices_medianOrdered_Id_m Sort.median
  simp only [LR.seq_go, so_o2]
theorem so_madj (xs : List Int) (a s : Nat) (ha : 1 ≤ a) : slices_medianAdjacentOrdered_Id_m xs (a : Int) (s : Int) = (((Sort.medianAdjacent Sort.ltInt xs.toArray a s).1 : Int), xs, ((Sort.medianAdjacent Sort.ltInt xs.toArray a s).2 : Int)) := by
  unfold slices_medianAdjacentOrdered_Id_m Sort.medianAdjacent
  rw [show (a : Int) - 1 = ((a - 1 : Nat) : Int) by omega, show (a : Int) + 1 = ((a + 1 : Nat) : Int) by omega, LR.seq_go, so_med]
def hintN : Sort.Hint → Int
  | .unknown => 0
  | .increasing => 1
  | .decreasing => 2
theorem so_choose (xs : List Int) (a b : Nat) (hab : a + 12 < b) : slices_choosePivotOrdered_Id_m xs (a : Int) (b : Int) = (((Sort.choosePivot Sort.ltInt xs.toArray a b).1 : Int), hintN (Sort.choosePivot Sort.ltInt xs.toArray a b).2, xs) := by
  have key : ∀ (p s : Nat), (if ((s : Nat) : Int) = 0 then (((p : Int), (1 : Int), xs) : Int × Int × List Int) else (if ((s : Nat) : Int) = 12 then ((p : Int), 2, xs) else ((p : Int), 0, xs))) = ((p : Int), hintN (if s = 0 then .increasing else if s = 12 then .decreasing else .unknown), xs) := fun p s => by
    by_cases h0 : s = 0
    · rw [if_pos (by omega), if_pos h0]; rfl
    · rw [if_neg (by omega), if_neg h0]
      by_cases h1 : s = 12
      · rw [if_pos (by omega), if_pos h1]; rfl
      · rw [if_neg (by omega), if_neg h1]; rfl
  unfold slices_choosePivotOrdered_Id_m Sort.choosePivot
  rw [if_pos (show (8 : Int) ≤ (b : Int) - (a : Int) by omega)]
  simp only [LR.seq_go]
  rw [if_pos (show b - a ≥ 8 by omega)]
  have e1 : (a : Int) + ((b : Int) - (a : Int)) / 4 * 1 = ((a + (b - a) / 4 * 1 : Nat) : Int) := by omega
  have e2 : (a : Int) + ((b : Int) - (a : Int)) / 4 * 2 = ((a + (b - a) / 4 * 2 : Nat) : Int) := by omega
  have e3 : (a : Int) + ((b : Int) - (a : Int)) / 4 * 3 = ((a + (b - a) / 4 * 3 : Nat) : Int) := by omega
  rw [e1, e2, e3]
  by_cases h50 : b - a ≥ 50
  · rw [if_pos (show (50 : Int) ≤ (b : Int) - (a : Int) by omega), if_pos h50]
    rw [show (0 : Int) = ((0 : Nat) : Int) from rfl, so_madj _ _ _ (by omega)]
    simp only
    rw [so_madj _ _ _ (by omega)]
    simp only
    rw [so_madj _ _ _ (by omega)]
    simp only
    rw [so_med]
    exact key _ _
  · rw [if_neg (show ¬ (50 : Int) ≤ (b : Int) - (a : Int) by omega), if_neg h50]
    simp only
    rw [show (0 : Int) = ((0 : Nat) : Int) from rfl, so_med]
    exact key _ _
theorem so_next (r : UInt64) : _slices_xorshift__Next_m (r.toNat : Int) = (((Sort.xorNext r).toNat : Int), ((Sort.xorNext r).toNat : Int)) := by
  have x0 : r.toNat < 18446744073709551616 := r.toNat_lt
  have bx : ∀ u v : Nat, u < 18446744073709551616 → v < 18446744073709551616 → bxor .u64 (u : Int) (v : Int) = ((u ^^^ v : Nat) : Int) := fun u v hu hv => bits_xor_u64_nat u v hu hv
  have lt : ∀ u v : Nat, u < 18446744073709551616 → v < 18446744073709551616 → u ^^^ v < 18446744073709551616 := fun u v hu hv => Nat.xor_lt_two_pow (n := 64) hu hv
  have s13 : ∀ u : Nat, bshl .u64 (u : Int) 13 = ((u * 8192 % 18446744073709551616 : Nat) : Int) := fun u => by
    show IntKind.u64.wrap ((u : Int) * 8192) = _
    rw [IntKind.wrap_u64]; omega
  have s17 : ∀ u : Nat, bshl .u64 (u : Int) 17 = ((u * 131072 % 18446744073709551616 : Nat) : Int) := fun u => by
    show IntKind.u64.wrap ((u : Int) * 131072) = _
    rw [IntKind.wrap_u64]; omega
  have s7 : ∀ u : Nat, bshr .u64 (u : Int) 7 = ((u / 128 : Nat) : Int) := fun u => by
    show (u : Int).fdiv 128 = _
    rw [Int.fdiv_eq_ediv_of_nonneg _ (by decide)]; omega
  unfold _slices_xorshift__Next_m
  simp only [LR.seq_go, Sort.xorNext_toNat, Sort.xorNextN]
  generalize r.toNat = x at *
  rw [s13, bx x _ x0 (by omega)]
  have x1 := lt x (x * 8192 % 18446744073709551616) x0 (by omega)
  generalize x ^^^ (x * 8192 % 18446744073709551616) = y at *
  rw [s7, bx y _ x1 (by omega)]
  have x2 := lt y (y / 128) x1 (by omega)
  generalize y ^^^ (y / 128) = z at *
  rw [s17, bx z _ x2 (by omega)]
theorem so_bstep (a b : Nat) (hab : a + 8 ≤ b) (hb : b ≤ 4000000) (i m : Nat) (hi : i ≤ a + (b - a) / 4 * 2 + 1) (r : UInt64) (xs : List Int) :
    slices_breakPatternsOrdered_Id_l1 (a : Int) (b : Int) (m + 1) ((i : Int), (r.toNat : Int), xs) = slices_breakPatternsOrdered_Id_l1 (a : Int) (b : Int) m (((i + 1 : Nat) : Int), ((Sort.breakStep a (b - a) (1 <<< Sort.bitsLen (b - a)) (r, xs.toArray) i).1.toNat : Int), (Sort.breakStep a (b - a) (1 <<< Sort.bitsLen (b - a)) (r, xs.toArray) i).2.toList) := by
  simp only [slices_breakPatternsOrdered_Id_l1, LR.seq_go, so_next, Int.toNat_natCast]
  rw [if_pos (by omega), show (b : Int) - (a : Int) = ((b - a : Nat) : Int) by omega, npow_eq _ (by omega)]
  have h1 := Sort.two_pow_bitsLen_le (n := b - a) (by omega)
  have h0 : 0 < 2 ^ Sort.bitsLen (b - a) := Nat.two_pow_pos _
  unfold Sort.breakStep
  simp only
  rw [Nat.one_shiftLeft]
  generalize 2 ^ Sort.bitsLen (b - a) = M at h0 h1
  have hr : (Sort.xorNext r).toNat < 18446744073709551616 := (Sort.xorNext r).toNat_lt
  generalize Sort.xorNext r = r2 at *
  have e : IntKind.u64.wrap ((M : Int) - 1) = ((M - 1 : Nat) : Int) := by rw [wrap_u64 ⟨by omega, by omega⟩]; omega
  have eb : band .u64 (r2.toNat : Int) ((M - 1 : Nat) : Int) = ((r2.toNat &&& (M - 1) : Nat) : Int) := bits_and_u64_nat _ _ hr (by omega)
  rw [e, eb]
  generalize r2.toNat &&& (M - 1) = o
  have eo : (if ((b - a : Nat) : Int) ≤ (o : Int) then (o : Int) - ((b - a : Nat) : Int) else (o : Int)) = ((if o ≥ b - a then o - (b - a) else o : Nat) : Int) := by
    by_cases h : o ≥ b - a
    · rw [if_pos (by omega), if_pos h]; omega
    · rw [if_neg (by omega), if_neg h]
  rw [eo]
  generalize (if o ≥ b - a then o - (b - a) else o) = q
  rw [show ((a : Int) + (q : Int)).toNat = a + q by omega, so_swp]
  rfl
theorem so_break (xs : List Int) (a b : Nat) (hab : a + 12 < b) (hb : b ≤ 4000000) : slices_breakPatternsOrdered_Id_m xs (a : Int) (b : Int) = (Sort.breakPatterns xs.toArray a b).toList := by
  unfold slices_breakPatternsOrdered_Id_m Sort.breakPatterns
  rw [if_pos (by omega)]
  simp only
  rw [if_pos (show b - a ≥ 8 by omega), LR.seq_go]
  have e0 : (a : Int) + ((b : Int) - (a : Int)) / 4 * 2 - 1 = ((a + (b - a) / 4 * 2 - 1 : Nat) : Int) := by omega
  have em : ((a : Int) + ((b : Int) - (a : Int)) / 4 * 2 + 2 - ((a + (b - a) / 4 * 2 - 1 : Nat) : Int)).toNat + 1 = 4 := by omega
  have er : (b : Int) - (a : Int) = ((UInt64.ofNat (b - a)).toNat : Int) := by
    rw [UInt64.toNat_ofNat']; omega
  rw [e0, em]
  conv => lhs; rw [show ((b : Int) - (a : Int)) = ((UInt64.ofNat (b - a)).toNat : Int) from er]
  rw [so_bstep a b (by omega) hb _ 3 (by omega), so_bstep a b (by omega) hb _ 2 (by omega), so_bstep a b (by omega) hb _ 1 (by omega)]
  simp only [Array.toArray_toList]
  rw [slices_breakPatternsOrdered_Id_l1, if_neg (by simp only; omega)]
theorem partEq_rng (lt : Int → Int → Bool) (a : Nat) : ∀ (k i j : Nat) (d : Array Int), j + 1 - i ≤ k → 1 ≤ i → i ≤ (Sort.partEqLoop lt a i j d).1 ∧ (Sort.partEqLoop lt a i j d).1 ≤ max i (j + 1)
  | k, i, j, d, h, h1 => by
    rw [Sort.partEqLoop]
    have hu := scanUp_le (fun x => !lt d[a]! x) d j (j + 1 - i) i (Nat.le_refl _)
    generalize Sort.scanUp (fun x => !lt d[a]! x) d j i = i2 at *
    have hd := scanDown_le (fun x => lt d[a]! x) d i2 (by omega) j
    generalize Sort.scanDown (fun x => lt d[a]! x) d i2 j = j2 at *
    by_cases hc : i2 > j2
    · rw [if_pos hc]; exact ⟨hu.1, hu.2⟩
    · rw [if_neg hc]
      split
      · cases k with
        | zero => omega
        | succ k => have := partEq_rng lt a k (i2 + 1) (j2 - 1) (Sort.swp d i2 j2) (by omega) (by omega); omega
      · exact ⟨hu.1, hu.2⟩
theorem peq_f (xs : List Int) (a b p : Int) (r : Int × List Int) (e : r = slices_partitionEqualOrdered_Id_m xs a b p) (h : 0 ≤ a ∧ a < b ∧ 0 ≤ p) : a < r.1 ∧ r.1 ≤ b := by
  obtain ⟨a, rfl⟩ : ∃ n : Nat, a = n := ⟨a.toNat, by omega⟩
  obtain ⟨b, rfl⟩ : ∃ n : Nat, b = n := ⟨b.toNat, by omega⟩
  obtain ⟨p, rfl⟩ : ∃ n : Nat, p = n := ⟨p.toNat, by omega⟩
  rw [e, so_pe xs a b p (by omega)]
  unfold Sort.partitionEqual
  have := partEq_rng Sort.ltInt a (b - 1 + 1 - (a + 1)) (a + 1) (b - 1) (Sort.swp xs.toArray a p) (Nat.le_refl _) (by omega)
  simp only [pairI2]
  omega
theorem pp_f (xs : List Int) (a b p : Int) (r : Int × Bool × List Int) (e : r = slices_partitionOrdered_Id_m xs a b p) (h : 0 ≤ a ∧ a ≤ p ∧ p < b ∧ b ≤ (xs.length : Int)) : a ≤ r.1 ∧ r.1 < b := by
  obtain ⟨a, rfl⟩ : ∃ n : Nat, a = n := ⟨a.toNat, by omega⟩
  obtain ⟨b, rfl⟩ : ∃ n : Nat, b = n := ⟨b.toNat, by omega⟩
  obtain ⟨p, rfl⟩ : ∃ n : Nat, p = n := ⟨p.toNat, by omega⟩
  rw [e, so_pp xs a b p (by omega)]
  have := Sort.partition_holds Sort.ltInt Sort.swo_ltInt xs.toArray a b p (by omega) (by omega) (by simp; omega)
  simp only [trip]
  omega
end Go.SX

set_option linter.unusedVariables false
set_option linter.unusedSimpArgs false
namespace Go.SX
open Go Go.Proofs

def pdqStep_l1 (srt : List Int → Int → Int → Int → List Int) : Nat → (Int × Int × Int × Bool × Bool × (List Int)) → LR ((List Int)) (Unit)
  | 0, _ => .go default
  | ml1 + 1, sl1 => if ((sl1.2.1 - sl1.1) : Int) ≤ 12 then (LR.seq (slices_insertionSortOrdered_Id_m sl1.2.2.2.2.2 sl1.1 sl1.2.1) (fun r27 => .ret r27)) else (if sl1.2.2.1 = 0 then (LR.seq (slices_heapSortOrdered_Id_m sl1.2.2.2.2.2 sl1.1 sl1.2.1) (fun r33 => .ret r33)) else (LR.seq (if (!sl1.2.2.2.1) = true then (LR.seq (slices_breakPatternsOrdered_Id_m sl1.2.2.2.2.2 sl1.1 sl1.2.1) (fun r39 => ((sl1.2.2.1 - 1), r39))) else ((sl1.2.2.1, sl1.2.2.2.2.2)) : Int × (List Int)) (fun sc2 => LR.seq (slices_choosePivotOrdered_Id_m sc2.2 sl1.1 sl1.2.1) (fun r46 => LR.seq (if r46.2.1 = 2 then (LR.seq (slices_reverseRangeOrdered_Id_m r46.2.2 sl1.1 sl1.2.1) (fun r54 => (((sl1.2.1 - 1) - (r46.1 - sl1.1)), 1, r54))) else ((r46.1, r46.2.1, r46.2.2)) : Int × Int × (List Int)) (fun sc3 => LR.seq (if sl1.2.2.2.1 = true then (if sl1.2.2.2.2.1 = true then ((decide (sc3.2.1 = 1))) else false) else false : Bool) (fun sc4 => LR.on (if sc4 = true then (LR.seq (slices_partialInsertionSortOrdered_Id_m sc3.2.2 sl1.1 sl1.2.1) (fun r72 => if r72.1 = true then (.ret (.ret r72.2)) else (.go r72.2))) else (.go sc3.2.2) : LR (LR ((List Int)) (Unit)) ((List Int))) (fun r => r) (fun sc5 => LR.seq (if (0 : Int) < sl1.1 then ((!(cmp_Less_Id_m (sc5.getD (((sl1.1 - 1)).toNat) (0 : Int)) (sc5.getD sc3.1.toNat (0 : Int))))) else false : Bool) (fun sc6 => if sc6 = true then (LR.seq (slices_partitionEqualOrdered_Id_m sc5 sl1.1 sl1.2.1 sc3.1) (fun r92 => pdqStep_l1 srt ml1 ((r92.1, sl1.2.1, sc2.1, sl1.2.2.2.1, sl1.2.2.2.2.1, r92.2)))) else (LR.seq (slices_partitionOrdered_Id_m sc5 sl1.1 sl1.2.1 sc3.1) (fun r99 => if ((r99.1 - sl1.1) : Int) < (sl1.2.1 - r99.1) then (LR.seq (srt r99.2.2 sl1.1 r99.1 sc2.1) (fun r121 => pdqStep_l1 srt ml1 (((r99.1 + 1), sl1.2.1, sc2.1, (decide ((((sl1.2.1 - sl1.1) / 8) : Int) ≤ (r99.1 - sl1.1))), r99.2.1, r121)))) else (LR.seq (srt r99.2.2 ((r99.1 + 1)) sl1.2.1 sc2.1) (fun r132 => pdqStep_l1 srt ml1 ((sl1.1, r99.1, sc2.1, (decide ((((sl1.2.1 - sl1.1) / 8) : Int) ≤ (sl1.2.1 - r99.1))), r99.2.1, r132))))))))))))))
def pdqStep_m (srt : List Int → Int → Int → Int → List Int) (a0 : List Int) (a1 : Int) (a2 : Int) (a3 : Int) : (List Int) :=
  LR.on (pdqStep_l1 srt ((a2 - a1).toNat + 1) ((a1, a2, a3, true, true, a0))) (fun r => r) (fun _ => default)
set_option maxHeartbeats 3200000 in
theorem pdqStep_c (H : Heap) (va0 : Value) (a0 : List Int) (Ca0 : Chunk) (ha0 : OwnS (intE .u64) 26 H va0 a0 Ca0) (a1 : Int) (a2 : Int) (a3 : Int) (N : Nat) (srt : List Int → Int → Int → Int → List Int) (ih : ∀ (H : Heap) (v0 : Value) (xs : List Int) (C : Chunk), OwnS (intE .u64) 26 H v0 xs C → ∀ (a b lim : Int), 0 ≤ a → a ≤ b → b ≤ (xs.length : Int) → xs.length ≤ 4000000 → 0 ≤ lim → lim ≤ 100 → b - a < (N : Int) → Fc Try.prog (fnv 66) [v0, .int .i64 a, .int .i64 b, .int .i64 lim] H [C] (fun v1 H1 L1 => ∃ D, v1 = .tuple #[] ∧ L1 = [D] ∧ OwnS (intE .u64) 26 H1 v0 (srt xs a b lim) D)) (h1 : 0 ≤ a1) (h2 : a1 ≤ a2) (h3 : a2 ≤ (a0.length : Int)) (hl : a0.length ≤ 4000000) (h5 : 0 ≤ a3) (h6 : a3 ≤ 100) (hN : a2 - a1 ≤ (N : Int)) : Fc Try.prog (fnv 66) [va0, .int .i64 a1, .int .i64 a2, .int .i64 a3] H [Ca0] (fun v' H' L' => ∃ Da0, v' = .tuple #[] ∧ L' = [Da0] ∧ OwnS (intE .u64) 26 H' va0 (pdqStep_m srt a0 a1 a2 a3) Da0) := by
  refine Fc.of_body (N := 134) Try.func66 rfl (by kernel_rfl) rfl rfl ?_
  intro w0
  obtain ⟨Aa0, pa0, rfl, ma0, na0⟩ := OwnS.shape ha0
  refine T.seq ?_
  refine T.region ?_
  refine R.asE rfl (by conv => lhs; whnf) ?_
  refine TL.nil (Post.thnN ?_)
  refine T.seq ?_
  refine T.region ?_
  refine R.asE rfl (by conv => lhs; whnf) ?_
  refine TL.nil (Post.thnN ?_)
  refine T.block ?_
  refine T.loop (ι := Nat × Int × Int × Int × Bool × Bool × (List Int) × Chunk) (fun ⟨kl1, n1l1, n2l1, n3l1, b8l1, b9l1, xPa0l1, cPa0l1⟩ H' L' ds' => (n2l1 - n1l1).toNat < kl1 ∧ Has L' [cPa0l1] ∧ OwnS (intE .u64) 26 H' (.slice Aa0 a0.length pa0) xPa0l1 cPa0l1 ∧ 0 ≤ n1l1 ∧ n1l1 ≤ n2l1 ∧ n2l1 ≤ (a0.length : Int) ∧ 0 ≤ n3l1 ∧ n3l1 ≤ 100 ∧ n2l1 - n1l1 ≤ (N : Int) ∧ pdqStep_l1 srt kl1 ((n1l1, n2l1, n3l1, b8l1, b9l1, xPa0l1)) = pdqStep_l1 srt ((a2 - a1).toNat + 1) ((a1, a2, a3, true, true, a0))) (fun ⟨kl1, n1l1, n2l1, n3l1, b8l1, b9l1, xPa0l1, cPa0l1⟩ => [(0, .slice Aa0 a0.length pa0), (1, .int .i64 n1l1), (2, .int .i64 n2l1), (3, .int .i64 n3l1), (8, .bool (b8l1)), (9, .bool (b9l1))]) (fun ⟨kl1, n1l1, n2l1, n3l1, b8l1, b9l1, xPa0l1, cPa0l1⟩ => kl1) (((a2 - a1).toNat + 1), a1, a2, a3, true, true, a0, Ca0) ?_ ?_ ?_
  · exact ⟨(by omega), (Has.cons .hd Has.nil), ha0, (by first | omega | (simp; done) | (simp; omega) | (simp at *; omega)), (by first | omega | (simp; done) | (simp; omega) | (simp at *; omega)), (by first | omega | (simp; done) | (simp; omega) | (simp at *; omega)), (by first | omega | (simp; done) | (simp; omega) | (simp at *; omega)), (by first | omega | (simp; done) | (simp; omega) | (simp at *; omega)), (by first | omega | (simp; done) | (simp; omega) | (simp at *; omega)), (by rfl)⟩
  · exact ⟨rfl, rfl, rfl, rfl, rfl, rfl, trivial⟩
  · intro ⟨kl1, n1l1, n2l1, n3l1, b8l1, b9l1, xPa0l1, cPa0l1⟩ σ_l1 H_l1 L_l1 ds_l1 s_l1 hI_l1
    obtain ⟨hkl1, hI_l1⟩ := hI_l1
    obtain ⟨ml1, rfl⟩ : ∃ m, kl1 = m + 1 := ⟨kl1 - 1, by omega⟩
    obtain ⟨hLl1, wPa0l1, hBl1_0, hBl1_1, hBl1_2, hBl1_3, hBl1_4, hBl1_5, hQl1⟩ := hI_l1
    have nPa0l1_ := OwnS.len wPa0l1
    refine T.has hLl1 ?_
    refine T.block ?_
    refine T.seq ?_
    refine T.region ?_
    refine R.mvE rfl (by conv => lhs; whnf) ?_
    refine R.mvE rfl (by conv => lhs; whnf) ?_
    refine R.subI rfl rfl rfl (by omega) ?_
    refine R.asE rfl (by conv => lhs; whnf) ?_
    refine TL.nil (Post.thnN ?_)
    refine T.seq ?_
    refine T.seq ?_
    refine T.region ?_
    refine R.mvE rfl (by conv => lhs; whnf) ?_
    refine R.leq rfl rfl rfl ?_
    refine TL.nil (Post.thnN ?_)
    refine T.condD rfl (fun c23 => ?_) (fun c23 => ?_)
    · refine T.set 23 (.bool true) (congrArg Value.bool (decide_eq_true c23)) ?_
      refine T.seq ?_
      refine T.region ?_
      refine R.mvE rfl (by conv => lhs; whnf) ?_
      refine R.mvE rfl (by conv => lhs; whnf) ?_
      refine R.mvE rfl (by conv => lhs; whnf) ?_
      obtain ⟨r27, er27⟩ : ∃ r, r = (slices_insertionSortOrdered_Id_m xPa0l1 n1l1 n2l1) := ⟨_, rfl⟩
      refine TL.call [true] rfl rfl rfl (slices_insertionSortOrdered_Id_c _ _ xPa0l1 _ wPa0l1 (n1l1) (n2l1) (by first | omega | (simp; done) | (simp; omega) | (simp at *; omega)) (by first | omega | (simp; done) | (simp; omega) | (simp at *; omega)) (by first | omega | (simp; done) | (simp; omega) | (simp at *; omega)) (by first | omega | (simp; done) | (simp; omega) | (simp at *; omega))) ?_
      intro v27 H27 L27 s27 q27
      rw [← er27] at q27
      obtain ⟨D27_a0, rfl, rfl, w27_a0⟩ := q27
      have n27_a0_ := OwnS.len w27_a0
      refine TL.nil (Post.thnN ?_)
      refine T.has (Has.cons .hd Has.nil) ?_
      refine T.ret (Post.thnR (Post.blkR (Post.thnR (Post.blkR ?_))))
      have hXl1 : pdqStep_l1 srt ((a2 - a1).toNat + 1) ((a1, a2, a3, true, true, a0)) = .ret r27 := by subst er27; rw [← hQl1, pdqStep_l1]; rw [if_pos c23, LR.seq_go]
      have hM : pdqStep_m srt a0 a1 a2 a3 = r27 := by rw [pdqStep_m, hXl1, LR.on_ret]
      exact fin0L [D27_a0] rfl (List.Sublist.refl _) ⟨D27_a0, by first | rw [hM] | rfl, by first | rw [hM] | rfl, by rw [hM]; exact w27_a0⟩
    · refine T.set 23 (.bool false) (congrArg Value.bool (decide_eq_false c23)) ?_
      refine T.skip (Post.thnN ?_)
      refine T.seq ?_
      refine T.seq ?_
      refine T.region ?_
      refine R.mvE rfl (by conv => lhs; whnf) ?_
      refine R.eql rfl rfl rfl ?_
      refine TL.nil (Post.thnN ?_)
      refine T.condD rfl (fun c29 => ?_) (fun c29 => ?_)
      · refine T.set 29 (.bool true) (congrArg Value.bool (decide_eq_true c29)) ?_
        refine T.seq ?_
        refine T.region ?_
        refine R.mvE rfl (by conv => lhs; whnf) ?_
        refine R.mvE rfl (by conv => lhs; whnf) ?_
        refine R.mvE rfl (by conv => lhs; whnf) ?_
        obtain ⟨r33, er33⟩ : ∃ r, r = (slices_heapSortOrdered_Id_m xPa0l1 n1l1 n2l1) := ⟨_, rfl⟩
        refine TL.call [true] rfl rfl rfl (slices_heapSortOrdered_Id_c _ _ xPa0l1 _ wPa0l1 (n1l1) (n2l1) (by first | omega | (simp; done) | (simp; omega) | (simp at *; omega)) (by first | omega | (simp; done) | (simp; omega) | (simp at *; omega)) (by first | omega | (simp; done) | (simp; omega) | (simp at *; omega)) (by first | omega | (simp; done) | (simp; omega) | (simp at *; omega))) ?_
        intro v33 H33 L33 s33 q33
        rw [← er33] at q33
        obtain ⟨D33_a0, rfl, rfl, w33_a0⟩ := q33
        have n33_a0_ := OwnS.len w33_a0
        refine TL.nil (Post.thnN ?_)
        refine T.has (Has.cons .hd Has.nil) ?_
        refine T.ret (Post.thnR (Post.blkR (Post.thnR (Post.blkR ?_))))
        have hXl1 : pdqStep_l1 srt ((a2 - a1).toNat + 1) ((a1, a2, a3, true, true, a0)) = .ret r33 := by subst er33; rw [← hQl1, pdqStep_l1]; rw [if_neg c23, if_pos c29, LR.seq_go]
        have hM : pdqStep_m srt a0 a1 a2 a3 = r33 := by rw [pdqStep_m, hXl1, LR.on_ret]
        exact fin0L [D33_a0] rfl (List.Sublist.refl _) ⟨D33_a0, by first | rw [hM] | rfl, by first | rw [hM] | rfl, by rw [hM]; exact w33_a0⟩
      · refine T.set 29 (.bool false) (congrArg Value.bool (decide_eq_false c29)) ?_
        refine T.skip (Post.thnN ?_)
        refine T.seq ?_
        refine T.seq ?_
        refine T.region ?_
        refine R.mvE rfl (by conv => lhs; whnf) ?_
        refine R.not rfl rfl ?_
        refine TL.nil (Post.thnN ?_)
        refine T.cutK (ι := Int × (List Int) × Chunk) (fun ⟨n3c2, xPa0c2, cPa0c2⟩ H' L' ds' => Has L' [cPa0c2] ∧ OwnS (intE .u64) 26 H' (.slice Aa0 a0.length pa0) xPa0c2 cPa0c2 ∧ 0 ≤ n3c2 ∧ n3c2 ≤ 100 ∧ (if (!b8l1) = true then (LR.seq (slices_breakPatternsOrdered_Id_m xPa0l1 n1l1 n2l1) (fun r39 => ((n3l1 - 1), r39))) else ((n3l1, xPa0l1)) : Int × (List Int)) = (n3c2, xPa0c2)) (fun ⟨n3c2, xPa0c2, cPa0c2⟩ => [(0, .slice Aa0 a0.length pa0), (1, .int .i64 n1l1), (2, .int .i64 n2l1), (3, .int .i64 n3c2), (8, .bool (b8l1)), (9, .bool (b9l1)), (10, .int .i64 (n2l1 - n1l1))]) ?_ ?_
        · refine T.cond rfl (fun c35 => ?_) (fun c35 => ?_)
          · refine T.set 35 (.bool true) (congrArg Value.bool c35) ?_
            refine T.seq ?_
            refine T.region ?_
            refine R.mvE rfl (by conv => lhs; whnf) ?_
            refine R.mvE rfl (by conv => lhs; whnf) ?_
            refine R.mvE rfl (by conv => lhs; whnf) ?_
            obtain ⟨r39, er39⟩ : ∃ r, r = (slices_breakPatternsOrdered_Id_m xPa0l1 n1l1 n2l1) := ⟨_, rfl⟩
            refine TL.call [true] rfl rfl rfl (slices_breakPatternsOrdered_Id_c _ _ xPa0l1 _ wPa0l1 (n1l1) (n2l1) (by first | omega | (simp; done) | (simp; omega) | (simp at *; omega)) (by first | omega | (simp; done) | (simp; omega) | (simp at *; omega)) (by first | omega | (simp; done) | (simp; omega) | (simp at *; omega)) (by first | omega | (simp; done) | (simp; omega) | (simp at *; omega))) ?_
            intro v39 H39 L39 s39 q39
            rw [← er39] at q39
            obtain ⟨D39_a0, rfl, rfl, w39_a0⟩ := q39
            have n39_a0_ := OwnS.len w39_a0
            refine TL.nil (Post.thnN ?_)
            refine T.region ?_
            refine R.mvE rfl (by conv => lhs; whnf) ?_
            refine R.subI rfl rfl rfl (by omega) ?_
            refine R.asE rfl (by conv => lhs; whnf) ?_
            refine TL.nil (Post.thnN ?_)
            exact ⟨((n3l1 - 1), r39, D39_a0), s39, ⟨(Has.cons .hd Has.nil), w39_a0, (by first | omega | (simp; done) | (simp; omega) | (simp at *; omega)), (by first | omega | (simp; done) | (simp; omega) | (simp at *; omega)), (by subst er39; rw [if_t c35, LR.seq_go])⟩, rfl, rfl, rfl, rfl, rfl, rfl, rfl, trivial⟩
          · refine T.set 35 (.bool false) (congrArg Value.bool c35) ?_
            refine T.skip (Post.thnN ?_)
            exact ⟨(n3l1, xPa0l1, cPa0l1), HLe.refl _, ⟨(Has.cons .hd Has.nil), wPa0l1, (by first | omega | (simp; done) | (simp; omega) | (simp at *; omega)), (by first | omega | (simp; done) | (simp; omega) | (simp at *; omega)), (by rw [if_f c35])⟩, rfl, rfl, rfl, rfl, rfl, rfl, rfl, trivial⟩
        · intro ⟨n3c2, xPa0c2, cPa0c2⟩ σ_c2 H_c2 L_c2 ds_c2 s_c2 hI_c2
          obtain ⟨hLc2, wPa0c2, hBc2_0, hBc2_1, hTc2⟩ := hI_c2
          have nPa0c2_ := OwnS.len wPa0c2
          refine T.has hLc2 ?_
          refine T.seq ?_
          refine T.region ?_
          refine R.mvE rfl (by conv => lhs; whnf) ?_
          refine R.mvE rfl (by conv => lhs; whnf) ?_
          refine R.mvE rfl (by conv => lhs; whnf) ?_
          obtain ⟨r46, er46⟩ : ∃ r, r = (slices_choosePivotOrdered_Id_m xPa0c2 n1l1 n2l1) := ⟨_, rfl⟩
          refine TL.call [true] rfl rfl rfl (slices_choosePivotOrdered_Id_c _ _ xPa0c2 _ wPa0c2 (n1l1) (n2l1) (by first | omega | (simp; done) | (simp; omega) | (simp at *; omega)) (by first | omega | (simp; done) | (simp; omega) | (simp at *; omega)) (by first | omega | (simp; done) | (simp; omega) | (simp at *; omega)) (by first | omega | (simp; done) | (simp; omega) | (simp at *; omega))) ?_
          intro v46 H46 L46 s46 q46
          rw [← er46] at q46
          obtain ⟨D46_a0, rfl, rfl, w46_a0⟩ := q46
          have n46_a0_ := OwnS.len w46_a0
          have tf46 := choose_f _ _ _ _ er46 (by first | omega | (simp; done) | (simp; omega) | (simp at *; omega))
          refine R.mvE rfl (by conv => lhs; whnf) ?_
          refine R.ext rfl rfl rfl ?_
          refine R.ext rfl rfl rfl ?_
          refine R.asE rfl (by conv => lhs; whnf) ?_
          refine R.asE rfl (by conv => lhs; whnf) ?_
          refine TL.nil (Post.thnN ?_)
          refine T.seq ?_
          refine T.seq ?_
          refine T.region ?_
          refine R.mvE rfl (by conv => lhs; whnf) ?_
          refine R.eql rfl rfl rfl ?_
          refine TL.nil (Post.thnN ?_)
          refine T.cutK (ι := Int × Int × (List Int) × Chunk) (fun ⟨n11c3, n12c3, xPa0c3, cPa0c3⟩ H' L' ds' => Has L' [cPa0c3] ∧ OwnS (intE .u64) 26 H' (.slice Aa0 a0.length pa0) xPa0c3 cPa0c3 ∧ n1l1 ≤ n11c3 ∧ n11c3 < n2l1 ∧ (if r46.2.1 = 2 then (LR.seq (slices_reverseRangeOrdered_Id_m r46.2.2 n1l1 n2l1) (fun r54 => (((n2l1 - 1) - (r46.1 - n1l1)), 1, r54))) else ((r46.1, r46.2.1, r46.2.2)) : Int × Int × (List Int)) = (n11c3, n12c3, xPa0c3)) (fun ⟨n11c3, n12c3, xPa0c3, cPa0c3⟩ => [(0, .slice Aa0 a0.length pa0), (1, .int .i64 n1l1), (2, .int .i64 n2l1), (3, .int .i64 n3c2), (8, .bool (b8l1)), (9, .bool (b9l1)), (10, .int .i64 (n2l1 - n1l1)), (11, .int .i64 n11c3), (12, .int .i64 n12c3)]) ?_ ?_
          · refine T.condD rfl (fun c50 => ?_) (fun c50 => ?_)
            · refine T.set 50 (.bool true) (congrArg Value.bool (decide_eq_true c50)) ?_
              refine T.seq ?_
              refine T.region ?_
              refine R.mvE rfl (by conv => lhs; whnf) ?_
              refine R.mvE rfl (by conv => lhs; whnf) ?_
              refine R.mvE rfl (by conv => lhs; whnf) ?_
              obtain ⟨r54, er54⟩ : ∃ r, r = (slices_reverseRangeOrdered_Id_m r46.2.2 n1l1 n2l1) := ⟨_, rfl⟩
              refine TL.call [true] rfl rfl rfl (slices_reverseRangeOrdered_Id_c _ _ r46.2.2 _ w46_a0 (n1l1) (n2l1) (by first | omega | (simp; done) | (simp; omega) | (simp at *; omega)) (by first | omega | (simp; done) | (simp; omega) | (simp at *; omega)) (by first | omega | (simp; done) | (simp; omega) | (simp at *; omega)) (by first | omega | (simp; done) | (simp; omega) | (simp at *; omega))) ?_
              intro v54 H54 L54 s54 q54
              rw [← er54] at q54
              obtain ⟨D54_a0, rfl, rfl, w54_a0⟩ := q54
              have n54_a0_ := OwnS.len w54_a0
              refine TL.nil (Post.thnN ?_)
              refine T.seq ?_
              refine T.region ?_
              refine R.mvE rfl (by conv => lhs; whnf) ?_
              refine R.subI rfl rfl rfl (by omega) ?_
              refine R.mvE rfl (by conv => lhs; whnf) ?_
              refine R.mvE rfl (by conv => lhs; whnf) ?_
              refine R.subI rfl rfl rfl (by omega) ?_
              refine R.subI rfl rfl rfl (by omega) ?_
              refine R.asE rfl (by conv => lhs; whnf) ?_
              refine TL.nil (Post.thnN ?_)
              refine T.region ?_
              refine R.asE rfl (by conv => lhs; whnf) ?_
              refine TL.nil (Post.thnN ?_)
              exact ⟨(((n2l1 - 1) - (r46.1 - n1l1)), 1, r54, D54_a0), s54, ⟨(Has.cons .hd Has.nil), w54_a0, (by first | omega | (simp; done) | (simp; omega) | (simp at *; omega)), (by first | omega | (simp; done) | (simp; omega) | (simp at *; omega)), (by subst er54; rw [if_pos c50, LR.seq_go])⟩, rfl, rfl, rfl, rfl, rfl, rfl, rfl, rfl, rfl, trivial⟩
            · refine T.set 50 (.bool false) (congrArg Value.bool (decide_eq_false c50)) ?_
              refine T.skip (Post.thnN ?_)
              exact ⟨(r46.1, r46.2.1, r46.2.2, D46_a0), HLe.refl _, ⟨(Has.cons .hd Has.nil), w46_a0, (by first | omega | (simp; done) | (simp; omega) | (simp at *; omega)), (by first | omega | (simp; done) | (simp; omega) | (simp at *; omega)), (by rw [if_neg c50])⟩, rfl, rfl, rfl, rfl, rfl, rfl, rfl, rfl, rfl, trivial⟩
          · intro ⟨n11c3, n12c3, xPa0c3, cPa0c3⟩ σ_c3 H_c3 L_c3 ds_c3 s_c3 hI_c3
            obtain ⟨hLc3, wPa0c3, hBc3_0, hBc3_1, hTc3⟩ := hI_c3
            have nPa0c3_ := OwnS.len wPa0c3
            refine T.has hLc3 ?_
            refine T.seq ?_
            refine T.seq ?_
            refine T.cutK (ι := Bool) (fun b68c4 H' L' ds' => Has L' [cPa0c3] ∧ (if b8l1 = true then (if b9l1 = true then ((decide (n12c3 = 1))) else false) else false : Bool) = b68c4) (fun b68c4 => [(0, .slice Aa0 a0.length pa0), (1, .int .i64 n1l1), (2, .int .i64 n2l1), (3, .int .i64 n3c2), (8, .bool (b8l1)), (9, .bool (b9l1)), (10, .int .i64 (n2l1 - n1l1)), (11, .int .i64 n11c3), (68, .bool (b68c4))]) ?_ ?_
            · refine T.region ?_
              refine R.mvE rfl (by conv => lhs; whnf) ?_
              refine R.mvE rfl (by conv => lhs; whnf) ?_
              refine TL.gsplit 62 rfl (fun g62 => ?_) (fun g62 => ?_)
              · refine R.mvE rfl (by conv => lhs; whnf) ?_
                refine R.pkTE rfl rfl (by conv => lhs; whnf) ?_
                refine R.mvE rfl (by conv => lhs; whnf) ?_
                refine TL.gsplit 65 rfl (fun g65 => ?_) (fun g65 => ?_)
                · refine R.mvE rfl (by conv => lhs; whnf) ?_
                  refine R.eql rfl rfl rfl ?_
                  refine R.pkTE rfl rfl (by conv => lhs; whnf) ?_
                  refine TL.nil (Post.thnN ?_)
                  exact ⟨(decide (n12c3 = 1)), HLe.refl _, ⟨(Has.cons .hd Has.nil), (by rw [if_t g62, if_t g65])⟩, rfl, rfl, rfl, rfl, rfl, rfl, rfl, rfl, rfl, trivial⟩
                · refine TL.off rfl rfl rfl ?_
                  refine TL.off rfl rfl rfl ?_
                  refine R.pkFE rfl rfl (by conv => lhs; whnf) ?_
                  refine TL.nil (Post.thnN ?_)
                  exact ⟨false, HLe.refl _, ⟨(Has.cons .hd Has.nil), (by rw [if_t g62, if_f g65])⟩, rfl, rfl, rfl, rfl, rfl, rfl, rfl, rfl, rfl, trivial⟩
              · refine TL.off rfl rfl rfl ?_
                refine R.pkFE rfl rfl (by conv => lhs; whnf) ?_
                refine R.mvE rfl (by conv => lhs; whnf) ?_
                refine TL.off rfl rfl rfl ?_
                refine TL.off rfl rfl rfl ?_
                refine R.pkFE rfl rfl (by conv => lhs; whnf) ?_
                refine TL.nil (Post.thnN ?_)
                exact ⟨false, HLe.refl _, ⟨(Has.cons .hd Has.nil), (by rw [if_f g62])⟩, rfl, rfl, rfl, rfl, rfl, rfl, rfl, rfl, rfl, trivial⟩
            · intro b68c4 σ_c4 H_c4 L_c4 ds_c4 s_c4 hI_c4
              obtain ⟨hLc4, hTc4⟩ := hI_c4
              refine T.has hLc4 ?_
              refine T.cutK (ι := (List Int) × Chunk) (fun ⟨xPa0c5, cPa0c5⟩ H' L' ds' => Has L' [cPa0c5] ∧ OwnS (intE .u64) 26 H' (.slice Aa0 a0.length pa0) xPa0c5 cPa0c5 ∧ (if b68c4 = true then (LR.seq (slices_partialInsertionSortOrdered_Id_m xPa0c3 n1l1 n2l1) (fun r72 => if r72.1 = true then (.ret (.ret r72.2)) else (.go r72.2))) else (.go xPa0c3) : LR (LR ((List Int)) (Unit)) ((List Int))) = .go xPa0c5) (fun ⟨xPa0c5, cPa0c5⟩ => [(0, .slice Aa0 a0.length pa0), (1, .int .i64 n1l1), (2, .int .i64 n2l1), (3, .int .i64 n3c2), (8, .bool (b8l1)), (9, .bool (b9l1)), (10, .int .i64 (n2l1 - n1l1)), (11, .int .i64 n11c3)]) ?_ ?_
              · refine T.cond rfl (fun c68 => ?_) (fun c68 => ?_)
                · refine T.set 68 (.bool true) (congrArg Value.bool c68) ?_
                  have hZ68 := hTc4.trans c68
                  try simp only [or_f, or_t, and_f, and_t, decide_eq_true_eq, decide_eq_false_iff_not, Bool.not_eq_true'] at hZ68
                  refine T.seq ?_
                  refine T.region ?_
                  refine R.mvE rfl (by conv => lhs; whnf) ?_
                  refine R.mvE rfl (by conv => lhs; whnf) ?_
                  refine R.mvE rfl (by conv => lhs; whnf) ?_
                  obtain ⟨r72, er72⟩ : ∃ r, r = (slices_partialInsertionSortOrdered_Id_m xPa0c3 n1l1 n2l1) := ⟨_, rfl⟩
                  refine TL.call [true] rfl rfl rfl (slices_partialInsertionSortOrdered_Id_c _ _ xPa0c3 _ (OwnS.mono wPa0c3 s_c4) (n1l1) (n2l1) (by first | omega | (simp; done) | (simp; omega) | (simp at *; omega)) (by first | omega | (simp; done) | (simp; omega) | (simp at *; omega)) (by first | omega | (simp; done) | (simp; omega) | (simp at *; omega)) (by first | omega | (simp; done) | (simp; omega) | (simp at *; omega))) ?_
                  intro v72 H72 L72 s72 q72
                  rw [← er72] at q72
                  obtain ⟨D72_a0, rfl, rfl, w72_a0⟩ := q72
                  have n72_a0_ := OwnS.len w72_a0
                  refine TL.nil (Post.thnN ?_)
                  refine T.cond rfl (fun c72 => ?_) (fun c72 => ?_)
                  · refine T.set 72 (.bool true) (congrArg Value.bool c72) ?_
                    refine T.has (Has.cons .hd Has.nil) ?_
                    refine T.ret (Post.thnR (Post.blkR (Post.thnR (Post.blkR ?_))))
                    have hXl1 : pdqStep_l1 srt ((a2 - a1).toNat + 1) ((a1, a2, a3, true, true, a0)) = .ret r72.2 := by subst er72; subst er46; rw [← hQl1, pdqStep_l1]; rw [if_neg c23, if_neg c29, hTc2, LR.seq_go, LR.seq_go, hTc3, LR.seq_go, hTc4, LR.seq_go, if_t c68, LR.seq_go, if_t c72, LR.on_ret]
                    have hM : pdqStep_m srt a0 a1 a2 a3 = r72.2 := by rw [pdqStep_m, hXl1, LR.on_ret]
                    exact fin0L [D72_a0] rfl (List.Sublist.refl _) ⟨D72_a0, by first | rw [hM] | rfl, by first | rw [hM] | rfl, by rw [hM]; exact w72_a0⟩
                  · refine T.set 72 (.bool false) (congrArg Value.bool c72) ?_
                    refine T.skip (Post.thnN ?_)
                    exact ⟨(r72.2, D72_a0), s72, ⟨(Has.cons .hd Has.nil), w72_a0, (by subst er72; rw [if_t c68, LR.seq_go, if_f c72])⟩, rfl, rfl, rfl, rfl, rfl, rfl, rfl, rfl, trivial⟩
                · refine T.set 68 (.bool false) (congrArg Value.bool c68) ?_
                  have hZ68 := hTc4.trans c68
                  try simp only [or_f, or_t, and_f, and_t, decide_eq_true_eq, decide_eq_false_iff_not, Bool.not_eq_true'] at hZ68
                  refine T.skip (Post.thnN ?_)
                  exact ⟨(xPa0c3, cPa0c3), HLe.refl _, ⟨(Has.cons .hd Has.nil), (OwnS.mono wPa0c3 s_c4), (by rw [if_f c68])⟩, rfl, rfl, rfl, rfl, rfl, rfl, rfl, rfl, trivial⟩
              · intro ⟨xPa0c5, cPa0c5⟩ σ_c5 H_c5 L_c5 ds_c5 s_c5 hI_c5
                obtain ⟨hLc5, wPa0c5, hTc5⟩ := hI_c5
                have nPa0c5_ := OwnS.len wPa0c5
                refine T.has hLc5 ?_
                refine T.seq ?_
                refine T.seq ?_
                refine T.cutK (ι := Bool) (fun b87c6 H' L' ds' => Has L' [cPa0c5] ∧ (if (0 : Int) < n1l1 then ((!(cmp_Less_Id_m (xPa0c5.getD (((n1l1 - 1)).toNat) (0 : Int)) (xPa0c5.getD n11c3.toNat (0 : Int))))) else false : Bool) = b87c6) (fun b87c6 => [(0, .slice Aa0 a0.length pa0), (1, .int .i64 n1l1), (2, .int .i64 n2l1), (3, .int .i64 n3c2), (8, .bool (b8l1)), (9, .bool (b9l1)), (10, .int .i64 (n2l1 - n1l1)), (11, .int .i64 n11c3), (87, .bool (b87c6))]) ?_ ?_
                · refine T.draw Try_mixed (by kernel_rfl) ?_
                  refine Plan.v 0 [1, 2, 3, 4, 5, 6, 7, 8, 9, 10, 11, 12, 13, 14] (by kernel_rfl) (by kernel_rfl) (by kernel_rfl) (by kernel_rfl) rfl (fun _ _ h_ => R.mvE rfl (by conv => lhs; whnf) (TL.nil h_)) ?_
                  refine Plan.v 1 [2, 3, 4, 5, 6, 7, 8, 9, 10, 11, 12, 13, 14] (by kernel_rfl) (by kernel_rfl) (by kernel_rfl) (by kernel_rfl) rfl (fun _ _ h_ => R.gtr rfl rfl rfl (TL.nil h_)) ?_
                  refine Plan.v 2 [3, 4, 5, 6, 7, 8, 9, 10, 11, 12, 13, 14] (by kernel_rfl) (by kernel_rfl) (by kernel_rfl) (by kernel_rfl) rfl (fun _ _ h_ => R.mvE rfl (by conv => lhs; whnf) (TL.nil h_)) ?_
                  refine Plan.gsplitD 75 rfl (fun g75 => ?_) (fun g75 => ?_)
                  · refine Plan.v 3 [4, 5, 6, 7, 8, 9, 10, 11, 12, 13, 14] (by kernel_rfl) (by kernel_rfl) (by kernel_rfl) (by kernel_rfl) rfl (fun _ _ h_ => R.mvE rfl (by conv => lhs; whnf) (TL.nil h_)) ?_
                    refine Plan.v 4 [5, 6, 7, 8, 9, 10, 11, 12, 13, 14] (by kernel_rfl) (by kernel_rfl) (by kernel_rfl) (by kernel_rfl) rfl (fun _ _ h_ => R.mvE rfl (by conv => lhs; whnf) (TL.nil h_)) ?_
                    refine Plan.v 5 [6, 7, 8, 9, 10, 11, 12, 13, 14] (by kernel_rfl) (by kernel_rfl) (by kernel_rfl) (by kernel_rfl) rfl (fun _ _ h_ => R.subI rfl rfl rfl (by omega) (TL.nil h_)) ?_
                    have hl79 : ((n1l1 - 1)).toNat < a0.length := by first | omega | (simp; done) | (simp; omega) | (simp at *; omega)
                    obtain ⟨y79, e79, h79⟩ : ∃ y, y = (xPa0c5.getD (((n1l1 - 1)).toNat) (0 : Int)) ∧ xPa0c5[((n1l1 - 1)).toNat]? = some y := ⟨_, rfl, getD_get (by first | exact hl79 | simpa using hl79 | (simp only [List.length_set]; omega) | omega | (rw [(sortI_perm _).length_eq]; exact hl79))⟩
                    obtain ⟨b79, u79, cs79, l79, f79, j79, i79, g79, k79⟩ := OwnS.elem wPa0c5 h79
                    obtain rfl : l79 = [.int .u64 y79] := g79
                    refine Plan.v 6 [7, 8, 9, 10, 11, 12, 13, 14] (by kernel_rfl) (by kernel_rfl) (by kernel_rfl) (by kernel_rfl) rfl (fun _ _ h_ => R.ixp (sz := ((intE .u64)).size) Try.underlying22 Try.sizeOf26 rfl rfl rfl (by first | omega | (simp; done) | (simp; omega) | (simp at *; omega)) i79 (TL.nil h_)) ?_
                    refine Plan.v 8 [7, 9, 10, 11, 12, 13, 14] (by kernel_rfl) (by kernel_rfl) (by kernel_rfl) (by kernel_rfl) rfl (fun _ _ h_ => R.mvE rfl (by conv => lhs; whnf) (TL.nil h_)) ?_
                    refine Plan.v 9 [7, 10, 11, 12, 13, 14] (by kernel_rfl) (by kernel_rfl) (by kernel_rfl) (by kernel_rfl) rfl (fun _ _ h_ => R.mvE rfl (by conv => lhs; whnf) (TL.nil h_)) ?_
                    have hl83 : n11c3.toNat < a0.length := by first | omega | (simp; done) | (simp; omega) | (simp at *; omega)
                    obtain ⟨y83, e83, h83⟩ : ∃ y, y = (xPa0c5.getD n11c3.toNat (0 : Int)) ∧ xPa0c5[n11c3.toNat]? = some y := ⟨_, rfl, getD_get (by first | exact hl83 | simpa using hl83 | (simp only [List.length_set]; omega) | omega | (rw [(sortI_perm _).length_eq]; exact hl83))⟩
                    obtain ⟨b83, u83, cs83, l83, f83, j83, i83, g83, k83⟩ := OwnS.elem wPa0c5 h83
                    obtain rfl : l83 = [.int .u64 y83] := g83
                    refine Plan.v 10 [7, 11, 12, 13, 14] (by kernel_rfl) (by kernel_rfl) (by kernel_rfl) (by kernel_rfl) rfl (fun _ _ h_ => R.ixp (sz := ((intE .u64)).size) Try.underlying22 Try.sizeOf26 rfl rfl rfl (by first | omega | (simp; done) | (simp; omega) | (simp at *; omega)) i83 (TL.nil h_)) ?_
                    refine Plan.s2 7 11 [11, 12, 13, 14] [7, 12, 13, 14] (by kernel_rfl) (by kernel_rfl) (by kernel_rfl) rfl rfl ?_ ?_
                    · refine R.ld Try.isAgg26 rfl rfl (by rw [← f79]; exact .hd) (k79 0 _ rfl) ?_
                      refine TL.nil (Plan.e1 (HLe.refl _) ?_)
                      refine Plan.s1 11 [12, 13, 14] (by kernel_rfl) (by kernel_rfl) rfl ?_
                      refine R.ld Try.isAgg26 rfl rfl (by rw [← f83]; exact .hd) (k83 0 _ rfl) ?_
                      refine TL.nil (Plan.e1 (HLe.refl _) ?_)
                      refine Plan.v 12 [13, 14] (by kernel_rfl) (by kernel_rfl) (by kernel_rfl) (by kernel_rfl) rfl (fun _ _ h_ => R.callv rfl rfl rfl (cmp_Less_Id_c _ (y79) (y83)) (TL.nil h_)) ?_
                      refine Plan.v 13 [14] (by kernel_rfl) (by kernel_rfl) (by kernel_rfl) (by kernel_rfl) rfl (fun _ _ h_ => R.not rfl rfl (TL.nil h_)) ?_
                      refine Plan.v 14 [] (by kernel_rfl) (by kernel_rfl) (by kernel_rfl) (by kernel_rfl) rfl (fun _ _ h_ => R.pkTE rfl rfl (by conv => lhs; whnf) (TL.nil h_)) ?_
                      refine Plan.done (Post.thnN ?_)
                      exact ⟨(!(cmp_Less_Id_m y79 y83)), HLe.refl _, ⟨(Has.cons .hd Has.nil), (by subst e83; subst e79; rw [if_pos g75])⟩, rfl, rfl, rfl, rfl, rfl, rfl, rfl, rfl, rfl, trivial⟩
                    · refine R.ld Try.isAgg26 rfl rfl (by rw [← f83]; exact .hd) (k83 0 _ rfl) ?_
                      refine TL.nil (Plan.e1 (HLe.refl _) ?_)
                      refine Plan.s1 7 [12, 13, 14] (by kernel_rfl) (by kernel_rfl) rfl ?_
                      refine R.ld Try.isAgg26 rfl rfl (by rw [← f79]; exact .hd) (k79 0 _ rfl) ?_
                      refine TL.nil (Plan.e1 (HLe.refl _) ?_)
                      refine Plan.v 12 [13, 14] (by kernel_rfl) (by kernel_rfl) (by kernel_rfl) (by kernel_rfl) rfl (fun _ _ h_ => R.callv rfl rfl rfl (cmp_Less_Id_c _ (y79) (y83)) (TL.nil h_)) ?_
                      refine Plan.v 13 [14] (by kernel_rfl) (by kernel_rfl) (by kernel_rfl) (by kernel_rfl) rfl (fun _ _ h_ => R.not rfl rfl (TL.nil h_)) ?_
                      refine Plan.v 14 [] (by kernel_rfl) (by kernel_rfl) (by kernel_rfl) (by kernel_rfl) rfl (fun _ _ h_ => R.pkTE rfl rfl (by conv => lhs; whnf) (TL.nil h_)) ?_
                      refine Plan.done (Post.thnN ?_)
                      exact ⟨(!(cmp_Less_Id_m y79 y83)), HLe.refl _, ⟨(Has.cons .hd Has.nil), (by subst e83; subst e79; rw [if_pos g75])⟩, rfl, rfl, rfl, rfl, rfl, rfl, rfl, rfl, rfl, trivial⟩
                  · refine Plan.v 3 [4, 5, 6, 7, 8, 9, 10, 11, 12, 13, 14] (by kernel_rfl) (by kernel_rfl) (by kernel_rfl) (by kernel_rfl) rfl (fun _ _ h_ => TL.off rfl rfl rfl (TL.nil h_)) ?_
                    refine Plan.v 4 [5, 6, 7, 8, 9, 10, 11, 12, 13, 14] (by kernel_rfl) (by kernel_rfl) (by kernel_rfl) (by kernel_rfl) rfl (fun _ _ h_ => TL.off rfl rfl rfl (TL.nil h_)) ?_
                    refine Plan.v 5 [6, 7, 8, 9, 10, 11, 12, 13, 14] (by kernel_rfl) (by kernel_rfl) (by kernel_rfl) (by kernel_rfl) rfl (fun _ _ h_ => TL.off rfl rfl rfl (TL.nil h_)) ?_
                    refine Plan.v 6 [7, 8, 9, 10, 11, 12, 13, 14] (by kernel_rfl) (by kernel_rfl) (by kernel_rfl) (by kernel_rfl) rfl (fun _ _ h_ => TL.off rfl rfl rfl (TL.nil h_)) ?_
                    refine Plan.v 7 [8, 9, 10, 11, 12, 13, 14] (by kernel_rfl) (by kernel_rfl) (by kernel_rfl) (by kernel_rfl) rfl (fun _ _ h_ => TL.off rfl rfl rfl (TL.nil h_)) ?_
                    refine Plan.v 8 [9, 10, 11, 12, 13, 14] (by kernel_rfl) (by kernel_rfl) (by kernel_rfl) (by kernel_rfl) rfl (fun _ _ h_ => TL.off rfl rfl rfl (TL.nil h_)) ?_
                    refine Plan.v 9 [10, 11, 12, 13, 14] (by kernel_rfl) (by kernel_rfl) (by kernel_rfl) (by kernel_rfl) rfl (fun _ _ h_ => TL.off rfl rfl rfl (TL.nil h_)) ?_
                    refine Plan.v 10 [11, 12, 13, 14] (by kernel_rfl) (by kernel_rfl) (by kernel_rfl) (by kernel_rfl) rfl (fun _ _ h_ => TL.off rfl rfl rfl (TL.nil h_)) ?_
                    refine Plan.v 11 [12, 13, 14] (by kernel_rfl) (by kernel_rfl) (by kernel_rfl) (by kernel_rfl) rfl (fun _ _ h_ => TL.off rfl rfl rfl (TL.nil h_)) ?_
                    refine Plan.v 12 [13, 14] (by kernel_rfl) (by kernel_rfl) (by kernel_rfl) (by kernel_rfl) rfl (fun _ _ h_ => TL.off rfl rfl rfl (TL.nil h_)) ?_
                    refine Plan.v 13 [14] (by kernel_rfl) (by kernel_rfl) (by kernel_rfl) (by kernel_rfl) rfl (fun _ _ h_ => TL.off rfl rfl rfl (TL.nil h_)) ?_
                    refine Plan.v 14 [] (by kernel_rfl) (by kernel_rfl) (by kernel_rfl) (by kernel_rfl) rfl (fun _ _ h_ => R.pkFE rfl rfl (by conv => lhs; whnf) (TL.nil h_)) ?_
                    refine Plan.done (Post.thnN ?_)
                    exact ⟨false, HLe.refl _, ⟨(Has.cons .hd Has.nil), (by rw [if_neg g75])⟩, rfl, rfl, rfl, rfl, rfl, rfl, rfl, rfl, rfl, trivial⟩
                · intro b87c6 σ_c6 H_c6 L_c6 ds_c6 s_c6 hI_c6
                  obtain ⟨hLc6, hTc6⟩ := hI_c6
                  refine T.has hLc6 ?_
                  refine T.cond rfl (fun c87 => ?_) (fun c87 => ?_)
                  · refine T.set 87 (.bool true) (congrArg Value.bool c87) ?_
                    have hZ87 := hTc6.trans c87
                    try simp only [or_f, or_t, and_f, and_t, decide_eq_true_eq, decide_eq_false_iff_not, Bool.not_eq_true'] at hZ87
                    refine T.seq ?_
                    refine T.region ?_
                    refine R.mvE rfl (by conv => lhs; whnf) ?_
                    refine R.mvE rfl (by conv => lhs; whnf) ?_
                    refine R.mvE rfl (by conv => lhs; whnf) ?_
                    refine R.mvE rfl (by conv => lhs; whnf) ?_
                    obtain ⟨r92, er92⟩ : ∃ r, r = (slices_partitionEqualOrdered_Id_m xPa0c5 n1l1 n2l1 n11c3) := ⟨_, rfl⟩
                    refine TL.call [true] rfl rfl rfl (slices_partitionEqualOrdered_Id_c _ _ xPa0c5 _ (OwnS.mono wPa0c5 s_c6) (n1l1) (n2l1) (n11c3) (by first | omega | (simp; done) | (simp; omega) | (simp at *; omega)) (by first | omega | (simp; done) | (simp; omega) | (simp at *; omega)) (by first | omega | (simp; done) | (simp; omega) | (simp at *; omega)) (by first | omega | (simp; done) | (simp; omega) | (simp at *; omega)) (by first | omega | (simp; done) | (simp; omega) | (simp at *; omega))) ?_
                    intro v92 H92 L92 s92 q92
                    rw [← er92] at q92
                    obtain ⟨D92_a0, rfl, rfl, w92_a0⟩ := q92
                    have n92_a0_ := OwnS.len w92_a0
                    have tf92 := peq_f _ _ _ _ _ er92 (by first | omega | (simp; done) | (simp; omega) | (simp at *; omega))
                    refine R.asE rfl (by conv => lhs; whnf) ?_
                    refine TL.nil (Post.thnN ?_)
                    refine T.seq ?_
                    refine T.region ?_
                    refine R.mvE rfl (by conv => lhs; whnf) ?_
                    refine R.asE rfl (by conv => lhs; whnf) ?_
                    refine TL.nil (Post.thnN ?_)
                    refine T.exit (Post.thnE (Post.blkX ?_))
                    refine id (Post.thnN ?_)
                    exact ⟨(ml1, r92.1, n2l1, n3c2, b8l1, b9l1, r92.2, D92_a0), (s_l1.trans (s_c2.trans (s46.trans (s_c3.trans (s_c4.trans (s_c5.trans (s_c6.trans s92))))))), ⟨(by first | omega | (simp; omega) | (simp at *; omega)), (Has.cons .hd Has.nil), w92_a0, (by first | omega | (simp; done) | (simp; omega) | (simp at *; omega)), (by first | omega | (simp; done) | (simp; omega) | (simp at *; omega)), (by first | omega | (simp; done) | (simp; omega) | (simp at *; omega)), (by first | omega | (simp; done) | (simp; omega) | (simp at *; omega)), (by first | omega | (simp; done) | (simp; omega) | (simp at *; omega)), (by first | omega | (simp; done) | (simp; omega) | (simp at *; omega)), (by subst er92; subst er46; rw [← hQl1, pdqStep_l1]; rw [if_neg c23, if_neg c29, hTc2, LR.seq_go, LR.seq_go, hTc3, LR.seq_go, hTc4, LR.seq_go, hTc5, LR.on_go, hTc6, LR.seq_go, if_t c87, LR.seq_go])⟩, by show ml1 < ml1 + 1; omega, rfl, rfl, rfl, rfl, rfl, rfl, trivial⟩
                  · refine T.set 87 (.bool false) (congrArg Value.bool c87) ?_
                    have hZ87 := hTc6.trans c87
                    try simp only [or_f, or_t, and_f, and_t, decide_eq_true_eq, decide_eq_false_iff_not, Bool.not_eq_true'] at hZ87
                    refine T.skip (Post.thnN ?_)
                    refine T.seq ?_
                    refine T.region ?_
                    refine R.mvE rfl (by conv => lhs; whnf) ?_
                    refine R.mvE rfl (by conv => lhs; whnf) ?_
                    refine R.mvE rfl (by conv => lhs; whnf) ?_
                    refine R.mvE rfl (by conv => lhs; whnf) ?_
                    obtain ⟨r99, er99⟩ : ∃ r, r = (slices_partitionOrdered_Id_m xPa0c5 n1l1 n2l1 n11c3) := ⟨_, rfl⟩
                    refine TL.call [true] rfl rfl rfl (slices_partitionOrdered_Id_c _ _ xPa0c5 _ (OwnS.mono wPa0c5 s_c6) (n1l1) (n2l1) (n11c3) (by first | omega | (simp; done) | (simp; omega) | (simp at *; omega)) (by first | omega | (simp; done) | (simp; omega) | (simp at *; omega)) (by first | omega | (simp; done) | (simp; omega) | (simp at *; omega)) (by first | omega | (simp; done) | (simp; omega) | (simp at *; omega)) (by first | omega | (simp; done) | (simp; omega) | (simp at *; omega))) ?_
                    intro v99 H99 L99 s99 q99
                    rw [← er99] at q99
                    obtain ⟨D99_a0, rfl, rfl, w99_a0⟩ := q99
                    have n99_a0_ := OwnS.len w99_a0
                    have tf99 := pp_f _ _ _ _ _ er99 (by first | omega | (simp; done) | (simp; omega) | (simp at *; omega))
                    refine R.mvE rfl (by conv => lhs; whnf) ?_
                    refine R.ext rfl rfl rfl ?_
                    refine R.ext rfl rfl rfl ?_
                    refine R.asE rfl (by conv => lhs; whnf) ?_
                    refine R.asE rfl (by conv => lhs; whnf) ?_
                    refine TL.nil (Post.thnN ?_)
                    refine T.seq ?_
                    refine T.region ?_
                    refine R.mvE rfl (by conv => lhs; whnf) ?_
                    refine R.asE rfl (by conv => lhs; whnf) ?_
                    refine TL.nil (Post.thnN ?_)
                    refine T.seq ?_
                    refine T.region ?_
                    refine R.mvE rfl (by conv => lhs; whnf) ?_
                    refine R.mvE rfl (by conv => lhs; whnf) ?_
                    refine R.subI rfl rfl rfl (by omega) ?_
                    refine R.mvE rfl (by conv => lhs; whnf) ?_
                    refine R.mvE rfl (by conv => lhs; whnf) ?_
                    refine R.subI rfl rfl rfl (by omega) ?_
                    refine R.asE rfl (by conv => lhs; whnf) ?_
                    refine R.asE rfl (by conv => lhs; whnf) ?_
                    refine TL.nil (Post.thnN ?_)
                    refine T.seq ?_
                    refine T.region ?_
                    refine R.mvE rfl (by conv => lhs; whnf) ?_
                    refine R.quoI rfl rfl rfl (by omega) ?_
                    refine R.asE rfl (by conv => lhs; whnf) ?_
                    refine TL.nil (Post.thnN ?_)
                    refine T.seq ?_
                    refine T.region ?_
                    refine R.mvE rfl (by conv => lhs; whnf) ?_
                    refine R.mvE rfl (by conv => lhs; whnf) ?_
                    refine R.lss rfl rfl rfl ?_
                    refine TL.nil (Post.thnN ?_)
                    refine T.condD rfl (fun c113 => ?_) (fun c113 => ?_)
                    · refine T.set 113 (.bool true) (congrArg Value.bool (decide_eq_true c113)) ?_
                      refine T.seq ?_
                      refine T.region ?_
                      refine R.mvE rfl (by conv => lhs; whnf) ?_
                      refine R.mvE rfl (by conv => lhs; whnf) ?_
                      refine R.geq rfl rfl rfl ?_
                      refine R.asE rfl (by conv => lhs; whnf) ?_
                      refine TL.nil (Post.thnN ?_)
                      refine T.seq ?_
                      refine T.region ?_
                      refine R.mvE rfl (by conv => lhs; whnf) ?_
                      refine R.mvE rfl (by conv => lhs; whnf) ?_
                      refine R.mvE rfl (by conv => lhs; whnf) ?_
                      refine R.mvE rfl (by conv => lhs; whnf) ?_
                      obtain ⟨r121, er121⟩ : ∃ r, r = (srt r99.2.2 n1l1 r99.1 n3c2) := ⟨_, rfl⟩
                      refine TL.call [true] rfl rfl rfl (ih _ _ r99.2.2 _ w99_a0 (n1l1) (r99.1) (n3c2) (by first | omega | (simp; done) | (simp; omega) | (simp at *; omega)) (by first | omega | (simp; done) | (simp; omega) | (simp at *; omega)) (by first | omega | (simp; done) | (simp; omega) | (simp at *; omega)) (by first | omega | (simp; done) | (simp; omega) | (simp at *; omega)) (by first | omega | (simp; done) | (simp; omega) | (simp at *; omega)) (by first | omega | (simp; done) | (simp; omega) | (simp at *; omega)) (by first | omega | (simp; done) | (simp; omega) | (simp at *; omega))) ?_
                      intro v121 H121 L121 s121 q121
                      rw [← er121] at q121
                      obtain ⟨D121_a0, rfl, rfl, w121_a0⟩ := q121
                      have n121_a0_ := OwnS.len w121_a0
                      refine TL.nil (Post.thnN ?_)
                      refine T.region ?_
                      refine R.mvE rfl (by conv => lhs; whnf) ?_
                      refine R.addI rfl rfl rfl (by omega) ?_
                      refine R.asE rfl (by conv => lhs; whnf) ?_
                      refine TL.nil (Post.blkN ?_)
                      refine id (Post.thnN ?_)
                      exact ⟨(ml1, (r99.1 + 1), n2l1, n3c2, (decide ((((n2l1 - n1l1) / 8) : Int) ≤ (r99.1 - n1l1))), r99.2.1, r121, D121_a0), (s_l1.trans (s_c2.trans (s46.trans (s_c3.trans (s_c4.trans (s_c5.trans (s_c6.trans (s99.trans s121)))))))), ⟨(by first | omega | (simp; omega) | (simp at *; omega)), (Has.cons .hd Has.nil), w121_a0, (by first | omega | (simp; done) | (simp; omega) | (simp at *; omega)), (by first | omega | (simp; done) | (simp; omega) | (simp at *; omega)), (by first | omega | (simp; done) | (simp; omega) | (simp at *; omega)), (by first | omega | (simp; done) | (simp; omega) | (simp at *; omega)), (by first | omega | (simp; done) | (simp; omega) | (simp at *; omega)), (by first | omega | (simp; done) | (simp; omega) | (simp at *; omega)), (by subst er121; subst er99; subst er46; rw [← hQl1, pdqStep_l1]; rw [if_neg c23, if_neg c29, hTc2, LR.seq_go, LR.seq_go, hTc3, LR.seq_go, hTc4, LR.seq_go, hTc5, LR.on_go, hTc6, LR.seq_go, if_f c87, LR.seq_go, if_pos c113, LR.seq_go])⟩, by show ml1 < ml1 + 1; omega, rfl, rfl, rfl, rfl, rfl, rfl, trivial⟩
                    · refine T.set 113 (.bool false) (congrArg Value.bool (decide_eq_false c113)) ?_
                      refine T.seq ?_
                      refine T.region ?_
                      refine R.mvE rfl (by conv => lhs; whnf) ?_
                      refine R.mvE rfl (by conv => lhs; whnf) ?_
                      refine R.geq rfl rfl rfl ?_
                      refine R.asE rfl (by conv => lhs; whnf) ?_
                      refine TL.nil (Post.thnN ?_)
                      refine T.seq ?_
                      refine T.region ?_
                      refine R.mvE rfl (by conv => lhs; whnf) ?_
                      refine R.mvE rfl (by conv => lhs; whnf) ?_
                      refine R.addI rfl rfl rfl (by omega) ?_
                      refine R.mvE rfl (by conv => lhs; whnf) ?_
                      refine R.mvE rfl (by conv => lhs; whnf) ?_
                      obtain ⟨r132, er132⟩ : ∃ r, r = (srt r99.2.2 ((r99.1 + 1)) n2l1 n3c2) := ⟨_, rfl⟩
                      refine TL.call [true] rfl rfl rfl (ih _ _ r99.2.2 _ w99_a0 ((r99.1 + 1)) (n2l1) (n3c2) (by first | omega | (simp; done) | (simp; omega) | (simp at *; omega)) (by first | omega | (simp; done) | (simp; omega) | (simp at *; omega)) (by first | omega | (simp; done) | (simp; omega) | (simp at *; omega)) (by first | omega | (simp; done) | (simp; omega) | (simp at *; omega)) (by first | omega | (simp; done) | (simp; omega) | (simp at *; omega)) (by first | omega | (simp; done) | (simp; omega) | (simp at *; omega)) (by first | omega | (simp; done) | (simp; omega) | (simp at *; omega))) ?_
                      intro v132 H132 L132 s132 q132
                      rw [← er132] at q132
                      obtain ⟨D132_a0, rfl, rfl, w132_a0⟩ := q132
                      have n132_a0_ := OwnS.len w132_a0
                      refine TL.nil (Post.thnN ?_)
                      refine T.region ?_
                      refine R.mvE rfl (by conv => lhs; whnf) ?_
                      refine R.asE rfl (by conv => lhs; whnf) ?_
                      refine TL.nil (Post.blkN ?_)
                      refine id (Post.thnN ?_)
                      exact ⟨(ml1, n1l1, r99.1, n3c2, (decide ((((n2l1 - n1l1) / 8) : Int) ≤ (n2l1 - r99.1))), r99.2.1, r132, D132_a0), (s_l1.trans (s_c2.trans (s46.trans (s_c3.trans (s_c4.trans (s_c5.trans (s_c6.trans (s99.trans s132)))))))), ⟨(by first | omega | (simp; omega) | (simp at *; omega)), (Has.cons .hd Has.nil), w132_a0, (by first | omega | (simp; done) | (simp; omega) | (simp at *; omega)), (by first | omega | (simp; done) | (simp; omega) | (simp at *; omega)), (by first | omega | (simp; done) | (simp; omega) | (simp at *; omega)), (by first | omega | (simp; done) | (simp; omega) | (simp at *; omega)), (by first | omega | (simp; done) | (simp; omega) | (simp at *; omega)), (by first | omega | (simp; done) | (simp; omega) | (simp at *; omega)), (by subst er132; subst er99; subst er46; rw [← hQl1, pdqStep_l1]; rw [if_neg c23, if_neg c29, hTc2, LR.seq_go, LR.seq_go, hTc3, LR.seq_go, hTc4, LR.seq_go, hTc5, LR.on_go, hTc6, LR.seq_go, if_f c87, LR.seq_go, if_neg c113, LR.seq_go])⟩, by show ml1 < ml1 + 1; omega, rfl, rfl, rfl, rfl, rfl, rfl, trivial⟩

end Go.SX

set_option linter.unusedVariables false
set_option linter.unusedSimpArgs false
namespace Go.SX
open Go
theorem part_rng (lt : Int → Int → Bool) (a : Nat) : ∀ (k i j : Nat) (d : Array Int), j + 1 - i ≤ k → a + 1 ≤ i → a ≤ j → a ≤ (Sort.partLoop lt a i j d).1 ∧ (Sort.partLoop lt a i j d).1 ≤ j
  | k, i, j, d, h, h1, h2 => by
    rw [Sort.partLoop]
    have hu := scanUp_le (fun x => lt x d[a]!) d j (j + 1 - i) i (Nat.le_refl _)
    generalize Sort.scanUp (fun x => lt x d[a]!) d j i = i2 at *
    have hd := scanDown_le (fun x => !lt x d[a]!) d i2 (by omega) j
    have hz : i2 > j → Sort.scanDown (fun x => !lt x d[a]!) d i2 j = j := fun hij => by
      cases j with
      | zero => rw [Sort.scanDown]
      | succ j => rw [Sort.scanDown, decide_eq_false (show ¬ i2 ≤ j + 1 by omega), Bool.false_and, if_neg Bool.false_ne_true]
    generalize Sort.scanDown (fun x => !lt x d[a]!) d i2 j = j2 at *
    have ha : a ≤ j2 := by
      by_cases hij : i2 > j
      · have := hz hij; omega
      · omega
    by_cases hc : i2 > j2
    · rw [if_pos hc]; exact ⟨ha, hd.1⟩
    · rw [if_neg hc]
      split
      · cases k with
        | zero => omega
        | succ k => have := part_rng lt a k (i2 + 1) (j2 - 1) (Sort.swp d i2 j2) (by omega) (by omega) (by omega); omega
      · exact ⟨ha, hd.1⟩
theorem partition_rng (lt : Int → Int → Bool) (d : Array Int) (a b p : Nat) (hab : a < b) : a ≤ (Sort.partition lt d a b p).1 ∧ (Sort.partition lt d a b p).1 < b := by
  unfold Sort.partition
  simp only
  generalize Sort.swp d a p = d
  have hu := scanUp_le (fun x => lt x d[a]!) d (b - 1) (b - 1 + 1 - (a + 1)) (a + 1) (Nat.le_refl _)
  generalize Sort.scanUp (fun x => lt x d[a]!) d (b - 1) (a + 1) = i at *
  have hd := scanDown_le (fun x => !lt x d[a]!) d i (by omega) (b - 1)
  generalize Sort.scanDown (fun x => !lt x d[a]!) d i (b - 1) = j at *
  by_cases hc : i > j
  · rw [if_pos hc]; simp only; omega
  · rw [if_neg hc]
    have := part_rng lt a (j - 1 + 1 - (i + 1)) (i + 1) (j - 1) (Sort.swp d i j) (Nat.le_refl _) (by omega) (by omega)
    simp only; omega
theorem hint2 (h : Sort.Hint) : (hintN h = 2) ↔ h = .decreasing := by cases h <;> simp [hintN]
theorem hint1 (h : Sort.Hint) : decide (hintN h = 1) = decide (h = .increasing) := by cases h <;> simp [hintN]
theorem so_body (srt : List Int → Int → Int → Int → List Int) (hs : ∀ (xs : List Int) (a b lim : Nat), srt xs (a : Int) (b : Int) (lim : Int) = (Sort.pdq Sort.ltInt xs.toArray a b lim true true).toList) :
    ∀ (k a b lim m : Nat) (wb wp : Bool) (xs : List Int), b - a ≤ k → k < m → a ≤ b → b ≤ 4000000 →
      LR.on (pdqStep_l1 srt m ((a : Int), (b : Int), (lim : Int), wb, wp, xs)) (fun r => r) (fun _ => default) = (Sort.pdq Sort.ltInt xs.toArray a b lim wb wp).toList
  | k, a, b, lim, 0, wb, wp, xs, _, h, _, _ => by omega
  | k, a, b, lim, m + 1, wb, wp, xs, h1, h2, h3, h4 => by
    rw [pdqStep_l1, Sort.pdq]
    by_cases h12 : b - a ≤ 12
    · rw [if_pos (show (b : Int) - (a : Int) ≤ 12 by omega), if_pos h12, LR.seq_go, LR.on_ret, so_ins]
    rw [if_neg (show ¬ (b : Int) - (a : Int) ≤ 12 by omega), if_neg h12]
    by_cases h0 : lim = 0
    · rw [if_pos (show (lim : Int) = 0 by omega), if_pos h0, LR.seq_go, LR.on_ret, so_heap _ _ _ (by omega)]
    rw [if_neg (show ¬ (lim : Int) = 0 by omega), if_neg h0]
    simp only [LR.seq_go]
    have e2 : (if (!wb) = true then ((lim : Int) - 1, slices_breakPatternsOrdered_Id_m xs (a : Int) (b : Int)) else ((lim : Int), xs)) = (((if (!wb) = true then lim - 1 else lim : Nat) : Int), (if (!wb) = true then Sort.breakPatterns xs.toArray a b else xs.toArray).toList) := by
      cases wb with
      | true => rfl
      | false =>
        show ((lim : Int) - 1, slices_breakPatternsOrdered_Id_m xs (a : Int) (b : Int)) = (((lim - 1 : Nat) : Int), (Sort.breakPatterns xs.toArray a b).toList)
        rw [so_break xs a b (by omega) h4]; exact Prod.ext (by simp only; omega) rfl
    rw [e2]
    generalize (if (!wb) = true then lim - 1 else lim) = lim'
    obtain ⟨ys, hys⟩ : ∃ ys : List Int, (if (!wb) = true then Sort.breakPatterns xs.toArray a b else xs.toArray) = ys.toArray := ⟨_, (Array.toArray_toList).symm⟩
    rw [hys]
    simp only
    rw [so_choose ys a b (by omega)]
    have hc := Sort.choosePivot_holds Sort.ltInt ys.toArray a b (by omega)
    generalize Sort.choosePivot Sort.ltInt ys.toArray a b = c at *
    simp only
    have e3 : (if hintN c.2 = 2 then (((b : Int) - 1 - ((c.1 : Int) - (a : Int))), (1 : Int), slices_reverseRangeOrdered_Id_m ys (a : Int) (b : Int)) else ((c.1 : Int), hintN c.2, ys)) = (((if c.2 = .decreasing then b - 1 - (c.1 - a) else c.1 : Nat) : Int), hintN (if c.2 = .decreasing then .increasing else c.2), (if c.2 = .decreasing then Sort.reverseRange ys.toArray a b else ys.toArray).toList) := by
      by_cases hd : c.2 = .decreasing
      · rw [if_pos ((hint2 _).2 hd), if_pos hd, if_pos hd, if_pos hd, so_rev ys a b (by omega)]
        exact Prod.ext (by simp only; omega) rfl
      · rw [if_neg (fun q => hd ((hint2 _).1 q)), if_neg hd, if_neg hd, if_neg hd]
    rw [e3]
    have hpv : a ≤ (if c.2 = .decreasing then b - 1 - (c.1 - a) else c.1) ∧ (if c.2 = .decreasing then b - 1 - (c.1 - a) else c.1) < b := by split <;> omega
    generalize (if c.2 = .decreasing then b - 1 - (c.1 - a) else c.1) = p at *
    generalize (if c.2 = .decreasing then Sort.Hint.increasing else c.2) = hh
    obtain ⟨zs, hzs⟩ : ∃ zs : List Int, (if c.2 = .decreasing then Sort.reverseRange ys.toArray a b else ys.toArray) = zs.toArray := ⟨_, (Array.toArray_toList).symm⟩
    rw [hzs]
    simp only
    have e4 : (if wb = true then (if wp = true then decide (hintN hh = 1) else false) else false) = (wb && wp && decide (hh = .increasing)) := by rw [hint1]; cases wb <;> cases wp <;> rfl
    rw [e4]
    have tail : ∀ ws : List Int, LR.on (if (if (0 : Int) < (a : Int) then (!(cmp_Less_Id_m (ws.getD ((a : Int) - 1).toNat 0) (ws.getD (p : Int).toNat 0))) else false) = true then
          pdqStep_l1 srt m ((slices_partitionEqualOrdered_Id_m ws (a : Int) (b : Int) (p : Int)).1, (b : Int), (lim' : Int), wb, wp, (slices_partitionEqualOrdered_Id_m ws (a : Int) (b : Int) (p : Int)).2)
        else if (slices_partitionOrdered_Id_m ws (a : Int) (b : Int) (p : Int)).1 - (a : Int) < (b : Int) - (slices_partitionOrdered_Id_m ws (a : Int) (b : Int) (p : Int)).1 then
          pdqStep_l1 srt m ((slices_partitionOrdered_Id_m ws (a : Int) (b : Int) (p : Int)).1 + 1, (b : Int), (lim' : Int), decide (((b : Int) - (a : Int)) / 8 ≤ (slices_partitionOrdered_Id_m ws (a : Int) (b : Int) (p : Int)).1 - (a : Int)), (slices_partitionOrdered_Id_m ws (a : Int) (b : Int) (p : Int)).2.1, srt (slices_partitionOrdered_Id_m ws (a : Int) (b : Int) (p : Int)).2.2 (a : Int) (slices_partitionOrdered_Id_m ws (a : Int) (b : Int) (p : Int)).1 (lim' : Int))
        else
          pdqStep_l1 srt m ((a : Int), (slices_partitionOrdered_Id_m ws (a : Int) (b : Int) (p : Int)).1, (lim' : Int), decide (((b : Int) - (a : Int)) / 8 ≤ (b : Int) - (slices_partitionOrdered_Id_m ws (a : Int) (b : Int) (p : Int)).1), (slices_partitionOrdered_Id_m ws (a : Int) (b : Int) (p : Int)).2.1, srt (slices_partitionOrdered_Id_m ws (a : Int) (b : Int) (p : Int)).2.2 ((slices_partitionOrdered_Id_m ws (a : Int) (b : Int) (p : Int)).1 + 1) (b : Int) (lim' : Int))) (fun r => r) (fun _ => default)
        = (if (decide (a > 0) && !Sort.ltInt ws.toArray[a - 1]! ws.toArray[p]!) = true then
            match Sort.partitionEqual Sort.ltInt ws.toArray a b p with
            | (mid, d4) => if _h : a < mid ∧ mid ≤ b then Sort.pdq Sort.ltInt d4 mid b lim' wb wp else d4
          else
            match Sort.partition Sort.ltInt ws.toArray a b p with
            | (mid, alreadyPartitioned, d4) =>
              if _h : a ≤ mid ∧ mid < b then
                if mid - a < b - mid then
                  Sort.pdq Sort.ltInt (Sort.pdq Sort.ltInt d4 a mid lim' true true) (mid + 1) b lim' (decide (mid - a ≥ (b - a) / 8)) alreadyPartitioned
                else
                  Sort.pdq Sort.ltInt (Sort.pdq Sort.ltInt d4 (mid + 1) b lim' true true) a mid lim' (decide (b - mid ≥ (b - a) / 8)) alreadyPartitioned
              else d4).toList := fun ws => by
      rw [so_ifd, so_less, show decide ((0 : Int) < (a : Int)) = decide (a > 0) by rw [decide_eq_decide]; omega, show ((a : Int) - 1).toNat = a - 1 by omega, Int.toNat_natCast, so_get, so_get]
      cases hq : (decide (a > 0) && !Sort.ltInt (ws.getD (a - 1) 0) (ws.getD p 0)) with
      | true =>
        rw [if_pos rfl, if_pos rfl, so_pe ws a b p (by omega)]
        have hr := partEq_rng Sort.ltInt a (b - 1 + 1 - (a + 1)) (a + 1) (b - 1) (Sort.swp ws.toArray a p) (Nat.le_refl _) (by omega)
        change a + 1 ≤ (Sort.partitionEqual Sort.ltInt ws.toArray a b p).1 ∧ (Sort.partitionEqual Sort.ltInt ws.toArray a b p).1 ≤ max (a + 1) (b - 1 + 1) at hr
        generalize Sort.partitionEqual Sort.ltInt ws.toArray a b p = q at *
        obtain ⟨mid, d4⟩ := q
        dsimp only [pairI2] at *
        rw [dif_pos (by omega)]
        cases k with
        | zero => omega
        | succ k =>
          have := so_body srt hs k mid b lim' m wb wp d4.toList (by omega) (by omega) (by omega) h4
          rw [Array.toArray_toList] at this
          exact this
      | false =>
        rw [if_neg Bool.false_ne_true, if_neg Bool.false_ne_true, so_pp ws a b p (by omega)]
        have hr := partition_rng Sort.ltInt ws.toArray a b p (by omega)
        generalize Sort.partition Sort.ltInt ws.toArray a b p = q at *
        obtain ⟨mid, al, d4⟩ := q
        dsimp only [trip] at *
        rw [dif_pos hr]
        cases k with
        | zero => omega
        | succ k =>
          change LR.on (if (mid : Int) - (a : Int) < (b : Int) - (mid : Int) then pdqStep_l1 srt m ((mid : Int) + 1, (b : Int), (lim' : Int), decide (((b : Int) - (a : Int)) / 8 ≤ (mid : Int) - (a : Int)), al, srt d4.toList (a : Int) (mid : Int) (lim' : Int)) else pdqStep_l1 srt m ((a : Int), (mid : Int), (lim' : Int), decide (((b : Int) - (a : Int)) / 8 ≤ (b : Int) - (mid : Int)), al, srt d4.toList ((mid : Int) + 1) (b : Int) (lim' : Int))) (fun r => r) (fun _ => default) = _
          by_cases hm : mid - a < b - mid
          · refine (congrArg (fun z => LR.on z (fun r => r) (fun _ => default)) (if_pos (show (mid : Int) - (a : Int) < (b : Int) - (mid : Int) by omega))).trans ?_
            rw [if_pos hm, hs, Array.toArray_toList, show (mid : Int) + 1 = ((mid + 1 : Nat) : Int) by omega, show decide (((b : Int) - (a : Int)) / 8 ≤ (mid : Int) - (a : Int)) = decide (mid - a ≥ (b - a) / 8) by rw [decide_eq_decide]; omega]
            have := so_body srt hs k (mid + 1) b lim' m (decide (mid - a ≥ (b - a) / 8)) al (Sort.pdq Sort.ltInt d4 a mid lim' true true).toList (by omega) (by omega) (by omega) h4
            rw [Array.toArray_toList] at this
            exact this
          · refine (congrArg (fun z => LR.on z (fun r => r) (fun _ => default)) (if_neg (show ¬ (mid : Int) - (a : Int) < (b : Int) - (mid : Int) by omega))).trans ?_
            rw [if_neg hm, show (mid : Int) + 1 = ((mid + 1 : Nat) : Int) by omega, hs, Array.toArray_toList, show decide (((b : Int) - (a : Int)) / 8 ≤ (b : Int) - (mid : Int)) = decide (b - mid ≥ (b - a) / 8) by rw [decide_eq_decide]; omega]
            have := so_body srt hs k a mid lim' m (decide (b - mid ≥ (b - a) / 8)) al (Sort.pdq Sort.ltInt d4 (mid + 1) b lim' true true).toList (by omega) (by omega) (by omega) (by omega)
            rw [Array.toArray_toList] at this
            exact this
    cases hq : (wb && wp && decide (hh = .increasing)) with
    | false =>
      rw [if_neg Bool.false_ne_true, if_neg Bool.false_ne_true, LR.on_go, if_neg Bool.false_ne_true]
      exact tail zs
    | true =>
      rw [if_pos rfl, if_pos rfl, so_part zs a b (by omega)]
      generalize Sort.partialInsertionSort Sort.ltInt zs.toArray a b = q
      obtain ⟨d3, fin⟩ := q
      simp only [pairL]
      cases fin with
      | true => rfl
      | false =>
        have := tail d3.toList
        rw [Array.toArray_toList] at this
        exact this
/-- slices.Sort's answer, by the library's plain functions -/
def pdqM (xs : List Int) (a b lim : Int) : List Int := (Sort.pdq Sort.ltInt xs.toArray a.toNat b.toNat lim.toNat true true).toList
theorem pdqM_step (xs : List Int) (a b lim : Int) (h0 : 0 ≤ a) (h1 : a ≤ b) (h2 : b ≤ 4000000) (h3 : 0 ≤ lim) : pdqStep_m pdqM xs a b lim = pdqM xs a b lim := by
  obtain ⟨a, rfl⟩ : ∃ n : Nat, a = n := ⟨a.toNat, by omega⟩
  obtain ⟨b, rfl⟩ : ∃ n : Nat, b = n := ⟨b.toNat, by omega⟩
  obtain ⟨lim, rfl⟩ : ∃ n : Nat, lim = n := ⟨lim.toNat, by omega⟩
  unfold pdqStep_m
  rw [so_body pdqM (fun xs a b lim => by unfold pdqM; simp only [Int.toNat_natCast]) (b - a) a b lim _ true true xs (Nat.le_refl _) (by omega) (by omega) (by omega)]
  unfold pdqM; simp only [Int.toNat_natCast]
theorem pdqM_sort (xs : List Int) (lim : Int) : pdqM xs 0 (xs.length : Int) lim = sortI xs := by
  unfold pdqM
  simp only [Int.toNat_natCast]
  have h := Sort.pdq_sorts Sort.ltInt Sort.swo_ltInt xs.toArray 0 xs.length lim.toNat true true (Nat.zero_le _) (by simp) (.inl rfl)
  have := Sort.sorted_unique_holds Sort.swo_ltInt (fun x y h1 h2 => by unfold Sort.ltInt at h1 h2; rw [decide_eq_false_iff_not] at h1 h2; omega) xs.toArray (Sort.pdq Sort.ltInt xs.toArray 0 xs.length lim.toNat true true) (by simpa using h.1) (by simpa using h.2)
  rw [show (0 : Int).toNat = 0 from rfl, this]
  unfold sortI
  simp only [List.toList_toArray]
  congr 1
  funext x y
  unfold Sort.ltInt
  rw [← decide_not]
  rw [decide_eq_decide]; omega
end Go.SX

set_option linter.unusedVariables false
set_option linter.unusedSimpArgs false
namespace Go.SX
open Go Go.Proofs

theorem pdqAll : ∀ (N : Nat) (H : Heap) (v0 : Value) (xs : List Int) (C : Chunk), OwnS (intE .u64) 26 H v0 xs C → ∀ (a b lim : Int), 0 ≤ a → a ≤ b → b ≤ (xs.length : Int) → xs.length ≤ 4000000 → 0 ≤ lim → lim ≤ 100 → b - a < (N : Int) →
    Fc Try.prog (fnv 66) [v0, .int .i64 a, .int .i64 b, .int .i64 lim] H [C] (fun v1 H1 L1 => ∃ D, v1 = .tuple #[] ∧ L1 = [D] ∧ OwnS (intE .u64) 26 H1 v0 (pdqM xs a b lim) D)
  | 0, H, v0, xs, C, ho, a, b, lim, h1, h2, h3, h4, h5, h6, h7 => by omega
  | N + 1, H, v0, xs, C, ho, a, b, lim, h1, h2, h3, h4, h5, h6, h7 => by
    rw [← pdqM_step xs a b lim h1 h2 (by omega) h5]
    exact pdqStep_c H v0 xs C ho a b lim N pdqM (pdqAll N) h1 h2 h3 h4 h5 h6 (by omega)
theorem pdqF_c (H : Heap) (v0 : Value) (xs : List Int) (C : Chunk) (ho : OwnS (intE .u64) 26 H v0 xs C) (a b lim : Int) (h1 : 0 ≤ a) (h2 : a ≤ b) (h3 : b ≤ (xs.length : Int)) (h4 : xs.length ≤ 4000000) (h5 : 0 ≤ lim) (h6 : lim ≤ 100) :
    Fc Try.prog (fnv 66) [v0, .int .i64 a, .int .i64 b, .int .i64 lim] H [C] (fun v1 H1 L1 => ∃ D, v1 = .tuple #[] ∧ L1 = [D] ∧ OwnS (intE .u64) 26 H1 v0 (pdqM xs a b lim) D) :=
  pdqAll ((b - a).toNat + 1) H v0 xs C ho a b lim h1 h2 h3 h4 h5 h6 (by omega)
theorem blen_le (n : Nat) (h : n ≤ 4000000) : 0 ≤ blen (n : Int) ∧ blen (n : Int) ≤ 100 := by
  have hl : Sort.bitsLen n ≤ 22 := (Sort.bitsLen_le_iff n 22).2 (by omega)
  unfold blen
  rw [Int.toNat_natCast, Go.Proofs.bitLen_eq n (by omega)]
  omega
def slices_Sort_Id_m (a0 : List Int) : (List Int) :=
  LR.seq (pdqM a0 0 ((a0.length : Int)) ((blen ((a0.length : Int))))) (fun r10 => r10)
set_option maxHeartbeats 3200000 in
theorem slices_Sort_Id_c (H : Heap) (va0 : Value) (a0 : List Int) (Ca0 : Chunk) (ha0 : OwnS (intE .u64) 26 H va0 a0 Ca0) (hl : a0.length ≤ 4000000) : Fc Try.prog (fnv 17) [va0] H [Ca0] (fun v' H' L' => ∃ Da0, v' = .tuple #[] ∧ L' = [Da0] ∧ OwnS (intE .u64) 26 H' va0 (slices_Sort_Id_m a0) Da0) := by
  refine Fc.of_body (N := 11) Try.func17 rfl (by kernel_rfl) rfl rfl ?_
  intro w0
  obtain ⟨Aa0, pa0, rfl, ma0, na0⟩ := OwnS.shape ha0
  refine T.seq ?_
  refine T.region ?_
  refine R.mvE rfl (by conv => lhs; whnf) ?_
  refine R.len Try.underlying22 rfl rfl ?_
  refine R.asE rfl (by conv => lhs; whnf) ?_
  refine TL.nil (Post.thnN ?_)
  have hb := blen_le a0.length hl
  refine T.region ?_
  refine R.mvE rfl (by conv => lhs; whnf) ?_
  refine R.mvE rfl (by conv => lhs; whnf) ?_
  refine R.mvE rfl (by conv => lhs; whnf) ?_
  refine R.convU Try.underlying3 Try.underlying88 rfl rfl (by omega) ?_
  refine R.callv rfl rfl rfl (blen_c _ ((a0.length : Int)) (by first | omega | (simp; done) | (simp; omega) | (simp at *; omega)) (by first | omega | (simp; done) | (simp; omega) | (simp at *; omega))) ?_
  obtain ⟨r10, er10⟩ : ∃ r, r = (pdqM a0 0 ((a0.length : Int)) ((blen ((a0.length : Int))))) := ⟨_, rfl⟩
  refine TL.call [true] rfl rfl rfl (pdqF_c _ _ a0 _ ha0 (0) ((a0.length : Int)) ((blen ((a0.length : Int)))) (by first | omega | (simp; done) | (simp; omega) | (simp at *; omega)) (by first | omega | (simp; done) | (simp; omega) | (simp at *; omega)) (by first | omega | (simp; done) | (simp; omega) | (simp at *; omega)) (by first | omega | (simp; done) | (simp; omega) | (simp at *; omega)) (by first | omega | (simp; done) | (simp; omega) | (simp at *; omega)) (by first | omega | (simp; done) | (simp; omega) | (simp at *; omega))) ?_
  intro v10 H10 L10 s10 q10
  rw [← er10] at q10
  obtain ⟨D10_a0, rfl, rfl, w10_a0⟩ := q10
  have n10_a0_ := OwnS.len w10_a0
  refine TL.nil ?_
  have hM : slices_Sort_Id_m a0 = r10 := by subst er10; rw [slices_Sort_Id_m, LR.seq_go]
  exact fin0N [D10_a0] rfl (List.Sublist.cons_cons _ (List.nil_sublist _)) ⟨D10_a0, by first | rw [hM] | rfl, by first | rw [hM] | rfl, by rw [hM]; exact w10_a0⟩

theorem slices_Sort_Id_sort (a0 : List Int) : slices_Sort_Id_m a0 = sortI a0 := by
  unfold slices_Sort_Id_m
  simp only [LR.seq_go]
  exact pdqM_sort a0 _
end Go.SX

set_option linter.unusedVariables false
set_option linter.unusedSimpArgs false
namespace Go.SX
open Go Go.Proofs
def windroselaw03_TypesPairs_l4  : List Int → ((List Int)) → (List Int)
  | [], sl4 => sl4
  | yl4 :: ysl4, sl4 => LR.seq (ident_Parts_m yl4) (fun r106 => windroselaw03_TypesPairs_l4 ysl4 ((sl4 ++ [r106.2])))
def windroselaw03_TypesPairs_l2 (r31 : (List Int)) : List Int → Unit → LR (Bool) (Unit)
  | [], sl2 => .go ()
  | yl2 :: ysl2, sl2 => if ((decide (yl2 ∈ r31)) != (decide (((kindG yl2) : Int) = 3))) = true then (.ret false) else (windroselaw03_TypesPairs_l2 r31 ysl2 ())
def windroselaw03_TypesPairs_m (a0 : List Int) (a1 : Int) : Bool :=
  if (!windroselaw03_wakes_m) = true then false else (LR.seq (windroselaw03_few_m a0) (fun r24 => LR.seq (ident_Pair_m 0 0) (fun r26 => LR.seq (types_Taken_m r24 r26.1) (fun r31 => LR.seq (if r26.2 ≠ 0 then true else ((decide (((types_Check_m r24) : Int) ≠ 0))) : Bool) (fun sc1 => if sc1 = true then (if r26.2 = 0 then ((decide ((r31.length : Int) = 0))) else false) else (LR.on (windroselaw03_TypesPairs_l2 r31 r24 ()) (fun r => r) (fun ol2 => LR.seq (ident_Pair_m a1 0) (fun r62 => LR.seq (ident_Pair_m 0 a1) (fun r67 => LR.seq (types_Mentions_m r24 a1) (fun r72 => LR.seq (if r62.2 ≠ 0 then true else (if r67.2 ≠ 0 then true else ((decide (a1 = 0)))) : Bool) (fun sc3 => if sc3 = true then ((decide ((r72.length : Int) = 0))) else (LR.seq (types_Taken_m r24 r62.1) (fun r88 => LR.seq (types_Taken_m r24 r67.1) (fun r91 => LR.seq (slices_Concat_Id_m ([r88, r91])) (fun r93 => LR.seq (slices_Sort_Id_m r93) (fun r95 => LR.seq (types_Taken_m r24 r62.1) (fun r98 => LR.seq (windroselaw03_TypesPairs_l4 r98 []) (fun ol4 => LR.seq (slices_Compact_Id_m r95) (fun r115 => if r115 = r72 then (LR.seq (types_Targets_m r24 a1) (fun r121 => (decide (r121 = ol4)))) else false)))))))))))))))))))
set_option maxHeartbeats 3200000 in
theorem windroselaw03_TypesPairs_c (H : Heap) (va0 : Value) (a0 : List Int) (ha0 : RdS (intE .u64) H va0 a0) (a1 : Int) : Fv Try.prog (fnv 3) [va0, .int .i64 a1] H (.bool (windroselaw03_TypesPairs_m a0 a1)) := by
  refine Fc.of_body (N := 125) Try.func3 rfl (by kernel_rfl) rfl rfl ?_
  intro w0
  obtain ⟨Aa0, ca0, rfl, hca0, hda0, ha0⟩ := ha0.shape
  refine T.seq ?_
  refine T.region ?_
  refine R.asE rfl (by conv => lhs; whnf) ?_
  refine TL.nil (Post.thnN ?_)
  refine T.seq ?_
  refine T.seq ?_
  refine T.region ?_
  refine R.callv rfl rfl rfl (windroselaw03_wakes_c _ ) ?_
  refine R.not rfl rfl ?_
  refine TL.nil (Post.thnN ?_)
  refine T.cond rfl (fun c22 => ?_) (fun c22 => ?_)
  · refine T.set 22 (.bool true) (congrArg Value.bool c22) ?_
    refine T.seq ?_
    refine T.region ?_
    refine R.asE rfl (by conv => lhs; whnf) ?_
    refine TL.nil (Post.thnN ?_)
    refine T.has Has.nil ?_
    refine T.ret (Post.thnR ?_)
    have hM : windroselaw03_TypesPairs_m a0 a1 = false := by rw [windroselaw03_TypesPairs_m, if_t c22]
    exact fin1L (v := .bool false) [] rfl rfl (List.Sublist.refl _) ⟨rfl, by first | rw [hM] | rfl⟩
  · refine T.set 22 (.bool false) (congrArg Value.bool c22) ?_
    refine T.skip (Post.thnN ?_)
    refine T.seq ?_
    refine T.region ?_
    refine R.mvE rfl (by conv => lhs; whnf) ?_
    obtain ⟨r24, er24⟩ : ∃ r, r = (windroselaw03_few_m a0) := ⟨_, rfl⟩
    refine TL.call [] rfl rfl rfl (windroselaw03_few_c _ _ a0 ha0) ?_
    intro v24 H24 L24 s24 q24
    rw [← er24] at q24
    obtain ⟨u24_0_0, c24_0_0, rfl, rfl, w24_0_0⟩ := q24
    obtain ⟨A24_0_0, p24_0_0, rfl, m24_0_0, n24_0_0⟩ := OwnS.shape w24_0_0
    have tz24 : r24.length ≤ 20 := by rw [er24]; simp only [windroselaw03_few_m, List.length_take]; omega
    refine R.asE rfl (by conv => lhs; whnf) ?_
    refine TL.nil (Post.thnN ?_)
    refine T.seq ?_
    refine T.region ?_
    obtain ⟨r26, er26⟩ : ∃ r, r = (ident_Pair_m 0 0) := ⟨_, rfl⟩
    refine R.callv (v := .tuple #[.int .u64 r26.1, .int .i64 r26.2]) rfl rfl rfl (by rw [er26]; exact ident_Pair_c _ (0) (0)) ?_
    refine R.mvE rfl (by conv => lhs; whnf) ?_
    refine R.ext rfl rfl rfl ?_
    refine R.ext rfl rfl rfl ?_
    refine R.asE rfl (by conv => lhs; whnf) ?_
    refine R.asE rfl (by conv => lhs; whnf) ?_
    refine TL.nil (Post.thnN ?_)
    refine T.seq ?_
    refine T.region ?_
    refine R.mvE rfl (by conv => lhs; whnf) ?_
    refine R.mvE rfl (by conv => lhs; whnf) ?_
    refine TL.shut .hd ?_
    intro HF24_0_0_1 sF24_0_0_1 qF24_0_0_1
    have fF24_0_0_1 := OwnS.read w24_0_0 sF24_0_0_1 qF24_0_0_1
    obtain ⟨r31, er31⟩ : ∃ r, r = (types_Taken_m r24 r26.1) := ⟨_, rfl⟩
    refine TL.call [] rfl rfl rfl (types_Taken_c _ _ r24 fF24_0_0_1 (r26.1) (by first | omega | (simp; done) | (simp; omega) | (simp at *; omega))) ?_
    intro v31 H31 L31 s31 q31
    rw [← er31] at q31
    obtain ⟨u31_0_0, c31_0_0, rfl, rfl, w31_0_0⟩ := q31
    obtain ⟨A31_0_0, p31_0_0, rfl, m31_0_0, n31_0_0⟩ := OwnS.shape w31_0_0
    have tk31 := taken_len _ _ _ er31
    refine R.asE rfl (by conv => lhs; whnf) ?_
    refine TL.nil (Post.thnN ?_)
    refine T.seq ?_
    refine T.seq ?_
    refine T.cutK (ι := Bool) (fun b38c1 H' L' ds' => Has L' [c31_0_0] ∧ (if r26.2 ≠ 0 then true else ((decide (((types_Check_m r24) : Int) ≠ 0))) : Bool) = b38c1) (fun b38c1 => [(1, .int .i64 a1), (5, .slice A24_0_0 r24.length p24_0_0), (7, .int .i64 (r26.2)), (8, .slice A31_0_0 r31.length p31_0_0), (38, .bool (b38c1))]) ?_ ?_
    · refine T.region ?_
      refine R.mvE rfl (by conv => lhs; whnf) ?_
      refine R.neq rfl rfl rfl ?_
      refine R.mvE rfl (by conv => lhs; whnf) ?_
      refine TL.gsplitD 34 rfl (fun g34 => ?_) (fun g34 => ?_)
      · refine TL.off rfl rfl rfl ?_
        refine TL.off rfl rfl rfl ?_
        refine TL.off rfl rfl rfl ?_
        refine R.pkTE rfl rfl (by conv => lhs; whnf) ?_
        refine TL.nil (Post.thnN ?_)
        exact ⟨true, HLe.refl _, ⟨(Has.cons .hd Has.nil), (by rw [if_pos g34])⟩, rfl, rfl, rfl, rfl, rfl, trivial⟩
      · refine R.mvE rfl (by conv => lhs; whnf) ?_
        refine R.callv rfl rfl rfl (types_Check_c _ _ r24 (fF24_0_0_1.mono s31)) ?_
        refine R.neq rfl rfl rfl ?_
        refine R.pkFE rfl rfl (by conv => lhs; whnf) ?_
        refine TL.nil (Post.thnN ?_)
        exact ⟨(decide (((types_Check_m r24) : Int) ≠ 0)), HLe.refl _, ⟨(Has.cons .hd Has.nil), (by rw [if_neg g34])⟩, rfl, rfl, rfl, rfl, rfl, trivial⟩
    · intro b38c1 σ_c1 H_c1 L_c1 ds_c1 s_c1 hI_c1
      obtain ⟨hLc1, hTc1⟩ := hI_c1
      refine T.has hLc1 ?_
      refine T.cond rfl (fun c38 => ?_) (fun c38 => ?_)
      · refine T.set 38 (.bool true) (congrArg Value.bool c38) ?_
        have hZ38 := hTc1.trans c38
        try simp only [or_f, or_t, and_f, and_t, decide_eq_true_eq, decide_eq_false_iff_not, Bool.not_eq_true'] at hZ38
        refine T.seq ?_
        refine T.region ?_
        refine R.mvE rfl (by conv => lhs; whnf) ?_
        refine R.eql rfl rfl rfl ?_
        refine R.mvE rfl (by conv => lhs; whnf) ?_
        refine TL.gsplitD 41 rfl (fun g41 => ?_) (fun g41 => ?_)
        · refine R.mvE rfl (by conv => lhs; whnf) ?_
          refine R.len Try.underlying22 rfl rfl ?_
          refine R.eql rfl rfl rfl ?_
          refine R.pkTE rfl rfl (by conv => lhs; whnf) ?_
          refine R.asE rfl (by conv => lhs; whnf) ?_
          refine TL.nil (Post.thnN ?_)
          refine T.has Has.nil ?_
          refine T.ret (Post.thnR ?_)
          have hM : windroselaw03_TypesPairs_m a0 a1 = (decide ((r31.length : Int) = 0)) := by subst er31; subst er26; subst er24; rw [windroselaw03_TypesPairs_m, if_f c22, LR.seq_go, LR.seq_go, LR.seq_go, hTc1, LR.seq_go, if_t c38, if_pos g41]
          exact fin1L (v := .bool (decide ((r31.length : Int) = 0))) [] rfl rfl (List.Sublist.refl _) ⟨rfl, by first | rw [hM] | rfl⟩
        · refine TL.off rfl rfl rfl ?_
          refine TL.off rfl rfl rfl ?_
          refine TL.off rfl rfl rfl ?_
          refine R.pkFE rfl rfl (by conv => lhs; whnf) ?_
          refine R.asE rfl (by conv => lhs; whnf) ?_
          refine TL.nil (Post.thnN ?_)
          refine T.has Has.nil ?_
          refine T.ret (Post.thnR ?_)
          have hM : windroselaw03_TypesPairs_m a0 a1 = false := by subst er31; subst er26; subst er24; rw [windroselaw03_TypesPairs_m, if_f c22, LR.seq_go, LR.seq_go, LR.seq_go, hTc1, LR.seq_go, if_t c38, if_neg g41]
          exact fin1L (v := .bool false) [] rfl rfl (List.Sublist.refl _) ⟨rfl, by first | rw [hM] | rfl⟩
      · refine T.set 38 (.bool false) (congrArg Value.bool c38) ?_
        have hZ38 := hTc1.trans c38
        try simp only [or_f, or_t, and_f, and_t, decide_eq_true_eq, decide_eq_false_iff_not, Bool.not_eq_true'] at hZ38
        refine T.skip (Post.thnN ?_)
        refine T.seq ?_
        refine T.seq ?_
        refine T.region ?_
        refine R.mvE rfl (by conv => lhs; whnf) ?_
        refine R.len Try.underlying22 rfl rfl ?_
        refine R.mvE rfl (by conv => lhs; whnf) ?_
        refine TL.nil (Post.thnN ?_)
        refine T.block ?_
        refine T.shut .hd ?_
        intro HF31_0_0_2 sF31_0_0_2 qF31_0_0_2
        have fF31_0_0_2 := OwnS.read (OwnS.mono w31_0_0 s_c1) sF31_0_0_2 qF31_0_0_2
        refine T.loop (ι := Nat) (fun kl2 H' L' ds' => kl2 ≤ r24.length ∧ Has L' [] ∧ windroselaw03_TypesPairs_l2 r31 (r24.drop kl2) () = windroselaw03_TypesPairs_l2 r31 r24 ()) (fun kl2 => [(48, .int .i64 (kl2 : Int)), (1, .int .i64 a1), (5, .slice A24_0_0 r24.length p24_0_0), (8, .slice A31_0_0 r31.length p31_0_0), (46, .slice A24_0_0 r24.length p24_0_0), (47, .int .i64 (r24.length : Int))]) (fun kl2 => r24.length - kl2) 0 ?_ ?_ ?_
        · exact ⟨(by omega), Has.nil, (by rfl)⟩
        · exact ⟨rfl, rfl, rfl, rfl, rfl, rfl, trivial⟩
        · intro kl2 σ_l2 H_l2 L_l2 ds_l2 s_l2 hI_l2
          obtain ⟨hkl2, hI_l2⟩ := hI_l2
          obtain ⟨hLl2, hQl2⟩ := hI_l2
          refine T.has hLl2 ?_
          refine T.seq ?_
          refine T.region ?_
          refine R.lss rfl rfl rfl ?_
          refine TL.nil (Post.thnN ?_)
          refine T.seq ?_
          refine T.condD rfl (fun c49 => ?_) (fun c49 => ?_)
          · have hltl2 : kl2 < r24.length := by omega
            obtain ⟨yl2, hyl2⟩ := getk (xs := r24) (k := kl2) (by omega)
            refine T.skip (Post.thnN ?_)
            refine T.seq ?_
            refine T.block ?_
            refine T.seq ?_
            refine T.region ?_
            obtain ⟨b50, o50, i50, k50⟩ := RdS.elem (fF24_0_0_1.mono (s31.trans (s_c1.trans (sF31_0_0_2.trans s_l2)))) hyl2
            obtain ⟨l50, g50, k50⟩ := k50
            obtain rfl : l50 = [.int .u64 yl2] := g50
            refine R.ixp Try.underlying22 Try.sizeOf26 rfl rfl rfl (by omega) i50 ?_
            refine R.ldC Try.isAgg26 rfl rfl (k50 0 _ rfl) ?_
            refine R.asE rfl (by conv => lhs; whnf) ?_
            refine TL.nil (Post.thnN ?_)
            refine T.seq ?_
            refine T.region ?_
            refine R.mvE rfl (by conv => lhs; whnf) ?_
            refine R.mvE rfl (by conv => lhs; whnf) ?_
            refine R.callv rfl rfl rfl (slices_Contains_Id_d _ _ r31 (fF31_0_0_2.mono s_l2) yl2) ?_
            refine R.mvE rfl (by conv => lhs; whnf) ?_
            refine R.callv rfl rfl rfl (kindG_c _ yl2) ?_
            refine R.eql rfl rfl rfl ?_
            refine R.neqB Try.underlying4 rfl rfl rfl ?_
            refine TL.nil (Post.thnN ?_)
            refine T.cond rfl (fun c58 => ?_) (fun c58 => ?_)
            · refine T.set 58 (.bool true) (congrArg Value.bool c58) ?_
              refine T.seq ?_
              refine T.region ?_
              refine R.asE rfl (by conv => lhs; whnf) ?_
              refine TL.nil (Post.thnN ?_)
              refine T.has Has.nil ?_
              refine T.ret (Post.blkR (Post.thnR (Post.thnR (Post.blkR (Post.thnR ?_)))))
              have hXl2 : windroselaw03_TypesPairs_l2 r31 r24 () = .ret false := by rw [← hQl2, drop_cons hyl2, windroselaw03_TypesPairs_l2]; rw [if_t c58]
              have hM : windroselaw03_TypesPairs_m a0 a1 = false := by subst er31; subst er26; subst er24; rw [windroselaw03_TypesPairs_m, if_f c22, LR.seq_go, LR.seq_go, LR.seq_go, hTc1, LR.seq_go, if_f c38, hXl2, LR.on_ret]
              exact fin1L (v := .bool false) [] rfl rfl (List.Sublist.refl _) ⟨rfl, by first | rw [hM] | rfl⟩
            · refine T.set 58 (.bool false) (congrArg Value.bool c58) ?_
              refine T.skip (Post.blkN ?_)
              refine id (Post.thnN ?_)
              refine T.region ?_
              refine R.addI rfl rfl rfl (by omega) ?_
              refine R.mvE rfl (by conv => lhs; whnf) ?_
              refine TL.nil (Post.thnN ?_)
              exact ⟨kl2 + 1, s_l2, ⟨(by omega), Has.nil, (by rw [← hQl2, drop_cons hyl2, windroselaw03_TypesPairs_l2]; rw [if_f c58])⟩, by show r24.length - (kl2 + 1) < r24.length - kl2; omega, rfl, rfl, rfl, rfl, rfl, rfl, trivial⟩
          · refine T.exit (Post.thnE (Post.thnE (Post.blkX ?_)))
            have hEl2 : windroselaw03_TypesPairs_l2 r31 r24 () = .go () := (hQl2.symm.trans (by rw [show kl2 = r24.length by omega, List.drop_length, windroselaw03_TypesPairs_l2]))
            refine id (Post.thnN ?_)
            refine T.seq ?_
            refine T.region ?_
            refine R.mvE rfl (by conv => lhs; whnf) ?_
            obtain ⟨r62, er62⟩ : ∃ r, r = (ident_Pair_m a1 0) := ⟨_, rfl⟩
            refine R.callv (v := .tuple #[.int .u64 r62.1, .int .i64 r62.2]) rfl rfl rfl (by rw [er62]; exact ident_Pair_c _ (a1) (0)) ?_
            refine R.mvE rfl (by conv => lhs; whnf) ?_
            refine R.ext rfl rfl rfl ?_
            refine R.ext rfl rfl rfl ?_
            refine R.asE rfl (by conv => lhs; whnf) ?_
            refine R.asE rfl (by conv => lhs; whnf) ?_
            refine TL.nil (Post.thnN ?_)
            refine T.seq ?_
            refine T.region ?_
            refine R.mvE rfl (by conv => lhs; whnf) ?_
            obtain ⟨r67, er67⟩ : ∃ r, r = (ident_Pair_m 0 a1) := ⟨_, rfl⟩
            refine R.callv (v := .tuple #[.int .u64 r67.1, .int .i64 r67.2]) rfl rfl rfl (by rw [er67]; exact ident_Pair_c _ (0) (a1)) ?_
            refine R.mvE rfl (by conv => lhs; whnf) ?_
            refine R.ext rfl rfl rfl ?_
            refine R.ext rfl rfl rfl ?_
            refine R.asE rfl (by conv => lhs; whnf) ?_
            refine R.asE rfl (by conv => lhs; whnf) ?_
            refine TL.nil (Post.thnN ?_)
            refine T.seq ?_
            refine T.region ?_
            refine R.mvE rfl (by conv => lhs; whnf) ?_
            refine R.mvE rfl (by conv => lhs; whnf) ?_
            obtain ⟨r72, er72⟩ : ∃ r, r = (types_Mentions_m r24 a1) := ⟨_, rfl⟩
            refine TL.call [] rfl rfl rfl (types_Mentions_c _ _ r24 (fF24_0_0_1.mono (s31.trans (s_c1.trans (sF31_0_0_2.trans s_l2)))) (a1) (by first | omega | (simp; done) | (simp; omega) | (simp at *; omega))) ?_
            intro v72 H72 L72 s72 q72
            rw [← er72] at q72
            obtain ⟨u72_0_0, c72_0_0, rfl, rfl, w72_0_0⟩ := q72
            obtain ⟨A72_0_0, p72_0_0, rfl, m72_0_0, n72_0_0⟩ := OwnS.shape w72_0_0
            refine R.asE rfl (by conv => lhs; whnf) ?_
            refine TL.nil (Post.thnN ?_)
            refine T.seq ?_
            refine T.seq ?_
            refine T.cutK (ι := Bool) (fun b82c3 H' L' ds' => Has L' [c72_0_0] ∧ (if r62.2 ≠ 0 then true else (if r67.2 ≠ 0 then true else ((decide (a1 = 0)))) : Bool) = b82c3) (fun b82c3 => [(1, .int .i64 a1), (5, .slice A24_0_0 r24.length p24_0_0), (11, .int .u64 (r62.1)), (12, .int .u64 (r67.1)), (14, .slice A72_0_0 r72.length p72_0_0), (82, .bool (b82c3))]) ?_ ?_
            · refine T.region ?_
              refine R.mvE rfl (by conv => lhs; whnf) ?_
              refine R.neq rfl rfl rfl ?_
              refine R.mvE rfl (by conv => lhs; whnf) ?_
              refine TL.gsplitD 75 rfl (fun g75 => ?_) (fun g75 => ?_)
              · refine TL.off rfl rfl rfl ?_
                refine TL.off rfl rfl rfl ?_
                refine R.pkTE rfl rfl (by conv => lhs; whnf) ?_
                refine R.mvE rfl (by conv => lhs; whnf) ?_
                refine TL.off rfl rfl rfl ?_
                refine TL.off rfl rfl rfl ?_
                refine R.pkTE rfl rfl (by conv => lhs; whnf) ?_
                refine TL.nil (Post.thnN ?_)
                exact ⟨true, HLe.refl _, ⟨(Has.cons .hd Has.nil), (by rw [if_pos g75])⟩, rfl, rfl, rfl, rfl, rfl, rfl, trivial⟩
              · refine R.mvE rfl (by conv => lhs; whnf) ?_
                refine R.neq rfl rfl rfl ?_
                refine R.pkFE rfl rfl (by conv => lhs; whnf) ?_
                refine R.mvE rfl (by conv => lhs; whnf) ?_
                refine TL.gsplitD 79 rfl (fun g79 => ?_) (fun g79 => ?_)
                · refine TL.off rfl rfl rfl ?_
                  refine TL.off rfl rfl rfl ?_
                  refine R.pkTE rfl rfl (by conv => lhs; whnf) ?_
                  refine TL.nil (Post.thnN ?_)
                  exact ⟨true, HLe.refl _, ⟨(Has.cons .hd Has.nil), (by rw [if_neg g75, if_pos g79])⟩, rfl, rfl, rfl, rfl, rfl, rfl, trivial⟩
                · refine R.mvE rfl (by conv => lhs; whnf) ?_
                  refine R.eql rfl rfl rfl ?_
                  refine R.pkFE rfl rfl (by conv => lhs; whnf) ?_
                  refine TL.nil (Post.thnN ?_)
                  exact ⟨(decide (a1 = 0)), HLe.refl _, ⟨(Has.cons .hd Has.nil), (by rw [if_neg g75, if_neg g79])⟩, rfl, rfl, rfl, rfl, rfl, rfl, trivial⟩
            · intro b82c3 σ_c3 H_c3 L_c3 ds_c3 s_c3 hI_c3
              obtain ⟨hLc3, hTc3⟩ := hI_c3
              refine T.has hLc3 ?_
              refine T.cond rfl (fun c82 => ?_) (fun c82 => ?_)
              · refine T.set 82 (.bool true) (congrArg Value.bool c82) ?_
                have hZ82 := hTc3.trans c82
                try simp only [or_f, or_t, and_f, and_t, decide_eq_true_eq, decide_eq_false_iff_not, Bool.not_eq_true'] at hZ82
                refine T.seq ?_
                refine T.region ?_
                refine R.mvE rfl (by conv => lhs; whnf) ?_
                refine R.len Try.underlying22 rfl rfl ?_
                refine R.eql rfl rfl rfl ?_
                refine R.asE rfl (by conv => lhs; whnf) ?_
                refine TL.nil (Post.thnN ?_)
                refine T.has Has.nil ?_
                refine T.ret (Post.thnR ?_)
                have hM : windroselaw03_TypesPairs_m a0 a1 = (decide ((r72.length : Int) = 0)) := by subst er72; subst er67; subst er62; subst er31; subst er26; subst er24; rw [windroselaw03_TypesPairs_m, if_f c22, LR.seq_go, LR.seq_go, LR.seq_go, hTc1, LR.seq_go, if_f c38, hEl2, LR.on_go, LR.seq_go, LR.seq_go, LR.seq_go, hTc3, LR.seq_go, if_t c82]
                exact fin1L (v := .bool (decide ((r72.length : Int) = 0))) [] rfl rfl (List.Sublist.refl _) ⟨rfl, by first | rw [hM] | rfl⟩
              · refine T.set 82 (.bool false) (congrArg Value.bool c82) ?_
                have hZ82 := hTc3.trans c82
                try simp only [or_f, or_t, and_f, and_t, decide_eq_true_eq, decide_eq_false_iff_not, Bool.not_eq_true'] at hZ82
                refine T.skip (Post.thnN ?_)
                refine T.seq ?_
                refine T.region ?_
                refine R.mvE rfl (by conv => lhs; whnf) ?_
                refine R.mvE rfl (by conv => lhs; whnf) ?_
                obtain ⟨r88, er88⟩ : ∃ r, r = (types_Taken_m r24 r62.1) := ⟨_, rfl⟩
                refine TL.call [] rfl rfl rfl (types_Taken_c _ _ r24 (fF24_0_0_1.mono (s31.trans (s_c1.trans (sF31_0_0_2.trans (s_l2.trans (s72.trans s_c3)))))) (r62.1) (by first | omega | (simp; done) | (simp; omega) | (simp at *; omega))) ?_
                intro v88 H88 L88 s88 q88
                rw [← er88] at q88
                obtain ⟨u88_0_0, c88_0_0, rfl, rfl, w88_0_0⟩ := q88
                obtain ⟨A88_0_0, p88_0_0, rfl, m88_0_0, n88_0_0⟩ := OwnS.shape w88_0_0
                have tk88 := taken_len _ _ _ er88
                refine R.mvE rfl (by conv => lhs; whnf) ?_
                refine R.mvE rfl (by conv => lhs; whnf) ?_
                obtain ⟨r91, er91⟩ : ∃ r, r = (types_Taken_m r24 r67.1) := ⟨_, rfl⟩
                refine TL.call [] rfl rfl rfl (types_Taken_c _ _ r24 (fF24_0_0_1.mono (s31.trans (s_c1.trans (sF31_0_0_2.trans (s_l2.trans (s72.trans (s_c3.trans s88))))))) (r67.1) (by first | omega | (simp; done) | (simp; omega) | (simp at *; omega))) ?_
                intro v91 H91 L91 s91 q91
                rw [← er91] at q91
                obtain ⟨u91_0_0, c91_0_0, rfl, rfl, w91_0_0⟩ := q91
                obtain ⟨A91_0_0, p91_0_0, rfl, m91_0_0, n91_0_0⟩ := OwnS.shape w91_0_0
                have tk91 := taken_len _ _ _ er91
                refine TL.shut (.tl .hd) ?_
                intro HF88_0_0_3 sF88_0_0_3 qF88_0_0_3
                have fF88_0_0_3 := OwnS.read (OwnS.mono w88_0_0 s91) sF88_0_0_3 qF88_0_0_3
                refine TL.shut .hd ?_
                intro HF91_0_0_4 sF91_0_0_4 qF91_0_0_4
                have fF91_0_0_4 := OwnS.read (OwnS.mono w91_0_0 sF88_0_0_3) sF91_0_0_4 qF91_0_0_4
                refine R.bsN [.slice A88_0_0 r88.length p88_0_0, .slice A91_0_0 r91.length p91_0_0] rfl Try.underlying85 Try.sizeOf22 Try.zeroValue22 rfl rfl rfl rfl rfl rfl ?_
                intro b92
                have w92 : OwnS (slE (intE .u64)) 22 HF91_0_0_4 (.slice (some ⟨b92, 0, none⟩) 2 2) [r88, r91] [(b92, .cells #[.slice A88_0_0 r88.length p88_0_0, .slice A91_0_0 r91.length p91_0_0] 22)] := OwnS.lit (xs := [r88, r91]) (cellsOf_cons (a := [.slice A88_0_0 r88.length p88_0_0]) ⟨_, rfl, (fF88_0_0_3.mono sF91_0_0_4)⟩ (cellsOf_cons (a := [.slice A91_0_0 r91.length p91_0_0]) ⟨_, rfl, fF91_0_0_4⟩ cellsOf_nil)) (by show 2 ≤ maxLen; decide)
                refine TL.shut .hd ?_
                intro HF92_5 sF92_5 qF92_5
                have fF92_5 := OwnS.read w92 sF92_5 qF92_5
                obtain ⟨r93, er93⟩ : ∃ r, r = (slices_Concat_Id_m ([r88, r91])) := ⟨_, rfl⟩
                refine TL.call [] rfl rfl rfl (slices_Concat_Id_c _ _ ([r88, r91]) fF92_5 (by first | omega | (simp; done) | (simp; omega) | (simp at *; omega)) (by first | omega | (simp; done) | (simp; omega) | (simp at *; omega))) ?_
                intro v93 H93 L93 s93 q93
                rw [← er93] at q93
                obtain ⟨u93_0_0, c93_0_0, rfl, rfl, w93_0_0⟩ := q93
                obtain ⟨A93_0_0, p93_0_0, rfl, m93_0_0, n93_0_0⟩ := OwnS.shape w93_0_0
                have tc93 := concat_len _ _ er93
                simp only [List.map_cons, List.map_nil, List.sum_cons, List.sum_nil] at tc93
                refine R.asE rfl (by conv => lhs; whnf) ?_
                refine TL.nil (Post.thnN ?_)
                refine T.seq ?_
                refine T.region ?_
                refine R.mvE rfl (by conv => lhs; whnf) ?_
                obtain ⟨r95, er95⟩ : ∃ r, r = (slices_Sort_Id_m r93) := ⟨_, rfl⟩
                refine TL.call [true] rfl rfl rfl (slices_Sort_Id_c _ _ r93 _ w93_0_0 (by first | omega | (simp; done) | (simp; omega) | (simp at *; omega))) ?_
                intro v95 H95 L95 s95 q95
                rw [← er95] at q95
                obtain ⟨D95_a0, rfl, rfl, w95_a0⟩ := q95
                have n95_a0_ := OwnS.len w95_a0
                have ts95 : r95 = sortI _ := er95.trans (slices_Sort_Id_sort _)
                refine TL.nil (Post.thnN ?_)
                refine T.seq ?_
                refine T.region ?_
                refine R.asE rfl (by conv => lhs; whnf) ?_
                refine TL.nil (Post.thnN ?_)
                refine T.seq ?_
                refine T.seq ?_
                refine T.region ?_
                refine R.mvE rfl (by conv => lhs; whnf) ?_
                refine R.mvE rfl (by conv => lhs; whnf) ?_
                obtain ⟨r98, er98⟩ : ∃ r, r = (types_Taken_m r24 r62.1) := ⟨_, rfl⟩
                refine TL.call [] rfl rfl rfl (types_Taken_c _ _ r24 (fF24_0_0_1.mono (s31.trans (s_c1.trans (sF31_0_0_2.trans (s_l2.trans (s72.trans (s_c3.trans (s88.trans (s91.trans (sF88_0_0_3.trans (sF91_0_0_4.trans (sF92_5.trans (s93.trans s95))))))))))))) (r62.1) (by first | omega | (simp; done) | (simp; omega) | (simp at *; omega))) ?_
                intro v98 H98 L98 s98 q98
                rw [← er98] at q98
                obtain ⟨u98_0_0, c98_0_0, rfl, rfl, w98_0_0⟩ := q98
                obtain ⟨A98_0_0, p98_0_0, rfl, m98_0_0, n98_0_0⟩ := OwnS.shape w98_0_0
                have tk98 := taken_len _ _ _ er98
                refine R.len Try.underlying22 rfl rfl ?_
                refine R.mvE rfl (by conv => lhs; whnf) ?_
                refine TL.nil (Post.thnN ?_)
                refine T.block ?_
                refine T.shut .hd ?_
                intro HF98_0_0_6 sF98_0_0_6 qF98_0_0_6
                have fF98_0_0_6 := OwnS.read w98_0_0 sF98_0_0_6 qF98_0_0_6
                refine T.loop (ι := Nat × Value × (List Int) × Chunk) (fun ⟨kl4, v16l4, x16l4, c16l4⟩ H' L' ds' => kl4 ≤ r98.length ∧ Has L' [D95_a0, c72_0_0, c16l4] ∧ OwnS (intE .i64) 3 H' v16l4 x16l4 c16l4 ∧ x16l4.length ≤ kl4 ∧ windroselaw03_TypesPairs_l4 (r98.drop kl4) x16l4 = windroselaw03_TypesPairs_l4 r98 []) (fun ⟨kl4, v16l4, x16l4, c16l4⟩ => [(100, .int .i64 (kl4 : Int)), (1, .int .i64 a1), (5, .slice A24_0_0 r24.length p24_0_0), (14, .slice A72_0_0 r72.length p72_0_0), (15, .slice A93_0_0 r93.length p93_0_0), (16, v16l4), (98, .slice A98_0_0 r98.length p98_0_0), (99, .int .i64 (r98.length : Int))]) (fun ⟨kl4, v16l4, x16l4, c16l4⟩ => r98.length - kl4) (0, .slice none 0 0, [], []) ?_ ?_ ?_
                · exact ⟨(by omega), (Has.cons .hd (Has.cons .hd (Has.none Has.nil))), OwnS.nil, (by first | omega | (simp; done) | (simp; omega) | (simp at *; omega)), (by rfl)⟩
                · exact ⟨rfl, rfl, rfl, rfl, rfl, rfl, rfl, rfl, trivial⟩
                · intro ⟨kl4, v16l4, x16l4, c16l4⟩ σ_l4 H_l4 L_l4 ds_l4 s_l4 hI_l4
                  obtain ⟨hkl4, hI_l4⟩ := hI_l4
                  obtain ⟨hLl4, w16l4, hBl4_0, hQl4⟩ := hI_l4
                  obtain ⟨A16l4, p16l4, rfl, m16l4, n16l4_⟩ := OwnS.shape w16l4
                  refine T.has hLl4 ?_
                  refine T.seq ?_
                  refine T.region ?_
                  refine R.lss rfl rfl rfl ?_
                  refine TL.nil (Post.thnN ?_)
                  refine T.seq ?_
                  refine T.condD rfl (fun c101 => ?_) (fun c101 => ?_)
                  · have hltl4 : kl4 < r98.length := by omega
                    obtain ⟨yl4, hyl4⟩ := getk (xs := r98) (k := kl4) (by omega)
                    refine T.skip (Post.thnN ?_)
                    refine T.seq ?_
                    refine T.block ?_
                    refine T.seq ?_
                    refine T.region ?_
                    obtain ⟨b102, o102, i102, k102⟩ := RdS.elem (fF98_0_0_6.mono s_l4) hyl4
                    obtain ⟨l102, g102, k102⟩ := k102
                    obtain rfl : l102 = [.int .u64 yl4] := g102
                    refine R.ixp Try.underlying22 Try.sizeOf26 rfl rfl rfl (by omega) i102 ?_
                    refine R.ldC Try.isAgg26 rfl rfl (k102 0 _ rfl) ?_
                    refine R.asE rfl (by conv => lhs; whnf) ?_
                    refine TL.nil (Post.thnN ?_)
                    refine T.seq ?_
                    refine T.region ?_
                    refine R.mvE rfl (by conv => lhs; whnf) ?_
                    obtain ⟨r106, er106⟩ : ∃ r, r = (ident_Parts_m yl4) := ⟨_, rfl⟩
                    refine R.callv (v := .tuple #[.int .i64 r106.1, .int .i64 r106.2]) rfl rfl rfl (by rw [er106]; exact ident_Parts_c _ (yl4)) ?_
                    refine R.mvE rfl (by conv => lhs; whnf) ?_
                    refine R.ext rfl rfl rfl ?_
                    refine R.ext rfl rfl rfl ?_
                    refine R.asE rfl (by conv => lhs; whnf) ?_
                    refine R.asE rfl (by conv => lhs; whnf) ?_
                    refine TL.nil (Post.thnN ?_)
                    refine T.region ?_
                    refine R.mvE rfl (by conv => lhs; whnf) ?_
                    refine R.mvE rfl (by conv => lhs; whnf) ?_
                    refine R.bs rfl (run_buildSlice1 Try.underlying37 Try.sizeOf3 Try.zeroValue3 rfl rfl) ?_
                    intro b111
                    have w111 : OwnS (intE .i64) 3 H_l4 (.slice (some ⟨b111, 0, none⟩) 1 1) [r106.2] [(b111, .cells #[.int .i64 (r106.2)] 3)] := OwnS.lit (xs := [r106.2]) (cellsOf_cons (a := [.int .i64 (r106.2)]) rfl cellsOf_nil) (by show 1 ≤ maxLen; decide)
                    obtain ⟨k112, y112, r112⟩ := Src.ownA w111
                    refine R.app (E := (intE .i64)) (e := 3) (xs := x16l4) (ys := [r106.2]) Try_ty37 rfl rfl rfl w16l4 (.tl (.tl (.tl .hd))) (r112 _ .hd) y112 (by (try simp only [List.length_append, List.length_cons, List.length_nil, List.length_replicate, List.length_take, List.length_drop]); omega) (by (try simp only [List.length_append, List.length_cons, List.length_nil, List.length_replicate, List.length_take, List.length_drop]); omega) ?_
                    intro v112 c112 w112
                    obtain ⟨A112, p112, rfl, m112, n112⟩ := OwnS.shape w112
                    refine TL.del (.tl .hd) ?_
                    refine R.asE rfl (by conv => lhs; whnf) ?_
                    refine TL.nil (Post.blkN ?_)
                    refine id (Post.thnN ?_)
                    refine T.region ?_
                    refine R.addI rfl rfl rfl (by omega) ?_
                    refine R.mvE rfl (by conv => lhs; whnf) ?_
                    refine TL.nil (Post.thnN ?_)
                    exact ⟨(kl4 + 1, .slice A112 (x16l4 ++ [r106.2]).length p112, (x16l4 ++ [r106.2]), c112), s_l4, ⟨(by omega), (Has.cons (.tl .hd) (Has.cons (.tl .hd) (Has.cons .hd Has.nil))), w112, (by first | omega | (simp; done) | (simp; omega) | (simp at *; omega)), (by subst er106; rw [← hQl4, drop_cons hyl4, windroselaw03_TypesPairs_l4]; rw [LR.seq_go])⟩, by show r98.length - (kl4 + 1) < r98.length - kl4; omega, rfl, rfl, rfl, rfl, rfl, rfl, rfl, rfl, trivial⟩
                  · refine T.exit (Post.thnE (Post.thnE (Post.blkX ?_)))
                    have hEl4 : windroselaw03_TypesPairs_l4 r98 [] = x16l4 := (hQl4.symm.trans (by rw [show kl4 = r98.length by omega, List.drop_length, windroselaw03_TypesPairs_l4]))
                    refine id (Post.thnN ?_)
                    refine T.seq ?_
                    refine T.region ?_
                    refine R.mvE rfl (by conv => lhs; whnf) ?_
                    refine TL.has (Has.cons .hd (Has.cons .hd (Has.cons .hd Has.nil))) ?_
                    obtain ⟨r115, er115⟩ : ∃ r, r = (slices_Compact_Id_m r95) := ⟨_, rfl⟩
                    refine TL.call [true] rfl rfl rfl (slices_Compact_Id_c _ _ r95 _ (OwnS.mono w95_a0 (s98.trans (sF98_0_0_6.trans s_l4))) (by first | omega | (simp; done) | (simp; omega) | (simp at *; omega))) ?_
                    intro v115 H115 L115 s115 q115
                    rw [← er115] at q115
                    obtain ⟨u115_0_0, c115_0_0, rfl, rfl, w115_0_0⟩ := q115
                    obtain ⟨A115_0_0, p115_0_0, rfl, m115_0_0, n115_0_0⟩ := OwnS.shape w115_0_0
                    refine R.mvE rfl (by conv => lhs; whnf) ?_
                    refine TL.shut .hd ?_
                    intro HF115_0_0_7 sF115_0_0_7 qF115_0_0_7
                    have fF115_0_0_7 := OwnS.read w115_0_0 sF115_0_0_7 qF115_0_0_7
                    refine TL.shut .hd ?_
                    intro HF72_0_0_8 sF72_0_0_8 qF72_0_0_8
                    have fF72_0_0_8 := OwnS.read (OwnS.mono w72_0_0 (s_c3.trans (s88.trans (s91.trans (sF88_0_0_3.trans (sF91_0_0_4.trans (sF92_5.trans (s93.trans (s95.trans (s98.trans (sF98_0_0_6.trans (s_l4.trans (s115.trans sF115_0_0_7))))))))))))) sF72_0_0_8 qF72_0_0_8
                    refine R.callv rfl rfl rfl (slices_Equal_Id_d _ _ r115 (fF115_0_0_7.mono sF72_0_0_8) _ r72 fF72_0_0_8) ?_
                    refine R.mvE rfl (by conv => lhs; whnf) ?_
                    refine TL.gsplitD 118 rfl (fun g118 => ?_) (fun g118 => ?_)
                    · refine R.mvE rfl (by conv => lhs; whnf) ?_
                      refine R.mvE rfl (by conv => lhs; whnf) ?_
                      obtain ⟨r121, er121⟩ : ∃ r, r = (types_Targets_m r24 a1) := ⟨_, rfl⟩
                      refine TL.call [] rfl rfl rfl (types_Targets_c _ _ r24 (fF24_0_0_1.mono (s31.trans (s_c1.trans (sF31_0_0_2.trans (s_l2.trans (s72.trans (s_c3.trans (s88.trans (s91.trans (sF88_0_0_3.trans (sF91_0_0_4.trans (sF92_5.trans (s93.trans (s95.trans (s98.trans (sF98_0_0_6.trans (s_l4.trans (s115.trans (sF115_0_0_7.trans sF72_0_0_8))))))))))))))))))) (a1) (by first | omega | (simp; done) | (simp; omega) | (simp at *; omega))) ?_
                      intro v121 H121 L121 s121 q121
                      rw [← er121] at q121
                      obtain ⟨u121_0_0, c121_0_0, rfl, rfl, w121_0_0⟩ := q121
                      obtain ⟨A121_0_0, p121_0_0, rfl, m121_0_0, n121_0_0⟩ := OwnS.shape w121_0_0
                      refine R.mvE rfl (by conv => lhs; whnf) ?_
                      refine TL.shut .hd ?_
                      intro HF121_0_0_9 sF121_0_0_9 qF121_0_0_9
                      have fF121_0_0_9 := OwnS.read w121_0_0 sF121_0_0_9 qF121_0_0_9
                      refine TL.shut .hd ?_
                      intro HF16l4_10 sF16l4_10 qF16l4_10
                      have fF16l4_10 := OwnS.read (OwnS.mono w16l4 (s115.trans (sF115_0_0_7.trans (sF72_0_0_8.trans (s121.trans sF121_0_0_9))))) sF16l4_10 qF16l4_10
                      refine R.callv rfl rfl rfl (slices_Equal_int_d _ _ r121 (fF121_0_0_9.mono sF16l4_10) _ x16l4 fF16l4_10) ?_
                      refine R.pkTE rfl rfl (by conv => lhs; whnf) ?_
                      refine R.asE rfl (by conv => lhs; whnf) ?_
                      refine TL.nil (Post.thnN ?_)
                      refine T.has Has.nil ?_
                      refine T.ret ?_
                      have hM : windroselaw03_TypesPairs_m a0 a1 = (decide (r121 = x16l4)) := by subst er121; subst er115; subst er98; subst er95; subst er93; subst er91; subst er88; subst er72; subst er67; subst er62; subst er31; subst er26; subst er24; rw [windroselaw03_TypesPairs_m, if_f c22, LR.seq_go, LR.seq_go, LR.seq_go, hTc1, LR.seq_go, if_f c38, hEl2, LR.on_go, LR.seq_go, LR.seq_go, LR.seq_go, hTc3, LR.seq_go, if_f c82, LR.seq_go, LR.seq_go, LR.seq_go, LR.seq_go, LR.seq_go, hEl4, LR.seq_go, LR.seq_go, if_pos g118, LR.seq_go]
                      exact fin1L (v := .bool (decide (r121 = x16l4))) [] rfl rfl (List.Sublist.refl _) ⟨rfl, by first | rw [hM] | rfl⟩
                    · refine TL.off rfl rfl rfl ?_
                      refine TL.off rfl rfl rfl ?_
                      refine TL.off rfl rfl rfl ?_
                      refine TL.off rfl rfl rfl ?_
                      refine TL.off rfl rfl rfl ?_
                      refine R.pkFE rfl rfl (by conv => lhs; whnf) ?_
                      refine R.asE rfl (by conv => lhs; whnf) ?_
                      refine TL.nil (Post.thnN ?_)
                      refine T.has Has.nil ?_
                      refine T.ret ?_
                      have hM : windroselaw03_TypesPairs_m a0 a1 = false := by subst er115; subst er98; subst er95; subst er93; subst er91; subst er88; subst er72; subst er67; subst er62; subst er31; subst er26; subst er24; rw [windroselaw03_TypesPairs_m, if_f c22, LR.seq_go, LR.seq_go, LR.seq_go, hTc1, LR.seq_go, if_f c38, hEl2, LR.on_go, LR.seq_go, LR.seq_go, LR.seq_go, hTc3, LR.seq_go, if_f c82, LR.seq_go, LR.seq_go, LR.seq_go, LR.seq_go, LR.seq_go, hEl4, LR.seq_go, LR.seq_go, if_neg g118]
                      exact fin1L (v := .bool false) [] rfl rfl (List.Sublist.refl _) ⟨rfl, by first | rw [hM] | rfl⟩

end Go.SX

set_option linter.unusedVariables false
set_option linter.unusedSimpArgs false
namespace Go.SX
open Go
theorem twakes_true : windroselaw03_wakes_m = true := by kernel_rfl
theorem tp_l2 (r : List Int) : ∀ (l : List Int), (∀ y ∈ l, U y ∧ (y ∈ r ↔ kindI y = 3)) → windroselaw03_TypesPairs_l2 r l () = .go ()
  | [], _ => rfl
  | y :: ys, h => by
    obtain ⟨h1, h2⟩ := h y (List.mem_cons_self ..)
    have e : decide (y ∈ r) = decide (kindG y = 3) := by rw [kind_i h1, decide_eq_decide]; exact h2
    rw [windroselaw03_TypesPairs_l2, e, if_neg (by cases decide (kindG y = 3) <;> decide)]
    exact tp_l2 r ys (fun z hz => h z (List.mem_cons_of_mem _ hz))
theorem tp_l4 : ∀ (l a : List Int), windroselaw03_TypesPairs_l4 l a = a ++ l.map (fun y => (ident_Parts_m y).2)
  | [], a => by simp [windroselaw03_TypesPairs_l4]
  | y :: ys, a => by rw [windroselaw03_TypesPairs_l4, LR.seq_go, tp_l4 ys]; simp
theorem typesPairs_true (a0 : List Int) (a1 : Int) (hu : ∀ x ∈ a0, U x) : windroselaw03_TypesPairs_m a0 a1 = true := by
  unfold windroselaw03_TypesPairs_m
  rw [twakes_true, Bool.not_true, if_neg Bool.false_ne_true]
  simp only [LR.seq_go]
  have hu' : ∀ x ∈ windroselaw03_few_m a0, U x := fun x hx => hu x (by simp only [windroselaw03_few_m] at hx; exact List.mem_of_mem_take hx)
  generalize windroselaw03_few_m a0 = l at *
  rw [pair_ok (a := 0) (b := 0) (by decide) (by decide)]
  dsimp only
  have hsc : (if ((0 : Int) ≠ 0) then true else decide (types_Check_m l ≠ 0)) = decide (types_Check_m l ≠ 0) := if_neg (fun q => q rfl)
  rw [hsc]
  by_cases hc : types_Check_m l = 0
  rotate_left
  · rw [if_pos (decide_eq_true hc), if_pos rfl, taken_eq, if_neg hc]; rfl
  obtain ⟨hlen, hup, hmay⟩ := tcheck_ok hc
  rw [if_neg (by rw [decide_eq_true_eq]; exact fun q => q hc)]
  have hall : types_Taken_m l (made 9223372036854775808 0 0) = l.filter pairB := by
    rw [taken_eq, if_pos hc]
    refine List.filter_congr (fun y hy => ?_)
    rw [takes_pat (by decide) (by decide) (.inl rfl) (hu' y hy)]; simp
  rw [hall, tp_l2 _ _ (fun y hy => ⟨hu' y hy, by rw [List.mem_filter]; unfold pairB; rw [decide_eq_true_eq]; exact ⟨fun q => q.2, fun q => ⟨hy, q⟩⟩⟩), LR.on_go]
  have hment : types_Mentions_m l a1 = l.filter (fun y => pairB y && (decide (hA y = a1) || decide (hB y = a1))) := by
    rw [mentions_eq, if_pos hc]
    refine List.filter_congr (fun y hy => ?_)
    rw [pairs1 (hu' y hy)]
    congr 1
    unfold types_Mentions_1_m
    by_cases e : hA y = a1 <;> simp [e]
  by_cases hi : 1 ≤ a1 ∧ a1 ≤ 1048578
  rotate_left
  · have hnone : types_Mentions_m l a1 = [] := by
      rw [hment, List.filter_eq_nil_iff]
      intro y hy q
      rw [Bool.and_eq_true, Bool.or_eq_true, decide_eq_true_eq, decide_eq_true_eq] at q
      have h3 := (kind_pair (hu' y hy)).1 (of_decide_eq_true q.1)
      rcases q.2 with e | e <;> omega
    have h3 : (if (ident_Pair_m a1 0).2 ≠ 0 then true else (if (ident_Pair_m 0 a1).2 ≠ 0 then true else decide (a1 = 0))) = true := by
      by_cases h0 : a1 = 0
      · subst h0; rw [pair_ok (by decide) (by decide)]; rfl
      · rw [pair_no (a := a1) (b := 0) (by omega), if_pos (by decide)]
    rw [h3, if_pos rfl, hnone]; rfl
  have h3 : (if (ident_Pair_m a1 0).2 ≠ 0 then true else (if (ident_Pair_m 0 a1).2 ≠ 0 then true else decide (a1 = 0))) = false := by
    rw [pair_ok (a := a1) (b := 0) ⟨by omega, hi.2⟩ (by decide), pair_ok (a := 0) (b := a1) (by decide) ⟨by omega, hi.2⟩, if_neg (fun q => q rfl), if_neg (fun q => q rfl), decide_eq_false (by omega)]
  rw [h3, if_neg Bool.false_ne_true, pair_ok (a := a1) (b := 0) ⟨by omega, hi.2⟩ (by decide), pair_ok (a := 0) (b := a1) (by decide) ⟨by omega, hi.2⟩]
  have hof : types_Taken_m l (made 9223372036854775808 a1 0) = l.filter (fun y => pairB y && decide (hA y = a1)) := by
    rw [taken_eq, if_pos hc]
    refine List.filter_congr (fun y hy => ?_)
    rw [takes_pat ⟨by omega, hi.2⟩ (by decide) (.inr rfl) (hu' y hy), decide_eq_false (show ¬ a1 = 0 by omega)]
    rw [Bool.false_or, decide_eq_true rfl, Bool.true_or, Bool.and_true]
    congr 1; rw [decide_eq_decide]; exact eq_comm
  have hto : types_Taken_m l (made 9223372036854775808 0 a1) = l.filter (fun y => pairB y && decide (hB y = a1)) := by
    rw [taken_eq, if_pos hc]
    refine List.filter_congr (fun y hy => ?_)
    rw [takes_pat (by decide) ⟨by omega, hi.2⟩ (.inl rfl) (hu' y hy), decide_eq_false (show ¬ a1 = 0 by omega)]
    rw [Bool.false_or, decide_eq_true rfl, Bool.true_or, Bool.true_and]
    congr 1; rw [decide_eq_decide]; exact eq_comm
  rw [hof, hto, concat_eq, slices_Sort_Id_sort, comp_eq, hment]
  rw [dd_sort_ext (hup.filter _) (fun x => ?_), if_pos rfl, targets_eq, if_pos hc, tp_l4, List.nil_append]
  · refine decide_eq_true ?_
    congr 1
    refine List.filter_congr (fun y hy => ?_)
    rw [pairs1 (hu' y hy)]; rfl
  · simp only [List.flatten_cons, List.flatten_nil, List.append_nil, List.mem_append, List.mem_filter, Bool.and_eq_true, Bool.or_eq_true, decide_eq_true_eq]
    constructor
    · rintro (⟨h1, h2, h3⟩ | ⟨h1, h2, h3⟩)
      · exact ⟨h1, h2, .inl h3⟩
      · exact ⟨h1, h2, .inr h3⟩
    · rintro ⟨h1, h2, h3 | h3⟩
      · exact .inl ⟨h1, h2, h3⟩
      · exact .inr ⟨h1, h2, h3⟩
end Go.SX

set_option linter.unusedVariables false
set_option linter.unusedSimpArgs false
namespace Go.SX
open Go Go.ChangeShapes Go.WideShapes Go.ChangeAt Go.RowKit

/-- All that stands in a world's memory can be read. -/
def heapOf (W : World) : Heap := fun b => W.heap[b]?
theorem sat_heapOf (W : World) : Sat (heapOf W) [] W := ⟨fun _ _ h => h, fun p h => (by cases h), List.nodup_nil, fun p h => (by cases h)⟩

/-- A contract of a function that hands back v, at a world. -/
theorem calls_of_Fv {P : Program} {f : FuncId} {fn : Func} {c : Code} {vs : List Value} {v : Value} {W : World} (hf : P.funcs[f]? = some fn) (hb : fn.body = some c) (hname : (fn.name == "runtime.NumGoroutine") = false)
    (h : Fv P (fnv f) vs (heapOf W) v) : Calls P f vs.toArray W fun e W' => e = .returned v ∧ Below W.heap.size W W' := by
  obtain ⟨nx, w1, h1, h2⟩ := h W (sat_heapOf W)
  have he := Go.Proofs.enters_of (P := P) hf hname hb vs.toArray W
  have hrun : Sem.run P (do let d ← Deferred.ofValue (fnv f) vs.toArray; invoke d.target d.args) W = .ok (.enter f vs.toArray) W := by
    simp [Deferred.ofValue, invoke, he]
  rw [hrun] at h1
  injection h1 with h1 h3
  subst h1; subst h3
  refine callsIn_wide.1 (CallsIn.mono h2 ?_)
  rintro e w' ⟨u, H', L', rfl, hst, rfl, rfl⟩
  exact ⟨rfl, hst.chg.os, hst.chg.tape, hst.chg.output, hst.chg.size, fun b hb => hst.chg.same b hb (by simp [keys])⟩

section
variable {H : Type} {enc : TypeId × Value → H} {P : Program}

theorem trodAll_below (hl : laidOutB P = true) {W W' : World} (hb : Below W.heap.size W W') {sp : Nat → Bool} : ∀ {ts : List TypeId} {vs : List Value} {ds : List (DataW H)} {p : List MemPlace},
    (∀ t ∈ ts, P.readableRec t = true ∧ t < P.types.size) → DataW.TrodAll enc P W 0 (fun _ => true) true ts vs ds p → (∀ q ∈ p, q.block < W.heap.size ∧ sp q.block = true) → DataW.TrodAll enc P W' 0 sp true ts vs ds p
  | [], _, _, _, _, h, _ => by
    obtain ⟨rfl, rfl, rfl⟩ := trodAll_nil h
    exact trodAll_mk0
  | t :: ts, _, _, _, ht, h, hp => by
    obtain ⟨v, vs, d, ds, a, b, rfl, rfl, rfl, h1, h2⟩ := trodAll_cons h
    have h3 := WideElems.Trod_stays (sp' := sp) hl (ht t (List.mem_cons_self ..)).1 (ht t (List.mem_cons_self ..)).2 h1 (fun x hx => hb.same (hp x (List.mem_append_left _ hx)).1) (fun x hx => (hp x (List.mem_append_left _ hx)).2)
    exact ⟨a, b, h3, trodAll_below hl hb (fun t' h' => ht t' (List.mem_cons_of_mem _ h')) h2 (fun x hx => hp x (List.mem_append_right _ hx)), rfl⟩

/-- What is asked behind a call that turned nothing of what there was, and says true. -/
theorem post_true {f : Func} {s : ChangeSpec} {fresh handsOn again : Bool} {W W' : World} {args : Array Value} {ds gs : List (DataW H)} {before : List MemPlace} {tb : TypeId} (hl : laidOutB P = true)
    (hW : DataW.Whole enc P f.params.toList s.vars false W args.toList ds gs before) (hvars : s.vars = []) (hpar : ∀ t ∈ f.params.toList, P.readableRec t = true ∧ t < P.types.size)
    (hs : s.fn H (ds ++ gs) = { results := [.lit (.bool true)], args := ds }) (hrt : f.resultTypes = #[tb]) (htb : P.underlying tb = some .bool) (hb : Below W.heap.size W W') :
    s.post enc P f false fresh handsOn again W args (.bool true) W' := by
  have hlt := hW.lt
  have hW0 := hW
  obtain ⟨p, q, hA, hV, rfl, hfz, hnd⟩ := hW
  rw [hvars] at hV
  obtain ⟨rfl, rfl⟩ := trodVars_none hV
  rw [List.append_nil] at hfz hlt
  have hres : ∀ (b : Nat) (sp : Nat → Bool) (hd : Bool), DataW.TrodAll enc P W' b sp hd f.resultTypes.toList ((Value.bool true).resultList f.resultTypes.size) [.lit (.bool true)] [] := by
    intro b sp hd
    rw [hrt]
    exact trodAll_mk1 (shut_bool htb true)
  have hargs : ∀ sp : Nat → Bool, (∀ x ∈ p, sp x.block = true) → DataW.TrodAll enc P W' 0 sp true f.params.toList args.toList ds p := fun sp hsp =>
    trodAll_below hl hb hpar hA (fun x hx => ⟨hlt x hx, hsp x hx⟩)
  have hvr : ∀ sp : Nat → Bool, DataW.TrodVars enc P W' sp s.vars ([] : List (DataW H)) [] := fun sp => by rw [hvars]; rfl
  refine ⟨ds, [], p ++ [], [], p, [], hW0, ?_, ?_, ?_, World.keptBut_mono (fun x hx => ⟨hx, ?_⟩) (hb.frame (· ∈ p ++ [])), fun _ => ?_⟩
  · rw [hs]; exact hres _ _ _
  · rw [hs]; exact hargs _ (fun x hx => by simpa using hlt x hx)
  · rw [hs]; exact hvr _
  · exact Or.inr (by simpa using hx)
  · refine ⟨ok_one hrt rfl (okWide_bool_mk htb true), _, _, ([] ++ p) ++ [], ⟨[] ++ p, [], trodAll_append (hargs _ (fun _ _ => rfl)) (hres _ _ _), hvr _, rfl, ?_, fun h => by cases h⟩, ?_⟩
    · intro b off hp
      have hp' : MemPlace.cell b off ∈ p := by simpa using hp
      have := hb.frozen (p := ⟨b, off, none⟩) (hlt _ hp')
      rw [this]
      exact hfz b off hp'
    · intro x hx _
      simpa using hx

theorem cellAt_heapOf {W : World} {b o : Nat} {v : Value} (h : W.cell? ⟨b, o, none⟩ = some v) : cellAt (heapOf W) b o = some v := by
  unfold World.cell? at h
  unfold cellAt heapOf
  simp only at h
  revert h
  cases hb : W.heap[b]? with
  | none => intro h; simp at h
  | some ob => cases ob <;> intro h <;> simp_all

/-- A slice of ints that is handed in. -/
theorem open_rd {t e : TypeId} {k : IntKind} {W : World} {r : Reach} {b0 : Nat} {v : Value} {d : DataW H} {p : List MemPlace} (ht : P.underlying t = some (.slice e)) (he : P.underlying e = some (.int k)) (hc : P.cellsOf e = 1)
    (hval : Value.okWide P W r b0 t v) (h : DataW.Trod enc P W 0 (fun _ => true) true t v d p) : ∃ xs : List Int, RdS (intE k) (heapOf W) v xs ∧ ∀ x ∈ xs, (Lit.int k x).wf = true := by
  obtain ⟨a0, len, cap, rfl⟩ := okWide_slice ht hval
  obtain ⟨fuel, hf⟩ := h
  rcases open_ints ht he hc hf with ⟨hcs, hx⟩ | ⟨a, len', cap', zs, hcs, _, hl, hm, hz, hx, hcell, hwz⟩
  · have : (Value.slice a0 len cap) = .slice none 0 0 := by simpa [Value.cells] using hcs
    rw [this]
    exact ⟨[], RdS.nil, fun x hx => by simp at hx⟩
  · have e1 : (Value.slice a0 len cap) = .slice (some a) len' cap' := by simpa [Value.cells] using hcs
    rw [e1]
    have hzl : zs.length = cap' := by simpa using hz
    have hlen : (zs.take len').length = len' := by simp; omega
    refine ⟨zs.take len', ⟨some a, cap', by rw [hlen], by omega, hm, fun i x hx => ?_⟩, fun x hx => hwz x (List.mem_of_mem_take hx)⟩
    have hi : i < len' := by rw [← hlen]; exact (List.getElem?_eq_some_iff.1 hx).1
    rw [List.getElem?_take_of_lt hi] at hx
    have h1 := hcell i (by omega)
    have h2 : zs.getD i 0 = x := by rw [List.getD_eq_getElem?_getD, hx]; rfl
    rw [h2] at h1
    obtain ⟨ab, ao, asp⟩ := a
    cases asp with
    | none =>
      refine ⟨ab, ao, rfl, [.int k x], rfl, fun j u hj => ?_⟩
      have hj0 : j = 0 := by have := (List.getElem?_eq_some_iff.1 hj).1; simpa using this
      subst hj0
      simp at hj
      subst hj
      rw [Addr.add_lit] at h1
      have := cellAt_heapOf h1
      simpa [intE] using this
    | some s =>
      have h0 := hcell 0 (by omega)
      rw [Addr.add_zero'] at h0
      unfold World.cell? at h0
      revert h0
      cases hb : W.heap[ab]? with
      | none => intro h0; simp [hb] at h0
      | some ob => cases ob <;> intro h0 <;> simp [hb] at h0
end
theorem u_of_wf {x : Int} (h : (Lit.int .u64 x).wf = true) : 0 ≤ x ∧ x < 18446744073709551616 := by
  simp [Lit.wf, IntKind.min, IntKind.max, IntKind.signed, IntKind.bits] at h; omega
end Go.SX

set_option linter.unusedVariables false
namespace Go.Proofs.Ytmigaagkfglabaa
open Go.ChangeShapes Go.WideShapes Go.ChangeAt Go.RowKit Go.SX

theorem typesPairs_own : ownKnob Try.prog.godebug = none := by kernel_rfl
theorem typesPairs_laid : laidOutB Try.prog = true := by kernel_rfl

set_option maxRecDepth 100000 in
theorem typesPairs_lifted (os : Os) (started : os.Started) (H : Type) (enc : TypeId × Value → H) :
    ReturnsInHanded {} Try.checked os 3 .any (Rows.typesPairsSpec.pre6 enc Try.prog Try.f3 Rows.typesPairsRow.domain false) (Rows.typesPairsSpec.post enc Try.prog Try.f3 false true false false) := by
  refine returnsInHanded_of_change (C := Try.checked) typesPairs_own started (by kernel_rfl) Try.func3
    (ChangeSpec.witness6 (enc := enc) (C := Try.checked) false ⟨#[], #[.slice none 0 0, .int .i64 0], []⟩ 8 (by kernel_rfl) (by kernel_rfl) (by kernel_rfl) (by kernel_rfl)) ?_
  intro W base args ds gs before hval0 hW hcnd _
  have hval : ∀ (j : Nat) t v, Try.f3.params[j]? = some t → args[j]? = some v → Value.okWide Try.prog W .any base t v := hval0
  have hW' := hW
  obtain ⟨p, q, hA0, hV, rfl, hfz, hnd⟩ := hW
  have hA : DataW.TrodAll enc Try.prog W 0 (fun _ => true) true Try.f3.params.toList args.toList ds p := hA0
  rw [Try.params3] at hA hval
  clear hA0 hval0
  obtain ⟨v0, vs0, d0, ds0, p0, q0, e0, rfl, rfl, h0, r0⟩ := trodAll_cons hA
  obtain ⟨v1, vs1, d1, ds1, p1, q1, e1, rfl, rfl, h1, r1⟩ := trodAll_cons r0
  subst e1
  obtain ⟨e2, rfl, rfl⟩ := trodAll_nil r1
  subst e2
  obtain rfl : args = #[v0, v1] := by cases args; simp_all
  obtain ⟨rfl, rfl⟩ := trodVars_none hV
  obtain ⟨xs0, hr0, hw0⟩ := open_rd Try.underlying22 Try.underlying26 (by kernel_rfl) (hval 0 22 v0 rfl rfl) h0
  obtain ⟨x1, rfl, rfl, rfl, hw1⟩ := open_int Try.underlying3 (hval 1 3 v1 rfl rfl) h1
  have hpar : ∀ t ∈ Try.f3.params.toList, Try.prog.readableRec t = true ∧ t < Try.prog.types.size := by
    intro t ht
    rw [Try.params3] at ht
    simp only [List.mem_cons, List.not_mem_nil, or_false] at ht
    rcases ht with rfl | rfl
    · exact ⟨by kernel_rfl, of_decide_eq_true (by kernel_rfl)⟩
    · exact ⟨by kernel_rfl, of_decide_eq_true (by kernel_rfl)⟩
  refine (calls_of_Fv Try.func3 rfl (by kernel_rfl) (Fv.to (windroselaw03_TypesPairs_c _ _ xs0 hr0 x1) (congrArg Value.bool (typesPairs_true xs0 x1 (fun x hx => u_of_wf (hw0 x hx)))))).mono fun e W' ⟨he, hb⟩ => ?_
  subst he
  exact ⟨_, rfl, post_true typesPairs_laid hW' rfl hpar rfl rfl Try.underlying4 hb⟩

theorem typesPairs_holds : Rows.TypesPairsSaid :=
  OpenClaim.holds_of_wide 3 Try.f3 rfl rfl rfl rfl rfl rfl rfl ⟨rfl, rfl, rfl, rfl, rfl⟩ rfl rfl rfl rfl rfl (by kernel_rfl) Try.func3 (by kernel_rfl)
    (of_decide_eq_true (by kernel_rfl)) (by unfold Func.isWrapper; first | (rw [if_pos (by decide +kernel)]; kernel_rfl) | (rw [if_neg (by decide +kernel)]; exact ⟨rfl, rfl⟩))
    (fun os started H enc _ => typesPairs_lifted os started H enc)
end Go.Proofs.Ytmigaagkfglabaa
