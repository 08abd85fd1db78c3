/- 'IndexKeys' answers true, whatever it is handed, and what it is handed reads behind it as it did. -/
import Derived.RangeFuncNested
import Derived.RangeFuncBound
import Derived.RangeFuncCalls
import Derived.RangeFuncLeaves
import Derived.Shelf.Abstract
import Derived.Laws.AppendOwn
import Derived.Laws.OwnMore
import Derived.KernelRfl
import Derived.IntWalk
import Derived.Laws.Append
import Derived.WideLaws
import Derived.Laws.Slices
import Derived.Laws.MakeOwn
import Derived.OrdersIn
import Derived.Laws.Cover3
import Derived.Test.YtmigaagkfglabaaProg
import Derived.Laws.StructEq
import Derived.Shelf.Sort.Plain
import Derived.Sort.OwnSortedInts
import Derived.Shelf.Slices.In.SortNone
import Derived.Maps.RangeRun
import Derived.Lib.AppendZeros
import Derived.Sort.AssemblyPlain
import Derived.Shelf.Small.Bits
import Derived.Sort.Walk7a
import Derived.Laws.Bits64
import Derived.Laws.Bits64b
import Derived.Shelf.Spec.SlicesInsert
import Derived.Shelf.Spec.SlicesInsertGrow
import Derived.ProofKit
import Derived.ChangeSlices
import Derived.Carry
import Derived.Test.YtmigaagkfglabaaRows
import Derived.Test.YtmigaagkfglabaaKK3
set_option linter.unusedVariables false
set_option linter.unusedSimpArgs false
namespace Go.SX
open Go Go.Proofs

def slices_partitionOrdered_Id_l10 (a1 : Int) (n10l8 : Int) (xPa0l7 : List Int) : Nat → Int → Int
  | 0, _ => default
  | ml10 + 1, sl10 => LR.seq (if n10l8 ≤ sl10 then ((!(cmp_Less_Id_m (xPa0l7.getD sl10.toNat (0 : Int)) (xPa0l7.getD a1.toNat (0 : Int))))) else false : Bool) (fun sc11 => if sc11 = true then (slices_partitionOrdered_Id_l10 a1 n10l8 xPa0l7 ml10 ((sl10 - 1))) else sl10)
def slices_partitionOrdered_Id_l8 (a1 : Int) (n11l7 : Int) (xPa0l7 : List Int) : Nat → Int → Int
  | 0, _ => default
  | ml8 + 1, sl8 => LR.seq (if sl8 ≤ n11l7 then ((cmp_Less_Id_m (xPa0l7.getD sl8.toNat (0 : Int)) (xPa0l7.getD a1.toNat (0 : Int)))) else false : Bool) (fun sc9 => if sc9 = true then (slices_partitionOrdered_Id_l8 a1 n11l7 xPa0l7 ml8 ((sl8 + 1))) else sl8)
def slices_partitionOrdered_Id_l7 (a1 : Int) : Nat → (Int × Int × (List Int)) → Int × (List Int)
  | 0, _ => default
  | ml7 + 1, sl7 => LR.seq (slices_partitionOrdered_Id_l8 a1 sl7.2.1 sl7.2.2 ((sl7.2.1 - sl7.1 + 1).toNat + 1) sl7.1) (fun ol8 => LR.seq (slices_partitionOrdered_Id_l10 a1 ol8 sl7.2.2 ((sl7.2.1 - ol8 + 1).toNat + 1) sl7.2.1) (fun ol10 => if ol10 < ol8 then ((ol10, sl7.2.2)) else (LR.seq ((((sl7.2.2.set ol8.toNat (sl7.2.2.getD ol10.toNat (0 : Int)))).set ol10.toNat (sl7.2.2.getD ol8.toNat (0 : Int))) : (List Int)) (fun sc13 => slices_partitionOrdered_Id_l7 a1 ml7 (((ol8 + 1), (ol10 - 1), sc13))))))
def slices_partitionOrdered_Id_l4 (a1 : Int) (n10l2 : Int) (xPa0c1 : List Int) : Nat → Int → Int
  | 0, _ => default
  | ml4 + 1, sl4 => LR.seq (if n10l2 ≤ sl4 then ((!(cmp_Less_Id_m (xPa0c1.getD sl4.toNat (0 : Int)) (xPa0c1.getD a1.toNat (0 : Int))))) else false : Bool) (fun sc5 => if sc5 = true then (slices_partitionOrdered_Id_l4 a1 n10l2 xPa0c1 ml4 ((sl4 - 1))) else sl4)
def slices_partitionOrdered_Id_l2 (a1 : Int) (a2 : Int) (xPa0c1 : List Int) : Nat → Int → Int
  | 0, _ => default
  | ml2 + 1, sl2 => LR.seq (if sl2 ≤ (a2 - 1) then ((cmp_Less_Id_m (xPa0c1.getD sl2.toNat (0 : Int)) (xPa0c1.getD a1.toNat (0 : Int)))) else false : Bool) (fun sc3 => if sc3 = true then (slices_partitionOrdered_Id_l2 a1 a2 xPa0c1 ml2 ((sl2 + 1))) else sl2)
def slices_partitionOrdered_Id_m (a0 : List Int) (a1 : Int) (a2 : Int) (a3 : Int) : Int × Bool × (List Int) :=
  LR.seq ((((a0.set a1.toNat (a0.getD a3.toNat (0 : Int)))).set a3.toNat (a0.getD a1.toNat (0 : Int))) : (List Int)) (fun sc1 => LR.seq (slices_partitionOrdered_Id_l2 a1 a2 sc1 ((a2 - ((a1 + 1))).toNat + 1) ((a1 + 1))) (fun ol2 => LR.seq (slices_partitionOrdered_Id_l4 a1 ol2 sc1 ((((a2 - 1)) - ol2 + 1).toNat + 1) ((a2 - 1))) (fun ol4 => if ol4 < ol2 then ((ol4, true, (((sc1.set ol4.toNat (sc1.getD a1.toNat (0 : Int)))).set a1.toNat (sc1.getD ol4.toNat (0 : Int))))) else (LR.seq ((((sc1.set ol2.toNat (sc1.getD ol4.toNat (0 : Int)))).set ol4.toNat (sc1.getD ol2.toNat (0 : Int))) : (List Int)) (fun sc6 => LR.seq (LR.seq (slices_partitionOrdered_Id_l7 a1 ((((ol4 - 1)) - ((ol2 + 1)) + 2).toNat + 1) (((ol2 + 1), (ol4 - 1), sc6))) (fun ol7 => ol7) : Int × (List Int)) (fun sc12 => (sc12.1, false, (((sc12.2.set sc12.1.toNat (sc12.2.getD a1.toNat (0 : Int)))).set a1.toNat (sc12.2.getD sc12.1.toNat (0 : Int))))))))))
set_option maxHeartbeats 3200000 in
theorem slices_partitionOrdered_Id_c (H : Heap) (va0 : Value) (a0 : List Int) (Ca0 : Chunk) (ha0 : OwnS (intE .u64) 26 H va0 a0 Ca0) (a1 : Int) (a2 : Int) (a3 : Int) (h1 : 0 ≤ a1) (h2 : a1 ≤ a3) (h3 : a3 < a2) (h4 : a2 ≤ (a0.length : Int)) (hl : a0.length ≤ 4000000) : Fc Try.prog (fnv 117) [va0, .int .i64 a1, .int .i64 a2, .int .i64 a3] H [Ca0] (fun v' H' L' => ∃ Da0, v' = .tuple #[.int .i64 (slices_partitionOrdered_Id_m a0 a1 a2 a3).1, .bool (slices_partitionOrdered_Id_m a0 a1 a2 a3).2.1] ∧ L' = [Da0] ∧ OwnS (intE .u64) 26 H' va0 (slices_partitionOrdered_Id_m a0 a1 a2 a3).2.2 Da0) := by
  refine Fc.of_body (N := 168) Try.func117 rfl (by kernel_rfl) rfl rfl ?_
  intro w0
  obtain ⟨Aa0, pa0, rfl, ma0, na0⟩ := OwnS.shape ha0
  refine T.seq ?_
  refine T.region ?_
  refine R.asE rfl (by conv => lhs; whnf) ?_
  refine R.asE rfl (by conv => lhs; whnf) ?_
  refine TL.nil (Post.thnN ?_)
  refine T.seq ?_
  refine T.cutK (ι := (List Int) × Chunk) (fun ⟨xPa0c1, cPa0c1⟩ H' L' ds' => Has L' [cPa0c1] ∧ OwnS (intE .u64) 26 H' (.slice Aa0 a0.length pa0) xPa0c1 cPa0c1 ∧ ((((a0.set a1.toNat (a0.getD a3.toNat (0 : Int)))).set a3.toNat (a0.getD a1.toNat (0 : Int))) : (List Int)) = xPa0c1) (fun ⟨xPa0c1, cPa0c1⟩ => [(0, .slice Aa0 a0.length pa0), (1, .int .i64 a1), (2, .int .i64 a2)]) ?_ ?_
  · refine T.draw Try_mixed (by kernel_rfl) ?_
    refine Plan.v 0 [1, 2, 3, 4, 5, 6, 7, 8, 9, 10, 11, 12, 13, 14, 15] (by kernel_rfl) (by kernel_rfl) (by kernel_rfl) (by kernel_rfl) rfl (fun _ _ h_ => R.mvE rfl (by conv => lhs; whnf) (TL.nil h_)) ?_
    refine Plan.v 1 [2, 3, 4, 5, 6, 7, 8, 9, 10, 11, 12, 13, 14, 15] (by kernel_rfl) (by kernel_rfl) (by kernel_rfl) (by kernel_rfl) rfl (fun _ _ h_ => R.mvE rfl (by conv => lhs; whnf) (TL.nil h_)) ?_
    refine Plan.v 2 [3, 4, 5, 6, 7, 8, 9, 10, 11, 12, 13, 14, 15] (by kernel_rfl) (by kernel_rfl) (by kernel_rfl) (by kernel_rfl) rfl (fun _ _ h_ => R.mvE rfl (by conv => lhs; whnf) (TL.nil h_)) ?_
    refine Plan.v 3 [4, 5, 6, 7, 8, 9, 10, 11, 12, 13, 14, 15] (by kernel_rfl) (by kernel_rfl) (by kernel_rfl) (by kernel_rfl) rfl (fun _ _ h_ => R.mvE rfl (by conv => lhs; whnf) (TL.nil h_)) ?_
    refine Plan.v 4 [5, 6, 7, 8, 9, 10, 11, 12, 13, 14, 15] (by kernel_rfl) (by kernel_rfl) (by kernel_rfl) (by kernel_rfl) rfl (fun _ _ h_ => R.mvE rfl (by conv => lhs; whnf) (TL.nil h_)) ?_
    refine Plan.v 5 [6, 7, 8, 9, 10, 11, 12, 13, 14, 15] (by kernel_rfl) (by kernel_rfl) (by kernel_rfl) (by kernel_rfl) rfl (fun _ _ h_ => R.mvE rfl (by conv => lhs; whnf) (TL.nil h_)) ?_
    have hl18 : a3.toNat < a0.length := by first | omega | (simp; done) | (simp; omega) | (simp at *; omega)
    obtain ⟨y18, e18, h18⟩ : ∃ y, y = (a0.getD a3.toNat (0 : Int)) ∧ a0[a3.toNat]? = some y := ⟨_, rfl, getD_get (by first | exact hl18 | simpa using hl18 | (simp only [List.length_set]; omega) | omega | (rw [(sortI_perm _).length_eq]; exact hl18))⟩
    obtain ⟨b18, u18, cs18, l18, f18, j18, i18, g18, k18⟩ := OwnS.elem ha0 h18
    obtain rfl : l18 = [.int .u64 y18] := g18
    refine Plan.v 6 [7, 8, 9, 10, 11, 12, 13, 14, 15] (by kernel_rfl) (by kernel_rfl) (by kernel_rfl) (by kernel_rfl) rfl (fun _ _ h_ => R.ixp (sz := ((intE .u64)).size) Try.underlying22 Try.sizeOf26 rfl rfl rfl (by first | omega | (simp; done) | (simp; omega) | (simp at *; omega)) i18 (TL.nil h_)) ?_
    refine Plan.v 8 [7, 9, 10, 11, 12, 13, 14, 15] (by kernel_rfl) (by kernel_rfl) (by kernel_rfl) (by kernel_rfl) rfl (fun _ _ h_ => R.mvE rfl (by conv => lhs; whnf) (TL.nil h_)) ?_
    refine Plan.v 9 [7, 10, 11, 12, 13, 14, 15] (by kernel_rfl) (by kernel_rfl) (by kernel_rfl) (by kernel_rfl) rfl (fun _ _ h_ => R.mvE rfl (by conv => lhs; whnf) (TL.nil h_)) ?_
    have hl22 : a1.toNat < a0.length := by first | omega | (simp; done) | (simp; omega) | (simp at *; omega)
    obtain ⟨y22, e22, h22⟩ : ∃ y, y = (a0.getD a1.toNat (0 : Int)) ∧ a0[a1.toNat]? = some y := ⟨_, rfl, getD_get (by first | exact hl22 | simpa using hl22 | (simp only [List.length_set]; omega) | omega | (rw [(sortI_perm _).length_eq]; exact hl22))⟩
    obtain ⟨b22, u22, cs22, l22, f22, j22, i22, g22, k22⟩ := OwnS.elem ha0 h22
    obtain rfl : l22 = [.int .u64 y22] := g22
    refine Plan.v 10 [7, 11, 12, 13, 14, 15] (by kernel_rfl) (by kernel_rfl) (by kernel_rfl) (by kernel_rfl) rfl (fun _ _ h_ => R.ixp (sz := ((intE .u64)).size) Try.underlying22 Try.sizeOf26 rfl rfl rfl (by first | omega | (simp; done) | (simp; omega) | (simp at *; omega)) i22 (TL.nil h_)) ?_
    refine Plan.s2 7 11 [11, 12, 13, 14, 15] [7, 12, 13, 14, 15] (by kernel_rfl) (by kernel_rfl) (by kernel_rfl) rfl rfl ?_ ?_
    · refine R.ld Try.isAgg26 rfl rfl (by rw [← f18]; exact .hd) (k18 0 _ rfl) ?_
      refine TL.nil (Plan.e1 (HLe.refl _) ?_)
      refine Plan.s1 11 [12, 13, 14, 15] (by kernel_rfl) (by kernel_rfl) rfl ?_
      refine R.ld Try.isAgg26 rfl rfl (by rw [← f22]; exact .hd) (k22 0 _ rfl) ?_
      refine TL.nil (Plan.e1 (HLe.refl _) ?_)
      have hl24 : a1.toNat < a0.length := by first | omega | (simp; done) | (simp; omega) | (simp at *; omega)
      obtain ⟨y24, e24, h24⟩ : ∃ y, y = (a0.getD a1.toNat (0 : Int)) ∧ a0[a1.toNat]? = some y := ⟨_, rfl, getD_get (by first | exact hl24 | simpa using hl24 | (simp only [List.length_set]; omega) | omega | (rw [(sortI_perm _).length_eq]; exact hl24))⟩
      obtain ⟨b24, u24, cs24, l24, f24, j24, i24, g24, k24⟩ := OwnS.elem ha0 h24
      obtain rfl : l24 = [.int .u64 y24] := g24
      refine Plan.v 12 [13, 14, 15] (by kernel_rfl) (by kernel_rfl) (by kernel_rfl) (by kernel_rfl) rfl (fun _ _ h_ => R.ixp (sz := ((intE .u64)).size) Try.underlying22 Try.sizeOf26 rfl rfl rfl (by first | omega | (simp; done) | (simp; omega) | (simp at *; omega)) i24 (TL.nil h_)) ?_
      refine Plan.s1 13 [14, 15] (by kernel_rfl) (by kernel_rfl) rfl ?_
      refine R.stEF (E := (intE .u64)) (e := 26) (v := (.slice Aa0 a0.length pa0)) (m := [.int .u64 y18]) (o := 0) (y := y24) (y' := y18) (j := a1.toNat) Try.sizeOf26 rfl ha0 .hd i24 rfl rfl (cells1 rfl) (all_one rfl) h24 (by show 0 + 1 ≤ 1; decide) (fun l hl => by have e0 : l = [.int .u64 y24] := hl; subst e0; exact rfl) ?_
      intro cst395 wst395
      refine TL.nil (Plan.e0 (HLe.refl _) ?_)
      have hl25 : a3.toNat < a0.length := by first | omega | (simp; done) | (simp; omega) | (simp at *; omega)
      obtain ⟨y25, e25, h25⟩ : ∃ y, y = (((a0.set a1.toNat y18)).getD a3.toNat (0 : Int)) ∧ ((a0.set a1.toNat y18))[a3.toNat]? = some y := ⟨_, rfl, getD_get (by first | exact hl25 | simpa using hl25 | (simp only [List.length_set]; omega) | omega | (rw [(sortI_perm _).length_eq]; exact hl25))⟩
      obtain ⟨b25, u25, cs25, l25, f25, j25, i25, g25, k25⟩ := OwnS.elem wst395 h25
      obtain rfl : l25 = [.int .u64 y25] := g25
      refine Plan.v 14 [15] (by kernel_rfl) (by kernel_rfl) (by kernel_rfl) (by kernel_rfl) rfl (fun _ _ h_ => R.ixp (sz := ((intE .u64)).size) Try.underlying22 Try.sizeOf26 rfl rfl rfl (by first | omega | (simp; done) | (simp; omega) | (simp at *; omega)) i25 (TL.nil h_)) ?_
      refine Plan.s1 15 [] (by kernel_rfl) (by kernel_rfl) rfl ?_
      refine R.stEF (E := (intE .u64)) (e := 26) (v := (.slice Aa0 a0.length pa0)) (m := [.int .u64 y22]) (o := 0) (y := y25) (y' := y22) (j := a3.toNat) Try.sizeOf26 rfl wst395 .hd i25 rfl rfl (cells1 rfl) (all_one rfl) h25 (by show 0 + 1 ≤ 1; decide) (fun l hl => by have e0 : l = [.int .u64 y25] := hl; subst e0; exact rfl) ?_
      intro cst396 wst396
      refine TL.nil (Plan.e0 (HLe.refl _) ?_)
      refine Plan.done (Post.thnN ?_)
      exact ⟨((((a0.set a1.toNat y18)).set a3.toNat y22), cst396), HLe.refl _, ⟨(Has.cons .hd Has.nil), wst396, (by subst e25; subst e24; subst e22; subst e18; rfl)⟩, rfl, rfl, rfl, trivial⟩
    · refine R.ld Try.isAgg26 rfl rfl (by rw [← f22]; exact .hd) (k22 0 _ rfl) ?_
      refine TL.nil (Plan.e1 (HLe.refl _) ?_)
      refine Plan.s1 7 [12, 13, 14, 15] (by kernel_rfl) (by kernel_rfl) rfl ?_
      refine R.ld Try.isAgg26 rfl rfl (by rw [← f18]; exact .hd) (k18 0 _ rfl) ?_
      refine TL.nil (Plan.e1 (HLe.refl _) ?_)
      have hl24 : a1.toNat < a0.length := by first | omega | (simp; done) | (simp; omega) | (simp at *; omega)
      obtain ⟨y24, e24, h24⟩ : ∃ y, y = (a0.getD a1.toNat (0 : Int)) ∧ a0[a1.toNat]? = some y := ⟨_, rfl, getD_get (by first | exact hl24 | simpa using hl24 | (simp only [List.length_set]; omega) | omega | (rw [(sortI_perm _).length_eq]; exact hl24))⟩
      obtain ⟨b24, u24, cs24, l24, f24, j24, i24, g24, k24⟩ := OwnS.elem ha0 h24
      obtain rfl : l24 = [.int .u64 y24] := g24
      refine Plan.v 12 [13, 14, 15] (by kernel_rfl) (by kernel_rfl) (by kernel_rfl) (by kernel_rfl) rfl (fun _ _ h_ => R.ixp (sz := ((intE .u64)).size) Try.underlying22 Try.sizeOf26 rfl rfl rfl (by first | omega | (simp; done) | (simp; omega) | (simp at *; omega)) i24 (TL.nil h_)) ?_
      refine Plan.s1 13 [14, 15] (by kernel_rfl) (by kernel_rfl) rfl ?_
      refine R.stEF (E := (intE .u64)) (e := 26) (v := (.slice Aa0 a0.length pa0)) (m := [.int .u64 y18]) (o := 0) (y := y24) (y' := y18) (j := a1.toNat) Try.sizeOf26 rfl ha0 .hd i24 rfl rfl (cells1 rfl) (all_one rfl) h24 (by show 0 + 1 ≤ 1; decide) (fun l hl => by have e0 : l = [.int .u64 y24] := hl; subst e0; exact rfl) ?_
      intro cst397 wst397
      refine TL.nil (Plan.e0 (HLe.refl _) ?_)
      have hl25 : a3.toNat < a0.length := by first | omega | (simp; done) | (simp; omega) | (simp at *; omega)
      obtain ⟨y25, e25, h25⟩ : ∃ y, y = (((a0.set a1.toNat y18)).getD a3.toNat (0 : Int)) ∧ ((a0.set a1.toNat y18))[a3.toNat]? = some y := ⟨_, rfl, getD_get (by first | exact hl25 | simpa using hl25 | (simp only [List.length_set]; omega) | omega | (rw [(sortI_perm _).length_eq]; exact hl25))⟩
      obtain ⟨b25, u25, cs25, l25, f25, j25, i25, g25, k25⟩ := OwnS.elem wst397 h25
      obtain rfl : l25 = [.int .u64 y25] := g25
      refine Plan.v 14 [15] (by kernel_rfl) (by kernel_rfl) (by kernel_rfl) (by kernel_rfl) rfl (fun _ _ h_ => R.ixp (sz := ((intE .u64)).size) Try.underlying22 Try.sizeOf26 rfl rfl rfl (by first | omega | (simp; done) | (simp; omega) | (simp at *; omega)) i25 (TL.nil h_)) ?_
      refine Plan.s1 15 [] (by kernel_rfl) (by kernel_rfl) rfl ?_
      refine R.stEF (E := (intE .u64)) (e := 26) (v := (.slice Aa0 a0.length pa0)) (m := [.int .u64 y22]) (o := 0) (y := y25) (y' := y22) (j := a3.toNat) Try.sizeOf26 rfl wst397 .hd i25 rfl rfl (cells1 rfl) (all_one rfl) h25 (by show 0 + 1 ≤ 1; decide) (fun l hl => by have e0 : l = [.int .u64 y25] := hl; subst e0; exact rfl) ?_
      intro cst398 wst398
      refine TL.nil (Plan.e0 (HLe.refl _) ?_)
      refine Plan.done (Post.thnN ?_)
      exact ⟨((((a0.set a1.toNat y18)).set a3.toNat y22), cst398), HLe.refl _, ⟨(Has.cons .hd Has.nil), wst398, (by subst e25; subst e24; subst e22; subst e18; rfl)⟩, rfl, rfl, rfl, trivial⟩
  · intro ⟨xPa0c1, cPa0c1⟩ σ_c1 H_c1 L_c1 ds_c1 s_c1 hI_c1
    obtain ⟨hLc1, wPa0c1, hTc1⟩ := hI_c1
    have nPa0c1_ := OwnS.len wPa0c1
    refine T.has hLc1 ?_
    refine T.seq ?_
    refine T.region ?_
    refine R.mvE rfl (by conv => lhs; whnf) ?_
    refine R.addI rfl rfl rfl (by omega) ?_
    refine R.mvE rfl (by conv => lhs; whnf) ?_
    refine R.subI rfl rfl rfl (by omega) ?_
    refine R.asE rfl (by conv => lhs; whnf) ?_
    refine R.asE rfl (by conv => lhs; whnf) ?_
    refine TL.nil (Post.thnN ?_)
    refine T.seq ?_
    refine T.block ?_
    refine T.loop (ι := Nat × Int) (fun ⟨kl2, n10l2⟩ H' L' ds' => (a2 - n10l2).toNat < kl2 ∧ Has L' [cPa0c1] ∧ a1 + 1 ≤ n10l2 ∧ n10l2 ≤ a2 ∧ slices_partitionOrdered_Id_l2 a1 a2 xPa0c1 kl2 n10l2 = slices_partitionOrdered_Id_l2 a1 a2 xPa0c1 ((a2 - ((a1 + 1))).toNat + 1) ((a1 + 1))) (fun ⟨kl2, n10l2⟩ => [(0, .slice Aa0 a0.length pa0), (1, .int .i64 a1), (10, .int .i64 n10l2), (11, .int .i64 (a2 - 1))]) (fun ⟨kl2, n10l2⟩ => kl2) (((a2 - ((a1 + 1))).toNat + 1), (a1 + 1)) ?_ ?_ ?_
    · exact ⟨(by omega), (Has.cons .hd Has.nil), (by first | omega | (simp; done) | (simp; omega) | (simp at *; omega)), (by first | omega | (simp; done) | (simp; omega) | (simp at *; omega)), (by rfl)⟩
    · exact ⟨rfl, rfl, rfl, rfl, trivial⟩
    · intro ⟨kl2, n10l2⟩ σ_l2 H_l2 L_l2 ds_l2 s_l2 hI_l2
      obtain ⟨hkl2, hI_l2⟩ := hI_l2
      obtain ⟨ml2, rfl⟩ : ∃ m, kl2 = m + 1 := ⟨kl2 - 1, by omega⟩
      obtain ⟨hLl2, hBl2_0, hBl2_1, hQl2⟩ := hI_l2
      refine T.has hLl2 ?_
      refine T.seq ?_
      refine T.seq ?_
      refine T.cutK (ι := Bool) (fun b43c3 H' L' ds' => Has L' [cPa0c1] ∧ (if n10l2 ≤ (a2 - 1) then ((cmp_Less_Id_m (xPa0c1.getD n10l2.toNat (0 : Int)) (xPa0c1.getD a1.toNat (0 : Int)))) else false : Bool) = b43c3) (fun b43c3 => [(0, .slice Aa0 a0.length pa0), (1, .int .i64 a1), (10, .int .i64 n10l2), (11, .int .i64 (a2 - 1)), (43, .bool (b43c3))]) ?_ ?_
      · refine T.draw Try_mixed (by kernel_rfl) ?_
        refine Plan.v 0 [1, 2, 3, 4, 5, 6, 7, 8, 9, 10, 11, 12, 13] (by kernel_rfl) (by kernel_rfl) (by kernel_rfl) (by kernel_rfl) rfl (fun _ _ h_ => R.mvE rfl (by conv => lhs; whnf) (TL.nil h_)) ?_
        refine Plan.v 1 [2, 3, 4, 5, 6, 7, 8, 9, 10, 11, 12, 13] (by kernel_rfl) (by kernel_rfl) (by kernel_rfl) (by kernel_rfl) rfl (fun _ _ h_ => R.mvE rfl (by conv => lhs; whnf) (TL.nil h_)) ?_
        refine Plan.v 2 [3, 4, 5, 6, 7, 8, 9, 10, 11, 12, 13] (by kernel_rfl) (by kernel_rfl) (by kernel_rfl) (by kernel_rfl) rfl (fun _ _ h_ => R.leq rfl rfl rfl (TL.nil h_)) ?_
        refine Plan.v 3 [4, 5, 6, 7, 8, 9, 10, 11, 12, 13] (by kernel_rfl) (by kernel_rfl) (by kernel_rfl) (by kernel_rfl) rfl (fun _ _ h_ => R.mvE rfl (by conv => lhs; whnf) (TL.nil h_)) ?_
        refine Plan.gsplitD 33 rfl (fun g33 => ?_) (fun g33 => ?_)
        · refine Plan.v 4 [5, 6, 7, 8, 9, 10, 11, 12, 13] (by kernel_rfl) (by kernel_rfl) (by kernel_rfl) (by kernel_rfl) rfl (fun _ _ h_ => R.mvE rfl (by conv => lhs; whnf) (TL.nil h_)) ?_
          refine Plan.v 5 [6, 7, 8, 9, 10, 11, 12, 13] (by kernel_rfl) (by kernel_rfl) (by kernel_rfl) (by kernel_rfl) rfl (fun _ _ h_ => R.mvE rfl (by conv => lhs; whnf) (TL.nil h_)) ?_
          have hl36 : n10l2.toNat < a0.length := by first | omega | (simp; done) | (simp; omega) | (simp at *; omega)
          obtain ⟨y36, e36, h36⟩ : ∃ y, y = (xPa0c1.getD n10l2.toNat (0 : Int)) ∧ xPa0c1[n10l2.toNat]? = some y := ⟨_, rfl, getD_get (by first | exact hl36 | simpa using hl36 | (simp only [List.length_set]; omega) | omega | (rw [(sortI_perm _).length_eq]; exact hl36))⟩
          obtain ⟨b36, u36, cs36, l36, f36, j36, i36, g36, k36⟩ := OwnS.elem (OwnS.mono wPa0c1 s_l2) h36
          obtain rfl : l36 = [.int .u64 y36] := g36
          refine Plan.v 6 [7, 8, 9, 10, 11, 12, 13] (by kernel_rfl) (by kernel_rfl) (by kernel_rfl) (by kernel_rfl) rfl (fun _ _ h_ => R.ixp (sz := ((intE .u64)).size) Try.underlying22 Try.sizeOf26 rfl rfl rfl (by first | omega | (simp; done) | (simp; omega) | (simp at *; omega)) i36 (TL.nil h_)) ?_
          refine Plan.v 8 [7, 9, 10, 11, 12, 13] (by kernel_rfl) (by kernel_rfl) (by kernel_rfl) (by kernel_rfl) rfl (fun _ _ h_ => R.mvE rfl (by conv => lhs; whnf) (TL.nil h_)) ?_
          refine Plan.v 9 [7, 10, 11, 12, 13] (by kernel_rfl) (by kernel_rfl) (by kernel_rfl) (by kernel_rfl) rfl (fun _ _ h_ => R.mvE rfl (by conv => lhs; whnf) (TL.nil h_)) ?_
          have hl40 : a1.toNat < a0.length := by first | omega | (simp; done) | (simp; omega) | (simp at *; omega)
          obtain ⟨y40, e40, h40⟩ : ∃ y, y = (xPa0c1.getD a1.toNat (0 : Int)) ∧ xPa0c1[a1.toNat]? = some y := ⟨_, rfl, getD_get (by first | exact hl40 | simpa using hl40 | (simp only [List.length_set]; omega) | omega | (rw [(sortI_perm _).length_eq]; exact hl40))⟩
          obtain ⟨b40, u40, cs40, l40, f40, j40, i40, g40, k40⟩ := OwnS.elem (OwnS.mono wPa0c1 s_l2) h40
          obtain rfl : l40 = [.int .u64 y40] := g40
          refine Plan.v 10 [7, 11, 12, 13] (by kernel_rfl) (by kernel_rfl) (by kernel_rfl) (by kernel_rfl) rfl (fun _ _ h_ => R.ixp (sz := ((intE .u64)).size) Try.underlying22 Try.sizeOf26 rfl rfl rfl (by first | omega | (simp; done) | (simp; omega) | (simp at *; omega)) i40 (TL.nil h_)) ?_
          refine Plan.s2 7 11 [11, 12, 13] [7, 12, 13] (by kernel_rfl) (by kernel_rfl) (by kernel_rfl) rfl rfl ?_ ?_
          · refine R.ld Try.isAgg26 rfl rfl (by rw [← f36]; exact .hd) (k36 0 _ rfl) ?_
            refine TL.nil (Plan.e1 (HLe.refl _) ?_)
            refine Plan.s1 11 [12, 13] (by kernel_rfl) (by kernel_rfl) rfl ?_
            refine R.ld Try.isAgg26 rfl rfl (by rw [← f40]; exact .hd) (k40 0 _ rfl) ?_
            refine TL.nil (Plan.e1 (HLe.refl _) ?_)
            refine Plan.v 12 [13] (by kernel_rfl) (by kernel_rfl) (by kernel_rfl) (by kernel_rfl) rfl (fun _ _ h_ => R.callv rfl rfl rfl (cmp_Less_Id_c _ (y36) (y40)) (TL.nil h_)) ?_
            refine Plan.v 13 [] (by kernel_rfl) (by kernel_rfl) (by kernel_rfl) (by kernel_rfl) rfl (fun _ _ h_ => R.pkTE rfl rfl (by conv => lhs; whnf) (TL.nil h_)) ?_
            refine Plan.done (Post.thnN ?_)
            exact ⟨(cmp_Less_Id_m y36 y40), HLe.refl _, ⟨(Has.cons .hd Has.nil), (by subst e40; subst e36; rw [if_pos g33])⟩, rfl, rfl, rfl, rfl, rfl, trivial⟩
          · refine R.ld Try.isAgg26 rfl rfl (by rw [← f40]; exact .hd) (k40 0 _ rfl) ?_
            refine TL.nil (Plan.e1 (HLe.refl _) ?_)
            refine Plan.s1 7 [12, 13] (by kernel_rfl) (by kernel_rfl) rfl ?_
            refine R.ld Try.isAgg26 rfl rfl (by rw [← f36]; exact .hd) (k36 0 _ rfl) ?_
            refine TL.nil (Plan.e1 (HLe.refl _) ?_)
            refine Plan.v 12 [13] (by kernel_rfl) (by kernel_rfl) (by kernel_rfl) (by kernel_rfl) rfl (fun _ _ h_ => R.callv rfl rfl rfl (cmp_Less_Id_c _ (y36) (y40)) (TL.nil h_)) ?_
            refine Plan.v 13 [] (by kernel_rfl) (by kernel_rfl) (by kernel_rfl) (by kernel_rfl) rfl (fun _ _ h_ => R.pkTE rfl rfl (by conv => lhs; whnf) (TL.nil h_)) ?_
            refine Plan.done (Post.thnN ?_)
            exact ⟨(cmp_Less_Id_m y36 y40), HLe.refl _, ⟨(Has.cons .hd Has.nil), (by subst e40; subst e36; rw [if_pos g33])⟩, rfl, rfl, rfl, rfl, rfl, trivial⟩
        · refine Plan.v 4 [5, 6, 7, 8, 9, 10, 11, 12, 13] (by kernel_rfl) (by kernel_rfl) (by kernel_rfl) (by kernel_rfl) rfl (fun _ _ h_ => TL.off rfl rfl rfl (TL.nil h_)) ?_
          refine Plan.v 5 [6, 7, 8, 9, 10, 11, 12, 13] (by kernel_rfl) (by kernel_rfl) (by kernel_rfl) (by kernel_rfl) rfl (fun _ _ h_ => TL.off rfl rfl rfl (TL.nil h_)) ?_
          refine Plan.v 6 [7, 8, 9, 10, 11, 12, 13] (by kernel_rfl) (by kernel_rfl) (by kernel_rfl) (by kernel_rfl) rfl (fun _ _ h_ => TL.off rfl rfl rfl (TL.nil h_)) ?_
          refine Plan.v 7 [8, 9, 10, 11, 12, 13] (by kernel_rfl) (by kernel_rfl) (by kernel_rfl) (by kernel_rfl) rfl (fun _ _ h_ => TL.off rfl rfl rfl (TL.nil h_)) ?_
          refine Plan.v 8 [9, 10, 11, 12, 13] (by kernel_rfl) (by kernel_rfl) (by kernel_rfl) (by kernel_rfl) rfl (fun _ _ h_ => TL.off rfl rfl rfl (TL.nil h_)) ?_
          refine Plan.v 9 [10, 11, 12, 13] (by kernel_rfl) (by kernel_rfl) (by kernel_rfl) (by kernel_rfl) rfl (fun _ _ h_ => TL.off rfl rfl rfl (TL.nil h_)) ?_
          refine Plan.v 10 [11, 12, 13] (by kernel_rfl) (by kernel_rfl) (by kernel_rfl) (by kernel_rfl) rfl (fun _ _ h_ => TL.off rfl rfl rfl (TL.nil h_)) ?_
          refine Plan.v 11 [12, 13] (by kernel_rfl) (by kernel_rfl) (by kernel_rfl) (by kernel_rfl) rfl (fun _ _ h_ => TL.off rfl rfl rfl (TL.nil h_)) ?_
          refine Plan.v 12 [13] (by kernel_rfl) (by kernel_rfl) (by kernel_rfl) (by kernel_rfl) rfl (fun _ _ h_ => TL.off rfl rfl rfl (TL.nil h_)) ?_
          refine Plan.v 13 [] (by kernel_rfl) (by kernel_rfl) (by kernel_rfl) (by kernel_rfl) rfl (fun _ _ h_ => R.pkFE rfl rfl (by conv => lhs; whnf) (TL.nil h_)) ?_
          refine Plan.done (Post.thnN ?_)
          exact ⟨false, HLe.refl _, ⟨(Has.cons .hd Has.nil), (by rw [if_neg g33])⟩, rfl, rfl, rfl, rfl, rfl, trivial⟩
      · intro b43c3 σ_c3 H_c3 L_c3 ds_c3 s_c3 hI_c3
        obtain ⟨hLc3, hTc3⟩ := hI_c3
        refine T.has hLc3 ?_
        refine T.cond rfl (fun c43 => ?_) (fun c43 => ?_)
        · refine T.set 43 (.bool true) (congrArg Value.bool c43) ?_
          have hZ43 := hTc3.trans c43
          try simp only [or_f, or_t, and_f, and_t, decide_eq_true_eq, decide_eq_false_iff_not, Bool.not_eq_true'] at hZ43
          refine T.skip (Post.thnN ?_)
          refine T.block ?_
          refine T.region ?_
          refine R.mvE rfl (by conv => lhs; whnf) ?_
          refine R.addI rfl rfl rfl (by omega) ?_
          refine R.asE rfl (by conv => lhs; whnf) ?_
          refine TL.nil (Post.blkN ?_)
          refine id (Post.thnN ?_)
          exact ⟨(ml2, (n10l2 + 1)), (s_l2.trans s_c3), ⟨(by first | omega | (simp; omega) | (simp at *; omega)), (Has.cons .hd Has.nil), (by first | omega | (simp; done) | (simp; omega) | (simp at *; omega)), (by first | omega | (simp; done) | (simp; omega) | (simp at *; omega)), (by rw [← hQl2, slices_partitionOrdered_Id_l2]; rw [hTc3, LR.seq_go, if_t c43])⟩, by show ml2 < ml2 + 1; omega, rfl, rfl, rfl, rfl, trivial⟩
        · refine T.set 43 (.bool false) (congrArg Value.bool c43) ?_
          have hZ43 := hTc3.trans c43
          try simp only [or_f, or_t, and_f, and_t, decide_eq_true_eq, decide_eq_false_iff_not, Bool.not_eq_true'] at hZ43
          refine T.exit (Post.thnE (Post.thnE (Post.blkX ?_)))
          have hEl2 : slices_partitionOrdered_Id_l2 a1 a2 xPa0c1 ((a2 - ((a1 + 1))).toNat + 1) ((a1 + 1)) = n10l2 := (by rw [← hQl2, slices_partitionOrdered_Id_l2]; rw [hTc3, LR.seq_go, if_f c43])
          refine id (Post.thnN ?_)
          refine T.seq ?_
          refine T.block ?_
          refine T.loop (ι := Nat × Int) (fun ⟨kl4, n11l4⟩ H' L' ds' => (n11l4 - n10l2 + 1).toNat < kl4 ∧ Has L' [cPa0c1] ∧ a1 ≤ n11l4 ∧ n11l4 < a2 ∧ slices_partitionOrdered_Id_l4 a1 n10l2 xPa0c1 kl4 n11l4 = slices_partitionOrdered_Id_l4 a1 n10l2 xPa0c1 ((((a2 - 1)) - n10l2 + 1).toNat + 1) ((a2 - 1))) (fun ⟨kl4, n11l4⟩ => [(0, .slice Aa0 a0.length pa0), (1, .int .i64 a1), (10, .int .i64 n10l2), (11, .int .i64 n11l4)]) (fun ⟨kl4, n11l4⟩ => kl4) (((((a2 - 1)) - n10l2 + 1).toNat + 1), (a2 - 1)) ?_ ?_ ?_
          · exact ⟨(by omega), (Has.cons .hd Has.nil), (by first | omega | (simp; done) | (simp; omega) | (simp at *; omega)), (by first | omega | (simp; done) | (simp; omega) | (simp at *; omega)), (by rfl)⟩
          · exact ⟨rfl, rfl, rfl, rfl, trivial⟩
          · intro ⟨kl4, n11l4⟩ σ_l4 H_l4 L_l4 ds_l4 s_l4 hI_l4
            obtain ⟨hkl4, hI_l4⟩ := hI_l4
            obtain ⟨ml4, rfl⟩ : ∃ m, kl4 = m + 1 := ⟨kl4 - 1, by omega⟩
            obtain ⟨hLl4, hBl4_0, hBl4_1, hQl4⟩ := hI_l4
            refine T.has hLl4 ?_
            refine T.seq ?_
            refine T.seq ?_
            refine T.cutK (ι := Bool) (fun b60c5 H' L' ds' => Has L' [cPa0c1] ∧ (if n10l2 ≤ n11l4 then ((!(cmp_Less_Id_m (xPa0c1.getD n11l4.toNat (0 : Int)) (xPa0c1.getD a1.toNat (0 : Int))))) else false : Bool) = b60c5) (fun b60c5 => [(0, .slice Aa0 a0.length pa0), (1, .int .i64 a1), (10, .int .i64 n10l2), (11, .int .i64 n11l4), (60, .bool (b60c5))]) ?_ ?_
            · refine T.draw Try_mixed (by kernel_rfl) ?_
              refine Plan.v 0 [1, 2, 3, 4, 5, 6, 7, 8, 9, 10, 11, 12, 13, 14] (by kernel_rfl) (by kernel_rfl) (by kernel_rfl) (by kernel_rfl) rfl (fun _ _ h_ => R.mvE rfl (by conv => lhs; whnf) (TL.nil h_)) ?_
              refine Plan.v 1 [2, 3, 4, 5, 6, 7, 8, 9, 10, 11, 12, 13, 14] (by kernel_rfl) (by kernel_rfl) (by kernel_rfl) (by kernel_rfl) rfl (fun _ _ h_ => R.mvE rfl (by conv => lhs; whnf) (TL.nil h_)) ?_
              refine Plan.v 2 [3, 4, 5, 6, 7, 8, 9, 10, 11, 12, 13, 14] (by kernel_rfl) (by kernel_rfl) (by kernel_rfl) (by kernel_rfl) rfl (fun _ _ h_ => R.leq rfl rfl rfl (TL.nil h_)) ?_
              refine Plan.v 3 [4, 5, 6, 7, 8, 9, 10, 11, 12, 13, 14] (by kernel_rfl) (by kernel_rfl) (by kernel_rfl) (by kernel_rfl) rfl (fun _ _ h_ => R.mvE rfl (by conv => lhs; whnf) (TL.nil h_)) ?_
              refine Plan.gsplitD 49 rfl (fun g49 => ?_) (fun g49 => ?_)
              · refine Plan.v 4 [5, 6, 7, 8, 9, 10, 11, 12, 13, 14] (by kernel_rfl) (by kernel_rfl) (by kernel_rfl) (by kernel_rfl) rfl (fun _ _ h_ => R.mvE rfl (by conv => lhs; whnf) (TL.nil h_)) ?_
                refine Plan.v 5 [6, 7, 8, 9, 10, 11, 12, 13, 14] (by kernel_rfl) (by kernel_rfl) (by kernel_rfl) (by kernel_rfl) rfl (fun _ _ h_ => R.mvE rfl (by conv => lhs; whnf) (TL.nil h_)) ?_
                have hl52 : n11l4.toNat < a0.length := by first | omega | (simp; done) | (simp; omega) | (simp at *; omega)
                obtain ⟨y52, e52, h52⟩ : ∃ y, y = (xPa0c1.getD n11l4.toNat (0 : Int)) ∧ xPa0c1[n11l4.toNat]? = some y := ⟨_, rfl, getD_get (by first | exact hl52 | simpa using hl52 | (simp only [List.length_set]; omega) | omega | (rw [(sortI_perm _).length_eq]; exact hl52))⟩
                obtain ⟨b52, u52, cs52, l52, f52, j52, i52, g52, k52⟩ := OwnS.elem (OwnS.mono wPa0c1 (s_l2.trans (s_c3.trans s_l4))) h52
                obtain rfl : l52 = [.int .u64 y52] := g52
                refine Plan.v 6 [7, 8, 9, 10, 11, 12, 13, 14] (by kernel_rfl) (by kernel_rfl) (by kernel_rfl) (by kernel_rfl) rfl (fun _ _ h_ => R.ixp (sz := ((intE .u64)).size) Try.underlying22 Try.sizeOf26 rfl rfl rfl (by first | omega | (simp; done) | (simp; omega) | (simp at *; omega)) i52 (TL.nil h_)) ?_
                refine Plan.v 8 [7, 9, 10, 11, 12, 13, 14] (by kernel_rfl) (by kernel_rfl) (by kernel_rfl) (by kernel_rfl) rfl (fun _ _ h_ => R.mvE rfl (by conv => lhs; whnf) (TL.nil h_)) ?_
                refine Plan.v 9 [7, 10, 11, 12, 13, 14] (by kernel_rfl) (by kernel_rfl) (by kernel_rfl) (by kernel_rfl) rfl (fun _ _ h_ => R.mvE rfl (by conv => lhs; whnf) (TL.nil h_)) ?_
                have hl56 : a1.toNat < a0.length := by first | omega | (simp; done) | (simp; omega) | (simp at *; omega)
                obtain ⟨y56, e56, h56⟩ : ∃ y, y = (xPa0c1.getD a1.toNat (0 : Int)) ∧ xPa0c1[a1.toNat]? = some y := ⟨_, rfl, getD_get (by first | exact hl56 | simpa using hl56 | (simp only [List.length_set]; omega) | omega | (rw [(sortI_perm _).length_eq]; exact hl56))⟩
                obtain ⟨b56, u56, cs56, l56, f56, j56, i56, g56, k56⟩ := OwnS.elem (OwnS.mono wPa0c1 (s_l2.trans (s_c3.trans s_l4))) h56
                obtain rfl : l56 = [.int .u64 y56] := g56
                refine Plan.v 10 [7, 11, 12, 13, 14] (by kernel_rfl) (by kernel_rfl) (by kernel_rfl) (by kernel_rfl) rfl (fun _ _ h_ => R.ixp (sz := ((intE .u64)).size) Try.underlying22 Try.sizeOf26 rfl rfl rfl (by first | omega | (simp; done) | (simp; omega) | (simp at *; omega)) i56 (TL.nil h_)) ?_
                refine Plan.s2 7 11 [11, 12, 13, 14] [7, 12, 13, 14] (by kernel_rfl) (by kernel_rfl) (by kernel_rfl) rfl rfl ?_ ?_
                · refine R.ld Try.isAgg26 rfl rfl (by rw [← f52]; exact .hd) (k52 0 _ rfl) ?_
                  refine TL.nil (Plan.e1 (HLe.refl _) ?_)
                  refine Plan.s1 11 [12, 13, 14] (by kernel_rfl) (by kernel_rfl) rfl ?_
                  refine R.ld Try.isAgg26 rfl rfl (by rw [← f56]; exact .hd) (k56 0 _ rfl) ?_
                  refine TL.nil (Plan.e1 (HLe.refl _) ?_)
                  refine Plan.v 12 [13, 14] (by kernel_rfl) (by kernel_rfl) (by kernel_rfl) (by kernel_rfl) rfl (fun _ _ h_ => R.callv rfl rfl rfl (cmp_Less_Id_c _ (y52) (y56)) (TL.nil h_)) ?_
                  refine Plan.v 13 [14] (by kernel_rfl) (by kernel_rfl) (by kernel_rfl) (by kernel_rfl) rfl (fun _ _ h_ => R.not rfl rfl (TL.nil h_)) ?_
                  refine Plan.v 14 [] (by kernel_rfl) (by kernel_rfl) (by kernel_rfl) (by kernel_rfl) rfl (fun _ _ h_ => R.pkTE rfl rfl (by conv => lhs; whnf) (TL.nil h_)) ?_
                  refine Plan.done (Post.thnN ?_)
                  exact ⟨(!(cmp_Less_Id_m y52 y56)), HLe.refl _, ⟨(Has.cons .hd Has.nil), (by subst e56; subst e52; rw [if_pos g49])⟩, rfl, rfl, rfl, rfl, rfl, trivial⟩
                · refine R.ld Try.isAgg26 rfl rfl (by rw [← f56]; exact .hd) (k56 0 _ rfl) ?_
                  refine TL.nil (Plan.e1 (HLe.refl _) ?_)
                  refine Plan.s1 7 [12, 13, 14] (by kernel_rfl) (by kernel_rfl) rfl ?_
                  refine R.ld Try.isAgg26 rfl rfl (by rw [← f52]; exact .hd) (k52 0 _ rfl) ?_
                  refine TL.nil (Plan.e1 (HLe.refl _) ?_)
                  refine Plan.v 12 [13, 14] (by kernel_rfl) (by kernel_rfl) (by kernel_rfl) (by kernel_rfl) rfl (fun _ _ h_ => R.callv rfl rfl rfl (cmp_Less_Id_c _ (y52) (y56)) (TL.nil h_)) ?_
                  refine Plan.v 13 [14] (by kernel_rfl) (by kernel_rfl) (by kernel_rfl) (by kernel_rfl) rfl (fun _ _ h_ => R.not rfl rfl (TL.nil h_)) ?_
                  refine Plan.v 14 [] (by kernel_rfl) (by kernel_rfl) (by kernel_rfl) (by kernel_rfl) rfl (fun _ _ h_ => R.pkTE rfl rfl (by conv => lhs; whnf) (TL.nil h_)) ?_
                  refine Plan.done (Post.thnN ?_)
                  exact ⟨(!(cmp_Less_Id_m y52 y56)), HLe.refl _, ⟨(Has.cons .hd Has.nil), (by subst e56; subst e52; rw [if_pos g49])⟩, rfl, rfl, rfl, rfl, rfl, trivial⟩
              · refine Plan.v 4 [5, 6, 7, 8, 9, 10, 11, 12, 13, 14] (by kernel_rfl) (by kernel_rfl) (by kernel_rfl) (by kernel_rfl) rfl (fun _ _ h_ => TL.off rfl rfl rfl (TL.nil h_)) ?_
                refine Plan.v 5 [6, 7, 8, 9, 10, 11, 12, 13, 14] (by kernel_rfl) (by kernel_rfl) (by kernel_rfl) (by kernel_rfl) rfl (fun _ _ h_ => TL.off rfl rfl rfl (TL.nil h_)) ?_
                refine Plan.v 6 [7, 8, 9, 10, 11, 12, 13, 14] (by kernel_rfl) (by kernel_rfl) (by kernel_rfl) (by kernel_rfl) rfl (fun _ _ h_ => TL.off rfl rfl rfl (TL.nil h_)) ?_
                refine Plan.v 7 [8, 9, 10, 11, 12, 13, 14] (by kernel_rfl) (by kernel_rfl) (by kernel_rfl) (by kernel_rfl) rfl (fun _ _ h_ => TL.off rfl rfl rfl (TL.nil h_)) ?_
                refine Plan.v 8 [9, 10, 11, 12, 13, 14] (by kernel_rfl) (by kernel_rfl) (by kernel_rfl) (by kernel_rfl) rfl (fun _ _ h_ => TL.off rfl rfl rfl (TL.nil h_)) ?_
                refine Plan.v 9 [10, 11, 12, 13, 14] (by kernel_rfl) (by kernel_rfl) (by kernel_rfl) (by kernel_rfl) rfl (fun _ _ h_ => TL.off rfl rfl rfl (TL.nil h_)) ?_
                refine Plan.v 10 [11, 12, 13, 14] (by kernel_rfl) (by kernel_rfl) (by kernel_rfl) (by kernel_rfl) rfl (fun _ _ h_ => TL.off rfl rfl rfl (TL.nil h_)) ?_
                refine Plan.v 11 [12, 13, 14] (by kernel_rfl) (by kernel_rfl) (by kernel_rfl) (by kernel_rfl) rfl (fun _ _ h_ => TL.off rfl rfl rfl (TL.nil h_)) ?_
                refine Plan.v 12 [13, 14] (by kernel_rfl) (by kernel_rfl) (by kernel_rfl) (by kernel_rfl) rfl (fun _ _ h_ => TL.off rfl rfl rfl (TL.nil h_)) ?_
                refine Plan.v 13 [14] (by kernel_rfl) (by kernel_rfl) (by kernel_rfl) (by kernel_rfl) rfl (fun _ _ h_ => TL.off rfl rfl rfl (TL.nil h_)) ?_
                refine Plan.v 14 [] (by kernel_rfl) (by kernel_rfl) (by kernel_rfl) (by kernel_rfl) rfl (fun _ _ h_ => R.pkFE rfl rfl (by conv => lhs; whnf) (TL.nil h_)) ?_
                refine Plan.done (Post.thnN ?_)
                exact ⟨false, HLe.refl _, ⟨(Has.cons .hd Has.nil), (by rw [if_neg g49])⟩, rfl, rfl, rfl, rfl, rfl, trivial⟩
            · intro b60c5 σ_c5 H_c5 L_c5 ds_c5 s_c5 hI_c5
              obtain ⟨hLc5, hTc5⟩ := hI_c5
              refine T.has hLc5 ?_
              refine T.cond rfl (fun c60 => ?_) (fun c60 => ?_)
              · refine T.set 60 (.bool true) (congrArg Value.bool c60) ?_
                have hZ60 := hTc5.trans c60
                try simp only [or_f, or_t, and_f, and_t, decide_eq_true_eq, decide_eq_false_iff_not, Bool.not_eq_true'] at hZ60
                refine T.skip (Post.thnN ?_)
                refine T.block ?_
                refine T.region ?_
                refine R.mvE rfl (by conv => lhs; whnf) ?_
                refine R.subI rfl rfl rfl (by omega) ?_
                refine R.asE rfl (by conv => lhs; whnf) ?_
                refine TL.nil (Post.blkN ?_)
                refine id (Post.thnN ?_)
                exact ⟨(ml4, (n11l4 - 1)), (s_l4.trans s_c5), ⟨(by first | omega | (simp; omega) | (simp at *; omega)), (Has.cons .hd Has.nil), (by first | omega | (simp; done) | (simp; omega) | (simp at *; omega)), (by first | omega | (simp; done) | (simp; omega) | (simp at *; omega)), (by rw [← hQl4, slices_partitionOrdered_Id_l4]; rw [hTc5, LR.seq_go, if_t c60])⟩, by show ml4 < ml4 + 1; omega, rfl, rfl, rfl, rfl, trivial⟩
              · refine T.set 60 (.bool false) (congrArg Value.bool c60) ?_
                have hZ60 := hTc5.trans c60
                try simp only [or_f, or_t, and_f, and_t, decide_eq_true_eq, decide_eq_false_iff_not, Bool.not_eq_true'] at hZ60
                refine T.exit (Post.thnE (Post.thnE (Post.blkX ?_)))
                have hEl4 : slices_partitionOrdered_Id_l4 a1 n10l2 xPa0c1 ((((a2 - 1)) - n10l2 + 1).toNat + 1) ((a2 - 1)) = n11l4 := (by rw [← hQl4, slices_partitionOrdered_Id_l4]; rw [hTc5, LR.seq_go, if_f c60])
                refine id (Post.thnN ?_)
                refine T.seq ?_
                refine T.seq ?_
                refine T.region ?_
                refine R.mvE rfl (by conv => lhs; whnf) ?_
                refine R.mvE rfl (by conv => lhs; whnf) ?_
                refine R.gtr rfl rfl rfl ?_
                refine TL.nil (Post.thnN ?_)
                refine T.condD rfl (fun c65 => ?_) (fun c65 => ?_)
                · refine T.set 65 (.bool true) (congrArg Value.bool (decide_eq_true c65)) ?_
                  refine T.seq ?_
                  refine T.draw Try_mixed (by kernel_rfl) ?_
                  refine Plan.v 0 [1, 2, 3, 4, 5, 6, 7, 8, 9, 10, 11, 12, 13, 14, 15] (by kernel_rfl) (by kernel_rfl) (by kernel_rfl) (by kernel_rfl) rfl (fun _ _ h_ => R.mvE rfl (by conv => lhs; whnf) (TL.nil h_)) ?_
                  refine Plan.v 1 [2, 3, 4, 5, 6, 7, 8, 9, 10, 11, 12, 13, 14, 15] (by kernel_rfl) (by kernel_rfl) (by kernel_rfl) (by kernel_rfl) rfl (fun _ _ h_ => R.mvE rfl (by conv => lhs; whnf) (TL.nil h_)) ?_
                  refine Plan.v 2 [3, 4, 5, 6, 7, 8, 9, 10, 11, 12, 13, 14, 15] (by kernel_rfl) (by kernel_rfl) (by kernel_rfl) (by kernel_rfl) rfl (fun _ _ h_ => R.mvE rfl (by conv => lhs; whnf) (TL.nil h_)) ?_
                  refine Plan.v 3 [4, 5, 6, 7, 8, 9, 10, 11, 12, 13, 14, 15] (by kernel_rfl) (by kernel_rfl) (by kernel_rfl) (by kernel_rfl) rfl (fun _ _ h_ => R.mvE rfl (by conv => lhs; whnf) (TL.nil h_)) ?_
                  refine Plan.v 4 [5, 6, 7, 8, 9, 10, 11, 12, 13, 14, 15] (by kernel_rfl) (by kernel_rfl) (by kernel_rfl) (by kernel_rfl) rfl (fun _ _ h_ => R.mvE rfl (by conv => lhs; whnf) (TL.nil h_)) ?_
                  refine Plan.v 5 [6, 7, 8, 9, 10, 11, 12, 13, 14, 15] (by kernel_rfl) (by kernel_rfl) (by kernel_rfl) (by kernel_rfl) rfl (fun _ _ h_ => R.mvE rfl (by conv => lhs; whnf) (TL.nil h_)) ?_
                  have hl72 : a1.toNat < a0.length := by first | omega | (simp; done) | (simp; omega) | (simp at *; omega)
                  obtain ⟨y72, e72, h72⟩ : ∃ y, y = (xPa0c1.getD a1.toNat (0 : Int)) ∧ xPa0c1[a1.toNat]? = some y := ⟨_, rfl, getD_get (by first | exact hl72 | simpa using hl72 | (simp only [List.length_set]; omega) | omega | (rw [(sortI_perm _).length_eq]; exact hl72))⟩
                  obtain ⟨b72, u72, cs72, l72, f72, j72, i72, g72, k72⟩ := OwnS.elem (OwnS.mono wPa0c1 (s_l2.trans (s_c3.trans (s_l4.trans s_c5)))) h72
                  obtain rfl : l72 = [.int .u64 y72] := g72
                  refine Plan.v 6 [7, 8, 9, 10, 11, 12, 13, 14, 15] (by kernel_rfl) (by kernel_rfl) (by kernel_rfl) (by kernel_rfl) rfl (fun _ _ h_ => R.ixp (sz := ((intE .u64)).size) Try.underlying22 Try.sizeOf26 rfl rfl rfl (by first | omega | (simp; done) | (simp; omega) | (simp at *; omega)) i72 (TL.nil h_)) ?_
                  refine Plan.v 8 [7, 9, 10, 11, 12, 13, 14, 15] (by kernel_rfl) (by kernel_rfl) (by kernel_rfl) (by kernel_rfl) rfl (fun _ _ h_ => R.mvE rfl (by conv => lhs; whnf) (TL.nil h_)) ?_
                  refine Plan.v 9 [7, 10, 11, 12, 13, 14, 15] (by kernel_rfl) (by kernel_rfl) (by kernel_rfl) (by kernel_rfl) rfl (fun _ _ h_ => R.mvE rfl (by conv => lhs; whnf) (TL.nil h_)) ?_
                  have hl76 : n11l4.toNat < a0.length := by first | omega | (simp; done) | (simp; omega) | (simp at *; omega)
                  obtain ⟨y76, e76, h76⟩ : ∃ y, y = (xPa0c1.getD n11l4.toNat (0 : Int)) ∧ xPa0c1[n11l4.toNat]? = some y := ⟨_, rfl, getD_get (by first | exact hl76 | simpa using hl76 | (simp only [List.length_set]; omega) | omega | (rw [(sortI_perm _).length_eq]; exact hl76))⟩
                  obtain ⟨b76, u76, cs76, l76, f76, j76, i76, g76, k76⟩ := OwnS.elem (OwnS.mono wPa0c1 (s_l2.trans (s_c3.trans (s_l4.trans s_c5)))) h76
                  obtain rfl : l76 = [.int .u64 y76] := g76
                  refine Plan.v 10 [7, 11, 12, 13, 14, 15] (by kernel_rfl) (by kernel_rfl) (by kernel_rfl) (by kernel_rfl) rfl (fun _ _ h_ => R.ixp (sz := ((intE .u64)).size) Try.underlying22 Try.sizeOf26 rfl rfl rfl (by first | omega | (simp; done) | (simp; omega) | (simp at *; omega)) i76 (TL.nil h_)) ?_
                  refine Plan.s2 7 11 [11, 12, 13, 14, 15] [7, 12, 13, 14, 15] (by kernel_rfl) (by kernel_rfl) (by kernel_rfl) rfl rfl ?_ ?_
                  · refine R.ld Try.isAgg26 rfl rfl (by rw [← f72]; exact .hd) (k72 0 _ rfl) ?_
                    refine TL.nil (Plan.e1 (HLe.refl _) ?_)
                    refine Plan.s1 11 [12, 13, 14, 15] (by kernel_rfl) (by kernel_rfl) rfl ?_
                    refine R.ld Try.isAgg26 rfl rfl (by rw [← f76]; exact .hd) (k76 0 _ rfl) ?_
                    refine TL.nil (Plan.e1 (HLe.refl _) ?_)
                    have hl78 : n11l4.toNat < a0.length := by first | omega | (simp; done) | (simp; omega) | (simp at *; omega)
                    obtain ⟨y78, e78, h78⟩ : ∃ y, y = (xPa0c1.getD n11l4.toNat (0 : Int)) ∧ xPa0c1[n11l4.toNat]? = some y := ⟨_, rfl, getD_get (by first | exact hl78 | simpa using hl78 | (simp only [List.length_set]; omega) | omega | (rw [(sortI_perm _).length_eq]; exact hl78))⟩
                    obtain ⟨b78, u78, cs78, l78, f78, j78, i78, g78, k78⟩ := OwnS.elem (OwnS.mono wPa0c1 (s_l2.trans (s_c3.trans (s_l4.trans s_c5)))) h78
                    obtain rfl : l78 = [.int .u64 y78] := g78
                    refine Plan.v 12 [13, 14, 15] (by kernel_rfl) (by kernel_rfl) (by kernel_rfl) (by kernel_rfl) rfl (fun _ _ h_ => R.ixp (sz := ((intE .u64)).size) Try.underlying22 Try.sizeOf26 rfl rfl rfl (by first | omega | (simp; done) | (simp; omega) | (simp at *; omega)) i78 (TL.nil h_)) ?_
                    refine Plan.s1 13 [14, 15] (by kernel_rfl) (by kernel_rfl) rfl ?_
                    refine R.stEF (E := (intE .u64)) (e := 26) (v := (.slice Aa0 a0.length pa0)) (m := [.int .u64 y72]) (o := 0) (y := y78) (y' := y72) (j := n11l4.toNat) Try.sizeOf26 rfl (OwnS.mono wPa0c1 (s_l2.trans (s_c3.trans (s_l4.trans s_c5)))) .hd i78 rfl rfl (cells1 rfl) (all_one rfl) h78 (by show 0 + 1 ≤ 1; decide) (fun l hl => by have e0 : l = [.int .u64 y78] := hl; subst e0; exact rfl) ?_
                    intro cst399 wst399
                    refine TL.nil (Plan.e0 (HLe.refl _) ?_)
                    have hl79 : a1.toNat < a0.length := by first | omega | (simp; done) | (simp; omega) | (simp at *; omega)
                    obtain ⟨y79, e79, h79⟩ : ∃ y, y = (((xPa0c1.set n11l4.toNat y72)).getD a1.toNat (0 : Int)) ∧ ((xPa0c1.set n11l4.toNat y72))[a1.toNat]? = some y := ⟨_, rfl, getD_get (by first | exact hl79 | simpa using hl79 | (simp only [List.length_set]; omega) | omega | (rw [(sortI_perm _).length_eq]; exact hl79))⟩
                    obtain ⟨b79, u79, cs79, l79, f79, j79, i79, g79, k79⟩ := OwnS.elem wst399 h79
                    obtain rfl : l79 = [.int .u64 y79] := g79
                    refine Plan.v 14 [15] (by kernel_rfl) (by kernel_rfl) (by kernel_rfl) (by kernel_rfl) rfl (fun _ _ h_ => R.ixp (sz := ((intE .u64)).size) Try.underlying22 Try.sizeOf26 rfl rfl rfl (by first | omega | (simp; done) | (simp; omega) | (simp at *; omega)) i79 (TL.nil h_)) ?_
                    refine Plan.s1 15 [] (by kernel_rfl) (by kernel_rfl) rfl ?_
                    refine R.stEF (E := (intE .u64)) (e := 26) (v := (.slice Aa0 a0.length pa0)) (m := [.int .u64 y76]) (o := 0) (y := y79) (y' := y76) (j := a1.toNat) Try.sizeOf26 rfl wst399 .hd i79 rfl rfl (cells1 rfl) (all_one rfl) h79 (by show 0 + 1 ≤ 1; decide) (fun l hl => by have e0 : l = [.int .u64 y79] := hl; subst e0; exact rfl) ?_
                    intro cst400 wst400
                    refine TL.nil (Plan.e0 (HLe.refl _) ?_)
                    refine Plan.done (Post.thnN ?_)
                    refine T.seq ?_
                    refine T.region ?_
                    refine R.mvE rfl (by conv => lhs; whnf) ?_
                    refine R.asE rfl (by conv => lhs; whnf) ?_
                    refine R.asE rfl (by conv => lhs; whnf) ?_
                    refine TL.nil (Post.thnN ?_)
                    refine T.has (Has.cons .hd Has.nil) ?_
                    refine T.ret (Post.thnR ?_)
                    have hM : slices_partitionOrdered_Id_m a0 a1 a2 a3 = (n11l4, true, (((xPa0c1.set n11l4.toNat y72)).set a1.toNat y76)) := by subst e79; subst e78; subst e76; subst e72; rw [slices_partitionOrdered_Id_m, hTc1, LR.seq_go, hEl2, LR.seq_go, hEl4, LR.seq_go, if_pos c65]
                    exact fin2L (v := .int .i64 n11l4) (v' := .bool true) [cst400] rfl rfl rfl (List.Sublist.refl _) ⟨cst400, by first | rw [hM] | rfl, by first | rw [hM] | rfl, by rw [hM]; exact wst400⟩
                  · refine R.ld Try.isAgg26 rfl rfl (by rw [← f76]; exact .hd) (k76 0 _ rfl) ?_
                    refine TL.nil (Plan.e1 (HLe.refl _) ?_)
                    refine Plan.s1 7 [12, 13, 14, 15] (by kernel_rfl) (by kernel_rfl) rfl ?_
                    refine R.ld Try.isAgg26 rfl rfl (by rw [← f72]; exact .hd) (k72 0 _ rfl) ?_
                    refine TL.nil (Plan.e1 (HLe.refl _) ?_)
                    have hl78 : n11l4.toNat < a0.length := by first | omega | (simp; done) | (simp; omega) | (simp at *; omega)
                    obtain ⟨y78, e78, h78⟩ : ∃ y, y = (xPa0c1.getD n11l4.toNat (0 : Int)) ∧ xPa0c1[n11l4.toNat]? = some y := ⟨_, rfl, getD_get (by first | exact hl78 | simpa using hl78 | (simp only [List.length_set]; omega) | omega | (rw [(sortI_perm _).length_eq]; exact hl78))⟩
                    obtain ⟨b78, u78, cs78, l78, f78, j78, i78, g78, k78⟩ := OwnS.elem (OwnS.mono wPa0c1 (s_l2.trans (s_c3.trans (s_l4.trans s_c5)))) h78
                    obtain rfl : l78 = [.int .u64 y78] := g78
                    refine Plan.v 12 [13, 14, 15] (by kernel_rfl) (by kernel_rfl) (by kernel_rfl) (by kernel_rfl) rfl (fun _ _ h_ => R.ixp (sz := ((intE .u64)).size) Try.underlying22 Try.sizeOf26 rfl rfl rfl (by first | omega | (simp; done) | (simp; omega) | (simp at *; omega)) i78 (TL.nil h_)) ?_
                    refine Plan.s1 13 [14, 15] (by kernel_rfl) (by kernel_rfl) rfl ?_
                    refine R.stEF (E := (intE .u64)) (e := 26) (v := (.slice Aa0 a0.length pa0)) (m := [.int .u64 y72]) (o := 0) (y := y78) (y' := y72) (j := n11l4.toNat) Try.sizeOf26 rfl (OwnS.mono wPa0c1 (s_l2.trans (s_c3.trans (s_l4.trans s_c5)))) .hd i78 rfl rfl (cells1 rfl) (all_one rfl) h78 (by show 0 + 1 ≤ 1; decide) (fun l hl => by have e0 : l = [.int .u64 y78] := hl; subst e0; exact rfl) ?_
                    intro cst401 wst401
                    refine TL.nil (Plan.e0 (HLe.refl _) ?_)
                    have hl79 : a1.toNat < a0.length := by first | omega | (simp; done) | (simp; omega) | (simp at *; omega)
                    obtain ⟨y79, e79, h79⟩ : ∃ y, y = (((xPa0c1.set n11l4.toNat y72)).getD a1.toNat (0 : Int)) ∧ ((xPa0c1.set n11l4.toNat y72))[a1.toNat]? = some y := ⟨_, rfl, getD_get (by first | exact hl79 | simpa using hl79 | (simp only [List.length_set]; omega) | omega | (rw [(sortI_perm _).length_eq]; exact hl79))⟩
                    obtain ⟨b79, u79, cs79, l79, f79, j79, i79, g79, k79⟩ := OwnS.elem wst401 h79
                    obtain rfl : l79 = [.int .u64 y79] := g79
                    refine Plan.v 14 [15] (by kernel_rfl) (by kernel_rfl) (by kernel_rfl) (by kernel_rfl) rfl (fun _ _ h_ => R.ixp (sz := ((intE .u64)).size) Try.underlying22 Try.sizeOf26 rfl rfl rfl (by first | omega | (simp; done) | (simp; omega) | (simp at *; omega)) i79 (TL.nil h_)) ?_
                    refine Plan.s1 15 [] (by kernel_rfl) (by kernel_rfl) rfl ?_
                    refine R.stEF (E := (intE .u64)) (e := 26) (v := (.slice Aa0 a0.length pa0)) (m := [.int .u64 y76]) (o := 0) (y := y79) (y' := y76) (j := a1.toNat) Try.sizeOf26 rfl wst401 .hd i79 rfl rfl (cells1 rfl) (all_one rfl) h79 (by show 0 + 1 ≤ 1; decide) (fun l hl => by have e0 : l = [.int .u64 y79] := hl; subst e0; exact rfl) ?_
                    intro cst402 wst402
                    refine TL.nil (Plan.e0 (HLe.refl _) ?_)
                    refine Plan.done (Post.thnN ?_)
                    refine T.seq ?_
                    refine T.region ?_
                    refine R.mvE rfl (by conv => lhs; whnf) ?_
                    refine R.asE rfl (by conv => lhs; whnf) ?_
                    refine R.asE rfl (by conv => lhs; whnf) ?_
                    refine TL.nil (Post.thnN ?_)
                    refine T.has (Has.cons .hd Has.nil) ?_
                    refine T.ret (Post.thnR ?_)
                    have hM : slices_partitionOrdered_Id_m a0 a1 a2 a3 = (n11l4, true, (((xPa0c1.set n11l4.toNat y72)).set a1.toNat y76)) := by subst e79; subst e78; subst e76; subst e72; rw [slices_partitionOrdered_Id_m, hTc1, LR.seq_go, hEl2, LR.seq_go, hEl4, LR.seq_go, if_pos c65]
                    exact fin2L (v := .int .i64 n11l4) (v' := .bool true) [cst402] rfl rfl rfl (List.Sublist.refl _) ⟨cst402, by first | rw [hM] | rfl, by first | rw [hM] | rfl, by rw [hM]; exact wst402⟩
                · refine T.set 65 (.bool false) (congrArg Value.bool (decide_eq_false c65)) ?_
                  refine T.skip (Post.thnN ?_)
                  refine T.seq ?_
                  refine T.cutK (ι := (List Int) × Chunk) (fun ⟨xPa0c6, cPa0c6⟩ H' L' ds' => Has L' [cPa0c6] ∧ OwnS (intE .u64) 26 H' (.slice Aa0 a0.length pa0) xPa0c6 cPa0c6 ∧ ((((xPa0c1.set n10l2.toNat (xPa0c1.getD n11l4.toNat (0 : Int)))).set n11l4.toNat (xPa0c1.getD n10l2.toNat (0 : Int))) : (List Int)) = xPa0c6) (fun ⟨xPa0c6, cPa0c6⟩ => [(0, .slice Aa0 a0.length pa0), (1, .int .i64 a1), (10, .int .i64 n10l2), (11, .int .i64 n11l4)]) ?_ ?_
                  · refine T.draw Try_mixed (by kernel_rfl) ?_
                    refine Plan.v 0 [1, 2, 3, 4, 5, 6, 7, 8, 9, 10, 11, 12, 13, 14, 15] (by kernel_rfl) (by kernel_rfl) (by kernel_rfl) (by kernel_rfl) rfl (fun _ _ h_ => R.mvE rfl (by conv => lhs; whnf) (TL.nil h_)) ?_
                    refine Plan.v 1 [2, 3, 4, 5, 6, 7, 8, 9, 10, 11, 12, 13, 14, 15] (by kernel_rfl) (by kernel_rfl) (by kernel_rfl) (by kernel_rfl) rfl (fun _ _ h_ => R.mvE rfl (by conv => lhs; whnf) (TL.nil h_)) ?_
                    refine Plan.v 2 [3, 4, 5, 6, 7, 8, 9, 10, 11, 12, 13, 14, 15] (by kernel_rfl) (by kernel_rfl) (by kernel_rfl) (by kernel_rfl) rfl (fun _ _ h_ => R.mvE rfl (by conv => lhs; whnf) (TL.nil h_)) ?_
                    refine Plan.v 3 [4, 5, 6, 7, 8, 9, 10, 11, 12, 13, 14, 15] (by kernel_rfl) (by kernel_rfl) (by kernel_rfl) (by kernel_rfl) rfl (fun _ _ h_ => R.mvE rfl (by conv => lhs; whnf) (TL.nil h_)) ?_
                    refine Plan.v 4 [5, 6, 7, 8, 9, 10, 11, 12, 13, 14, 15] (by kernel_rfl) (by kernel_rfl) (by kernel_rfl) (by kernel_rfl) rfl (fun _ _ h_ => R.mvE rfl (by conv => lhs; whnf) (TL.nil h_)) ?_
                    refine Plan.v 5 [6, 7, 8, 9, 10, 11, 12, 13, 14, 15] (by kernel_rfl) (by kernel_rfl) (by kernel_rfl) (by kernel_rfl) rfl (fun _ _ h_ => R.mvE rfl (by conv => lhs; whnf) (TL.nil h_)) ?_
                    have hl87 : n11l4.toNat < a0.length := by first | omega | (simp; done) | (simp; omega) | (simp at *; omega)
                    obtain ⟨y87, e87, h87⟩ : ∃ y, y = (xPa0c1.getD n11l4.toNat (0 : Int)) ∧ xPa0c1[n11l4.toNat]? = some y := ⟨_, rfl, getD_get (by first | exact hl87 | simpa using hl87 | (simp only [List.length_set]; omega) | omega | (rw [(sortI_perm _).length_eq]; exact hl87))⟩
                    obtain ⟨b87, u87, cs87, l87, f87, j87, i87, g87, k87⟩ := OwnS.elem (OwnS.mono wPa0c1 (s_l2.trans (s_c3.trans (s_l4.trans s_c5)))) h87
                    obtain rfl : l87 = [.int .u64 y87] := g87
                    refine Plan.v 6 [7, 8, 9, 10, 11, 12, 13, 14, 15] (by kernel_rfl) (by kernel_rfl) (by kernel_rfl) (by kernel_rfl) rfl (fun _ _ h_ => R.ixp (sz := ((intE .u64)).size) Try.underlying22 Try.sizeOf26 rfl rfl rfl (by first | omega | (simp; done) | (simp; omega) | (simp at *; omega)) i87 (TL.nil h_)) ?_
                    refine Plan.v 8 [7, 9, 10, 11, 12, 13, 14, 15] (by kernel_rfl) (by kernel_rfl) (by kernel_rfl) (by kernel_rfl) rfl (fun _ _ h_ => R.mvE rfl (by conv => lhs; whnf) (TL.nil h_)) ?_
                    refine Plan.v 9 [7, 10, 11, 12, 13, 14, 15] (by kernel_rfl) (by kernel_rfl) (by kernel_rfl) (by kernel_rfl) rfl (fun _ _ h_ => R.mvE rfl (by conv => lhs; whnf) (TL.nil h_)) ?_
                    have hl91 : n10l2.toNat < a0.length := by first | omega | (simp; done) | (simp; omega) | (simp at *; omega)
                    obtain ⟨y91, e91, h91⟩ : ∃ y, y = (xPa0c1.getD n10l2.toNat (0 : Int)) ∧ xPa0c1[n10l2.toNat]? = some y := ⟨_, rfl, getD_get (by first | exact hl91 | simpa using hl91 | (simp only [List.length_set]; omega) | omega | (rw [(sortI_perm _).length_eq]; exact hl91))⟩
                    obtain ⟨b91, u91, cs91, l91, f91, j91, i91, g91, k91⟩ := OwnS.elem (OwnS.mono wPa0c1 (s_l2.trans (s_c3.trans (s_l4.trans s_c5)))) h91
                    obtain rfl : l91 = [.int .u64 y91] := g91
                    refine Plan.v 10 [7, 11, 12, 13, 14, 15] (by kernel_rfl) (by kernel_rfl) (by kernel_rfl) (by kernel_rfl) rfl (fun _ _ h_ => R.ixp (sz := ((intE .u64)).size) Try.underlying22 Try.sizeOf26 rfl rfl rfl (by first | omega | (simp; done) | (simp; omega) | (simp at *; omega)) i91 (TL.nil h_)) ?_
                    refine Plan.s2 7 11 [11, 12, 13, 14, 15] [7, 12, 13, 14, 15] (by kernel_rfl) (by kernel_rfl) (by kernel_rfl) rfl rfl ?_ ?_
                    · refine R.ld Try.isAgg26 rfl rfl (by rw [← f87]; exact .hd) (k87 0 _ rfl) ?_
                      refine TL.nil (Plan.e1 (HLe.refl _) ?_)
                      refine Plan.s1 11 [12, 13, 14, 15] (by kernel_rfl) (by kernel_rfl) rfl ?_
                      refine R.ld Try.isAgg26 rfl rfl (by rw [← f91]; exact .hd) (k91 0 _ rfl) ?_
                      refine TL.nil (Plan.e1 (HLe.refl _) ?_)
                      have hl93 : n10l2.toNat < a0.length := by first | omega | (simp; done) | (simp; omega) | (simp at *; omega)
                      obtain ⟨y93, e93, h93⟩ : ∃ y, y = (xPa0c1.getD n10l2.toNat (0 : Int)) ∧ xPa0c1[n10l2.toNat]? = some y := ⟨_, rfl, getD_get (by first | exact hl93 | simpa using hl93 | (simp only [List.length_set]; omega) | omega | (rw [(sortI_perm _).length_eq]; exact hl93))⟩
                      obtain ⟨b93, u93, cs93, l93, f93, j93, i93, g93, k93⟩ := OwnS.elem (OwnS.mono wPa0c1 (s_l2.trans (s_c3.trans (s_l4.trans s_c5)))) h93
                      obtain rfl : l93 = [.int .u64 y93] := g93
                      refine Plan.v 12 [13, 14, 15] (by kernel_rfl) (by kernel_rfl) (by kernel_rfl) (by kernel_rfl) rfl (fun _ _ h_ => R.ixp (sz := ((intE .u64)).size) Try.underlying22 Try.sizeOf26 rfl rfl rfl (by first | omega | (simp; done) | (simp; omega) | (simp at *; omega)) i93 (TL.nil h_)) ?_
                      refine Plan.s1 13 [14, 15] (by kernel_rfl) (by kernel_rfl) rfl ?_
                      refine R.stEF (E := (intE .u64)) (e := 26) (v := (.slice Aa0 a0.length pa0)) (m := [.int .u64 y87]) (o := 0) (y := y93) (y' := y87) (j := n10l2.toNat) Try.sizeOf26 rfl (OwnS.mono wPa0c1 (s_l2.trans (s_c3.trans (s_l4.trans s_c5)))) .hd i93 rfl rfl (cells1 rfl) (all_one rfl) h93 (by show 0 + 1 ≤ 1; decide) (fun l hl => by have e0 : l = [.int .u64 y93] := hl; subst e0; exact rfl) ?_
                      intro cst403 wst403
                      refine TL.nil (Plan.e0 (HLe.refl _) ?_)
                      have hl94 : n11l4.toNat < a0.length := by first | omega | (simp; done) | (simp; omega) | (simp at *; omega)
                      obtain ⟨y94, e94, h94⟩ : ∃ y, y = (((xPa0c1.set n10l2.toNat y87)).getD n11l4.toNat (0 : Int)) ∧ ((xPa0c1.set n10l2.toNat y87))[n11l4.toNat]? = some y := ⟨_, rfl, getD_get (by first | exact hl94 | simpa using hl94 | (simp only [List.length_set]; omega) | omega | (rw [(sortI_perm _).length_eq]; exact hl94))⟩
                      obtain ⟨b94, u94, cs94, l94, f94, j94, i94, g94, k94⟩ := OwnS.elem wst403 h94
                      obtain rfl : l94 = [.int .u64 y94] := g94
                      refine Plan.v 14 [15] (by kernel_rfl) (by kernel_rfl) (by kernel_rfl) (by kernel_rfl) rfl (fun _ _ h_ => R.ixp (sz := ((intE .u64)).size) Try.underlying22 Try.sizeOf26 rfl rfl rfl (by first | omega | (simp; done) | (simp; omega) | (simp at *; omega)) i94 (TL.nil h_)) ?_
                      refine Plan.s1 15 [] (by kernel_rfl) (by kernel_rfl) rfl ?_
                      refine R.stEF (E := (intE .u64)) (e := 26) (v := (.slice Aa0 a0.length pa0)) (m := [.int .u64 y91]) (o := 0) (y := y94) (y' := y91) (j := n11l4.toNat) Try.sizeOf26 rfl wst403 .hd i94 rfl rfl (cells1 rfl) (all_one rfl) h94 (by show 0 + 1 ≤ 1; decide) (fun l hl => by have e0 : l = [.int .u64 y94] := hl; subst e0; exact rfl) ?_
                      intro cst404 wst404
                      refine TL.nil (Plan.e0 (HLe.refl _) ?_)
                      refine Plan.done (Post.thnN ?_)
                      exact ⟨((((xPa0c1.set n10l2.toNat y87)).set n11l4.toNat y91), cst404), HLe.refl _, ⟨(Has.cons .hd Has.nil), wst404, (by subst e94; subst e93; subst e91; subst e87; rfl)⟩, rfl, rfl, rfl, rfl, trivial⟩
                    · refine R.ld Try.isAgg26 rfl rfl (by rw [← f91]; exact .hd) (k91 0 _ rfl) ?_
                      refine TL.nil (Plan.e1 (HLe.refl _) ?_)
                      refine Plan.s1 7 [12, 13, 14, 15] (by kernel_rfl) (by kernel_rfl) rfl ?_
                      refine R.ld Try.isAgg26 rfl rfl (by rw [← f87]; exact .hd) (k87 0 _ rfl) ?_
                      refine TL.nil (Plan.e1 (HLe.refl _) ?_)
                      have hl93 : n10l2.toNat < a0.length := by first | omega | (simp; done) | (simp; omega) | (simp at *; omega)
                      obtain ⟨y93, e93, h93⟩ : ∃ y, y = (xPa0c1.getD n10l2.toNat (0 : Int)) ∧ xPa0c1[n10l2.toNat]? = some y := ⟨_, rfl, getD_get (by first | exact hl93 | simpa using hl93 | (simp only [List.length_set]; omega) | omega | (rw [(sortI_perm _).length_eq]; exact hl93))⟩
                      obtain ⟨b93, u93, cs93, l93, f93, j93, i93, g93, k93⟩ := OwnS.elem (OwnS.mono wPa0c1 (s_l2.trans (s_c3.trans (s_l4.trans s_c5)))) h93
                      obtain rfl : l93 = [.int .u64 y93] := g93
                      refine Plan.v 12 [13, 14, 15] (by kernel_rfl) (by kernel_rfl) (by kernel_rfl) (by kernel_rfl) rfl (fun _ _ h_ => R.ixp (sz := ((intE .u64)).size) Try.underlying22 Try.sizeOf26 rfl rfl rfl (by first | omega | (simp; done) | (simp; omega) | (simp at *; omega)) i93 (TL.nil h_)) ?_
                      refine Plan.s1 13 [14, 15] (by kernel_rfl) (by kernel_rfl) rfl ?_
                      refine R.stEF (E := (intE .u64)) (e := 26) (v := (.slice Aa0 a0.length pa0)) (m := [.int .u64 y87]) (o := 0) (y := y93) (y' := y87) (j := n10l2.toNat) Try.sizeOf26 rfl (OwnS.mono wPa0c1 (s_l2.trans (s_c3.trans (s_l4.trans s_c5)))) .hd i93 rfl rfl (cells1 rfl) (all_one rfl) h93 (by show 0 + 1 ≤ 1; decide) (fun l hl => by have e0 : l = [.int .u64 y93] := hl; subst e0; exact rfl) ?_
                      intro cst405 wst405
                      refine TL.nil (Plan.e0 (HLe.refl _) ?_)
                      have hl94 : n11l4.toNat < a0.length := by first | omega | (simp; done) | (simp; omega) | (simp at *; omega)
                      obtain ⟨y94, e94, h94⟩ : ∃ y, y = (((xPa0c1.set n10l2.toNat y87)).getD n11l4.toNat (0 : Int)) ∧ ((xPa0c1.set n10l2.toNat y87))[n11l4.toNat]? = some y := ⟨_, rfl, getD_get (by first | exact hl94 | simpa using hl94 | (simp only [List.length_set]; omega) | omega | (rw [(sortI_perm _).length_eq]; exact hl94))⟩
                      obtain ⟨b94, u94, cs94, l94, f94, j94, i94, g94, k94⟩ := OwnS.elem wst405 h94
                      obtain rfl : l94 = [.int .u64 y94] := g94
                      refine Plan.v 14 [15] (by kernel_rfl) (by kernel_rfl) (by kernel_rfl) (by kernel_rfl) rfl (fun _ _ h_ => R.ixp (sz := ((intE .u64)).size) Try.underlying22 Try.sizeOf26 rfl rfl rfl (by first | omega | (simp; done) | (simp; omega) | (simp at *; omega)) i94 (TL.nil h_)) ?_
                      refine Plan.s1 15 [] (by kernel_rfl) (by kernel_rfl) rfl ?_
                      refine R.stEF (E := (intE .u64)) (e := 26) (v := (.slice Aa0 a0.length pa0)) (m := [.int .u64 y91]) (o := 0) (y := y94) (y' := y91) (j := n11l4.toNat) Try.sizeOf26 rfl wst405 .hd i94 rfl rfl (cells1 rfl) (all_one rfl) h94 (by show 0 + 1 ≤ 1; decide) (fun l hl => by have e0 : l = [.int .u64 y94] := hl; subst e0; exact rfl) ?_
                      intro cst406 wst406
                      refine TL.nil (Plan.e0 (HLe.refl _) ?_)
                      refine Plan.done (Post.thnN ?_)
                      exact ⟨((((xPa0c1.set n10l2.toNat y87)).set n11l4.toNat y91), cst406), HLe.refl _, ⟨(Has.cons .hd Has.nil), wst406, (by subst e94; subst e93; subst e91; subst e87; rfl)⟩, rfl, rfl, rfl, rfl, trivial⟩
                  · intro ⟨xPa0c6, cPa0c6⟩ σ_c6 H_c6 L_c6 ds_c6 s_c6 hI_c6
                    obtain ⟨hLc6, wPa0c6, hTc6⟩ := hI_c6
                    have nPa0c6_ := OwnS.len wPa0c6
                    refine T.has hLc6 ?_
                    refine T.seq ?_
                    refine T.region ?_
                    refine R.mvE rfl (by conv => lhs; whnf) ?_
                    refine R.addI rfl rfl rfl (by omega) ?_
                    refine R.asE rfl (by conv => lhs; whnf) ?_
                    refine TL.nil (Post.thnN ?_)
                    refine T.seq ?_
                    refine T.region ?_
                    refine R.mvE rfl (by conv => lhs; whnf) ?_
                    refine R.subI rfl rfl rfl (by omega) ?_
                    refine R.asE rfl (by conv => lhs; whnf) ?_
                    refine TL.nil (Post.thnN ?_)
                    refine T.seq ?_
                    refine T.cutK (ι := Int × (List Int) × Chunk) (fun ⟨n11c12, xPa0c12, cPa0c12⟩ H' L' ds' => Has L' [cPa0c12] ∧ OwnS (intE .u64) 26 H' (.slice Aa0 a0.length pa0) xPa0c12 cPa0c12 ∧ a1 ≤ n11c12 ∧ n11c12 < a2 ∧ (LR.seq (slices_partitionOrdered_Id_l7 a1 ((((n11l4 - 1)) - ((n10l2 + 1)) + 2).toNat + 1) (((n10l2 + 1), (n11l4 - 1), xPa0c6))) (fun ol7 => ol7) : Int × (List Int)) = (n11c12, xPa0c12)) (fun ⟨n11c12, xPa0c12, cPa0c12⟩ => [(0, .slice Aa0 a0.length pa0), (1, .int .i64 a1), (11, .int .i64 n11c12)]) ?_ ?_
                    · refine T.block ?_
                      refine T.loop (ι := Nat × Int × Int × (List Int) × Chunk) (fun ⟨kl7, n10l7, n11l7, xPa0l7, cPa0l7⟩ H' L' ds' => (n11l7 - n10l7 + 2).toNat < kl7 ∧ Has L' [cPa0l7] ∧ OwnS (intE .u64) 26 H' (.slice Aa0 a0.length pa0) xPa0l7 cPa0l7 ∧ a1 + 1 ≤ n10l7 ∧ n10l7 ≤ a2 ∧ a1 ≤ n11l7 ∧ n11l7 < a2 ∧ slices_partitionOrdered_Id_l7 a1 kl7 ((n10l7, n11l7, xPa0l7)) = slices_partitionOrdered_Id_l7 a1 ((((n11l4 - 1)) - ((n10l2 + 1)) + 2).toNat + 1) (((n10l2 + 1), (n11l4 - 1), xPa0c6))) (fun ⟨kl7, n10l7, n11l7, xPa0l7, cPa0l7⟩ => [(0, .slice Aa0 a0.length pa0), (1, .int .i64 a1), (10, .int .i64 n10l7), (11, .int .i64 n11l7)]) (fun ⟨kl7, n10l7, n11l7, xPa0l7, cPa0l7⟩ => kl7) (((((n11l4 - 1)) - ((n10l2 + 1)) + 2).toNat + 1), (n10l2 + 1), (n11l4 - 1), xPa0c6, cPa0c6) ?_ ?_ ?_
                      · exact ⟨(by omega), (Has.cons .hd Has.nil), wPa0c6, (by first | omega | (simp; done) | (simp; omega) | (simp at *; omega)), (by first | omega | (simp; done) | (simp; omega) | (simp at *; omega)), (by first | omega | (simp; done) | (simp; omega) | (simp at *; omega)), (by first | omega | (simp; done) | (simp; omega) | (simp at *; omega)), (by rfl)⟩
                      · exact ⟨rfl, rfl, rfl, rfl, trivial⟩
                      · intro ⟨kl7, n10l7, n11l7, xPa0l7, cPa0l7⟩ σ_l7 H_l7 L_l7 ds_l7 s_l7 hI_l7
                        obtain ⟨hkl7, hI_l7⟩ := hI_l7
                        obtain ⟨ml7, rfl⟩ : ∃ m, kl7 = m + 1 := ⟨kl7 - 1, by omega⟩
                        obtain ⟨hLl7, wPa0l7, hBl7_0, hBl7_1, hBl7_2, hBl7_3, hQl7⟩ := hI_l7
                        have nPa0l7_ := OwnS.len wPa0l7
                        refine T.has hLl7 ?_
                        refine T.block ?_
                        refine T.seq ?_
                        refine T.block ?_
                        refine T.loop (ι := Nat × Int) (fun ⟨kl8, n10l8⟩ H' L' ds' => (n11l7 - n10l8 + 1).toNat < kl8 ∧ Has L' [cPa0l7] ∧ a1 + 1 ≤ n10l8 ∧ n10l8 ≤ a2 ∧ n10l7 ≤ n10l8 ∧ slices_partitionOrdered_Id_l8 a1 n11l7 xPa0l7 kl8 n10l8 = slices_partitionOrdered_Id_l8 a1 n11l7 xPa0l7 ((n11l7 - n10l7 + 1).toNat + 1) n10l7) (fun ⟨kl8, n10l8⟩ => [(0, .slice Aa0 a0.length pa0), (1, .int .i64 a1), (10, .int .i64 n10l8), (11, .int .i64 n11l7)]) (fun ⟨kl8, n10l8⟩ => kl8) (((n11l7 - n10l7 + 1).toNat + 1), n10l7) ?_ ?_ ?_
                        · exact ⟨(by omega), (Has.cons .hd Has.nil), (by first | omega | (simp; done) | (simp; omega) | (simp at *; omega)), (by first | omega | (simp; done) | (simp; omega) | (simp at *; omega)), (by first | omega | (simp; done) | (simp; omega) | (simp at *; omega)), (by rfl)⟩
                        · exact ⟨rfl, rfl, rfl, rfl, trivial⟩
                        · intro ⟨kl8, n10l8⟩ σ_l8 H_l8 L_l8 ds_l8 s_l8 hI_l8
                          obtain ⟨hkl8, hI_l8⟩ := hI_l8
                          obtain ⟨ml8, rfl⟩ : ∃ m, kl8 = m + 1 := ⟨kl8 - 1, by omega⟩
                          obtain ⟨hLl8, hBl8_0, hBl8_1, hBl8_2, hQl8⟩ := hI_l8
                          refine T.has hLl8 ?_
                          refine T.seq ?_
                          refine T.seq ?_
                          refine T.cutK (ι := Bool) (fun b112c9 H' L' ds' => Has L' [cPa0l7] ∧ (if n10l8 ≤ n11l7 then ((cmp_Less_Id_m (xPa0l7.getD n10l8.toNat (0 : Int)) (xPa0l7.getD a1.toNat (0 : Int)))) else false : Bool) = b112c9) (fun b112c9 => [(0, .slice Aa0 a0.length pa0), (1, .int .i64 a1), (10, .int .i64 n10l8), (11, .int .i64 n11l7), (112, .bool (b112c9))]) ?_ ?_
                          · refine T.draw Try_mixed (by kernel_rfl) ?_
                            refine Plan.v 0 [1, 2, 3, 4, 5, 6, 7, 8, 9, 10, 11, 12, 13] (by kernel_rfl) (by kernel_rfl) (by kernel_rfl) (by kernel_rfl) rfl (fun _ _ h_ => R.mvE rfl (by conv => lhs; whnf) (TL.nil h_)) ?_
                            refine Plan.v 1 [2, 3, 4, 5, 6, 7, 8, 9, 10, 11, 12, 13] (by kernel_rfl) (by kernel_rfl) (by kernel_rfl) (by kernel_rfl) rfl (fun _ _ h_ => R.mvE rfl (by conv => lhs; whnf) (TL.nil h_)) ?_
                            refine Plan.v 2 [3, 4, 5, 6, 7, 8, 9, 10, 11, 12, 13] (by kernel_rfl) (by kernel_rfl) (by kernel_rfl) (by kernel_rfl) rfl (fun _ _ h_ => R.leq rfl rfl rfl (TL.nil h_)) ?_
                            refine Plan.v 3 [4, 5, 6, 7, 8, 9, 10, 11, 12, 13] (by kernel_rfl) (by kernel_rfl) (by kernel_rfl) (by kernel_rfl) rfl (fun _ _ h_ => R.mvE rfl (by conv => lhs; whnf) (TL.nil h_)) ?_
                            refine Plan.gsplitD 102 rfl (fun g102 => ?_) (fun g102 => ?_)
                            · refine Plan.v 4 [5, 6, 7, 8, 9, 10, 11, 12, 13] (by kernel_rfl) (by kernel_rfl) (by kernel_rfl) (by kernel_rfl) rfl (fun _ _ h_ => R.mvE rfl (by conv => lhs; whnf) (TL.nil h_)) ?_
                              refine Plan.v 5 [6, 7, 8, 9, 10, 11, 12, 13] (by kernel_rfl) (by kernel_rfl) (by kernel_rfl) (by kernel_rfl) rfl (fun _ _ h_ => R.mvE rfl (by conv => lhs; whnf) (TL.nil h_)) ?_
                              have hl105 : n10l8.toNat < a0.length := by first | omega | (simp; done) | (simp; omega) | (simp at *; omega)
                              obtain ⟨y105, e105, h105⟩ : ∃ y, y = (xPa0l7.getD n10l8.toNat (0 : Int)) ∧ xPa0l7[n10l8.toNat]? = some y := ⟨_, rfl, getD_get (by first | exact hl105 | simpa using hl105 | (simp only [List.length_set]; omega) | omega | (rw [(sortI_perm _).length_eq]; exact hl105))⟩
                              obtain ⟨b105, u105, cs105, l105, f105, j105, i105, g105, k105⟩ := OwnS.elem (OwnS.mono wPa0l7 s_l8) h105
                              obtain rfl : l105 = [.int .u64 y105] := g105
                              refine Plan.v 6 [7, 8, 9, 10, 11, 12, 13] (by kernel_rfl) (by kernel_rfl) (by kernel_rfl) (by kernel_rfl) rfl (fun _ _ h_ => R.ixp (sz := ((intE .u64)).size) Try.underlying22 Try.sizeOf26 rfl rfl rfl (by first | omega | (simp; done) | (simp; omega) | (simp at *; omega)) i105 (TL.nil h_)) ?_
                              refine Plan.v 8 [7, 9, 10, 11, 12, 13] (by kernel_rfl) (by kernel_rfl) (by kernel_rfl) (by kernel_rfl) rfl (fun _ _ h_ => R.mvE rfl (by conv => lhs; whnf) (TL.nil h_)) ?_
                              refine Plan.v 9 [7, 10, 11, 12, 13] (by kernel_rfl) (by kernel_rfl) (by kernel_rfl) (by kernel_rfl) rfl (fun _ _ h_ => R.mvE rfl (by conv => lhs; whnf) (TL.nil h_)) ?_
                              have hl109 : a1.toNat < a0.length := by first | omega | (simp; done) | (simp; omega) | (simp at *; omega)
                              obtain ⟨y109, e109, h109⟩ : ∃ y, y = (xPa0l7.getD a1.toNat (0 : Int)) ∧ xPa0l7[a1.toNat]? = some y := ⟨_, rfl, getD_get (by first | exact hl109 | simpa using hl109 | (simp only [List.length_set]; omega) | omega | (rw [(sortI_perm _).length_eq]; exact hl109))⟩
                              obtain ⟨b109, u109, cs109, l109, f109, j109, i109, g109, k109⟩ := OwnS.elem (OwnS.mono wPa0l7 s_l8) h109
                              obtain rfl : l109 = [.int .u64 y109] := g109
                              refine Plan.v 10 [7, 11, 12, 13] (by kernel_rfl) (by kernel_rfl) (by kernel_rfl) (by kernel_rfl) rfl (fun _ _ h_ => R.ixp (sz := ((intE .u64)).size) Try.underlying22 Try.sizeOf26 rfl rfl rfl (by first | omega | (simp; done) | (simp; omega) | (simp at *; omega)) i109 (TL.nil h_)) ?_
                              refine Plan.s2 7 11 [11, 12, 13] [7, 12, 13] (by kernel_rfl) (by kernel_rfl) (by kernel_rfl) rfl rfl ?_ ?_
                              · refine R.ld Try.isAgg26 rfl rfl (by rw [← f105]; exact .hd) (k105 0 _ rfl) ?_
                                refine TL.nil (Plan.e1 (HLe.refl _) ?_)
                                refine Plan.s1 11 [12, 13] (by kernel_rfl) (by kernel_rfl) rfl ?_
                                refine R.ld Try.isAgg26 rfl rfl (by rw [← f109]; exact .hd) (k109 0 _ rfl) ?_
                                refine TL.nil (Plan.e1 (HLe.refl _) ?_)
                                refine Plan.v 12 [13] (by kernel_rfl) (by kernel_rfl) (by kernel_rfl) (by kernel_rfl) rfl (fun _ _ h_ => R.callv rfl rfl rfl (cmp_Less_Id_c _ (y105) (y109)) (TL.nil h_)) ?_
                                refine Plan.v 13 [] (by kernel_rfl) (by kernel_rfl) (by kernel_rfl) (by kernel_rfl) rfl (fun _ _ h_ => R.pkTE rfl rfl (by conv => lhs; whnf) (TL.nil h_)) ?_
                                refine Plan.done (Post.thnN ?_)
                                exact ⟨(cmp_Less_Id_m y105 y109), HLe.refl _, ⟨(Has.cons .hd Has.nil), (by subst e109; subst e105; rw [if_pos g102])⟩, rfl, rfl, rfl, rfl, rfl, trivial⟩
                              · refine R.ld Try.isAgg26 rfl rfl (by rw [← f109]; exact .hd) (k109 0 _ rfl) ?_
                                refine TL.nil (Plan.e1 (HLe.refl _) ?_)
                                refine Plan.s1 7 [12, 13] (by kernel_rfl) (by kernel_rfl) rfl ?_
                                refine R.ld Try.isAgg26 rfl rfl (by rw [← f105]; exact .hd) (k105 0 _ rfl) ?_
                                refine TL.nil (Plan.e1 (HLe.refl _) ?_)
                                refine Plan.v 12 [13] (by kernel_rfl) (by kernel_rfl) (by kernel_rfl) (by kernel_rfl) rfl (fun _ _ h_ => R.callv rfl rfl rfl (cmp_Less_Id_c _ (y105) (y109)) (TL.nil h_)) ?_
                                refine Plan.v 13 [] (by kernel_rfl) (by kernel_rfl) (by kernel_rfl) (by kernel_rfl) rfl (fun _ _ h_ => R.pkTE rfl rfl (by conv => lhs; whnf) (TL.nil h_)) ?_
                                refine Plan.done (Post.thnN ?_)
                                exact ⟨(cmp_Less_Id_m y105 y109), HLe.refl _, ⟨(Has.cons .hd Has.nil), (by subst e109; subst e105; rw [if_pos g102])⟩, rfl, rfl, rfl, rfl, rfl, trivial⟩
                            · refine Plan.v 4 [5, 6, 7, 8, 9, 10, 11, 12, 13] (by kernel_rfl) (by kernel_rfl) (by kernel_rfl) (by kernel_rfl) rfl (fun _ _ h_ => TL.off rfl rfl rfl (TL.nil h_)) ?_
                              refine Plan.v 5 [6, 7, 8, 9, 10, 11, 12, 13] (by kernel_rfl) (by kernel_rfl) (by kernel_rfl) (by kernel_rfl) rfl (fun _ _ h_ => TL.off rfl rfl rfl (TL.nil h_)) ?_
                              refine Plan.v 6 [7, 8, 9, 10, 11, 12, 13] (by kernel_rfl) (by kernel_rfl) (by kernel_rfl) (by kernel_rfl) rfl (fun _ _ h_ => TL.off rfl rfl rfl (TL.nil h_)) ?_
                              refine Plan.v 7 [8, 9, 10, 11, 12, 13] (by kernel_rfl) (by kernel_rfl) (by kernel_rfl) (by kernel_rfl) rfl (fun _ _ h_ => TL.off rfl rfl rfl (TL.nil h_)) ?_
                              refine Plan.v 8 [9, 10, 11, 12, 13] (by kernel_rfl) (by kernel_rfl) (by kernel_rfl) (by kernel_rfl) rfl (fun _ _ h_ => TL.off rfl rfl rfl (TL.nil h_)) ?_
                              refine Plan.v 9 [10, 11, 12, 13] (by kernel_rfl) (by kernel_rfl) (by kernel_rfl) (by kernel_rfl) rfl (fun _ _ h_ => TL.off rfl rfl rfl (TL.nil h_)) ?_
                              refine Plan.v 10 [11, 12, 13] (by kernel_rfl) (by kernel_rfl) (by kernel_rfl) (by kernel_rfl) rfl (fun _ _ h_ => TL.off rfl rfl rfl (TL.nil h_)) ?_
                              refine Plan.v 11 [12, 13] (by kernel_rfl) (by kernel_rfl) (by kernel_rfl) (by kernel_rfl) rfl (fun _ _ h_ => TL.off rfl rfl rfl (TL.nil h_)) ?_
                              refine Plan.v 12 [13] (by kernel_rfl) (by kernel_rfl) (by kernel_rfl) (by kernel_rfl) rfl (fun _ _ h_ => TL.off rfl rfl rfl (TL.nil h_)) ?_
                              refine Plan.v 13 [] (by kernel_rfl) (by kernel_rfl) (by kernel_rfl) (by kernel_rfl) rfl (fun _ _ h_ => R.pkFE rfl rfl (by conv => lhs; whnf) (TL.nil h_)) ?_
                              refine Plan.done (Post.thnN ?_)
                              exact ⟨false, HLe.refl _, ⟨(Has.cons .hd Has.nil), (by rw [if_neg g102])⟩, rfl, rfl, rfl, rfl, rfl, trivial⟩
                          · intro b112c9 σ_c9 H_c9 L_c9 ds_c9 s_c9 hI_c9
                            obtain ⟨hLc9, hTc9⟩ := hI_c9
                            refine T.has hLc9 ?_
                            refine T.cond rfl (fun c112 => ?_) (fun c112 => ?_)
                            · refine T.set 112 (.bool true) (congrArg Value.bool c112) ?_
                              have hZ112 := hTc9.trans c112
                              try simp only [or_f, or_t, and_f, and_t, decide_eq_true_eq, decide_eq_false_iff_not, Bool.not_eq_true'] at hZ112
                              refine T.skip (Post.thnN ?_)
                              refine T.block ?_
                              refine T.region ?_
                              refine R.mvE rfl (by conv => lhs; whnf) ?_
                              refine R.addI rfl rfl rfl (by omega) ?_
                              refine R.asE rfl (by conv => lhs; whnf) ?_
                              refine TL.nil (Post.blkN ?_)
                              refine id (Post.thnN ?_)
                              exact ⟨(ml8, (n10l8 + 1)), (s_l8.trans s_c9), ⟨(by first | omega | (simp; omega) | (simp at *; omega)), (Has.cons .hd Has.nil), (by first | omega | (simp; done) | (simp; omega) | (simp at *; omega)), (by first | omega | (simp; done) | (simp; omega) | (simp at *; omega)), (by first | omega | (simp; done) | (simp; omega) | (simp at *; omega)), (by rw [← hQl8, slices_partitionOrdered_Id_l8]; rw [hTc9, LR.seq_go, if_t c112])⟩, by show ml8 < ml8 + 1; omega, rfl, rfl, rfl, rfl, trivial⟩
                            · refine T.set 112 (.bool false) (congrArg Value.bool c112) ?_
                              have hZ112 := hTc9.trans c112
                              try simp only [or_f, or_t, and_f, and_t, decide_eq_true_eq, decide_eq_false_iff_not, Bool.not_eq_true'] at hZ112
                              refine T.exit (Post.thnE (Post.thnE (Post.blkX ?_)))
                              have hEl8 : slices_partitionOrdered_Id_l8 a1 n11l7 xPa0l7 ((n11l7 - n10l7 + 1).toNat + 1) n10l7 = n10l8 := (by rw [← hQl8, slices_partitionOrdered_Id_l8]; rw [hTc9, LR.seq_go, if_f c112])
                              refine id (Post.thnN ?_)
                              refine T.seq ?_
                              refine T.block ?_
                              refine T.loop (ι := Nat × Int) (fun ⟨kl10, n11l10⟩ H' L' ds' => (n11l10 - n10l8 + 1).toNat < kl10 ∧ Has L' [cPa0l7] ∧ a1 ≤ n11l10 ∧ n11l10 < a2 ∧ n11l10 ≤ n11l7 ∧ slices_partitionOrdered_Id_l10 a1 n10l8 xPa0l7 kl10 n11l10 = slices_partitionOrdered_Id_l10 a1 n10l8 xPa0l7 ((n11l7 - n10l8 + 1).toNat + 1) n11l7) (fun ⟨kl10, n11l10⟩ => [(0, .slice Aa0 a0.length pa0), (1, .int .i64 a1), (10, .int .i64 n10l8), (11, .int .i64 n11l10)]) (fun ⟨kl10, n11l10⟩ => kl10) (((n11l7 - n10l8 + 1).toNat + 1), n11l7) ?_ ?_ ?_
                              · exact ⟨(by omega), (Has.cons .hd Has.nil), (by first | omega | (simp; done) | (simp; omega) | (simp at *; omega)), (by first | omega | (simp; done) | (simp; omega) | (simp at *; omega)), (by first | omega | (simp; done) | (simp; omega) | (simp at *; omega)), (by rfl)⟩
                              · exact ⟨rfl, rfl, rfl, rfl, trivial⟩
                              · intro ⟨kl10, n11l10⟩ σ_l10 H_l10 L_l10 ds_l10 s_l10 hI_l10
                                obtain ⟨hkl10, hI_l10⟩ := hI_l10
                                obtain ⟨ml10, rfl⟩ : ∃ m, kl10 = m + 1 := ⟨kl10 - 1, by omega⟩
                                obtain ⟨hLl10, hBl10_0, hBl10_1, hBl10_2, hQl10⟩ := hI_l10
                                refine T.has hLl10 ?_
                                refine T.seq ?_
                                refine T.seq ?_
                                refine T.cutK (ι := Bool) (fun b129c11 H' L' ds' => Has L' [cPa0l7] ∧ (if n10l8 ≤ n11l10 then ((!(cmp_Less_Id_m (xPa0l7.getD n11l10.toNat (0 : Int)) (xPa0l7.getD a1.toNat (0 : Int))))) else false : Bool) = b129c11) (fun b129c11 => [(0, .slice Aa0 a0.length pa0), (1, .int .i64 a1), (10, .int .i64 n10l8), (11, .int .i64 n11l10), (129, .bool (b129c11))]) ?_ ?_
                                · refine T.draw Try_mixed (by kernel_rfl) ?_
                                  refine Plan.v 0 [1, 2, 3, 4, 5, 6, 7, 8, 9, 10, 11, 12, 13, 14] (by kernel_rfl) (by kernel_rfl) (by kernel_rfl) (by kernel_rfl) rfl (fun _ _ h_ => R.mvE rfl (by conv => lhs; whnf) (TL.nil h_)) ?_
                                  refine Plan.v 1 [2, 3, 4, 5, 6, 7, 8, 9, 10, 11, 12, 13, 14] (by kernel_rfl) (by kernel_rfl) (by kernel_rfl) (by kernel_rfl) rfl (fun _ _ h_ => R.mvE rfl (by conv => lhs; whnf) (TL.nil h_)) ?_
                                  refine Plan.v 2 [3, 4, 5, 6, 7, 8, 9, 10, 11, 12, 13, 14] (by kernel_rfl) (by kernel_rfl) (by kernel_rfl) (by kernel_rfl) rfl (fun _ _ h_ => R.leq rfl rfl rfl (TL.nil h_)) ?_
                                  refine Plan.v 3 [4, 5, 6, 7, 8, 9, 10, 11, 12, 13, 14] (by kernel_rfl) (by kernel_rfl) (by kernel_rfl) (by kernel_rfl) rfl (fun _ _ h_ => R.mvE rfl (by conv => lhs; whnf) (TL.nil h_)) ?_
                                  refine Plan.gsplitD 118 rfl (fun g118 => ?_) (fun g118 => ?_)
                                  · refine Plan.v 4 [5, 6, 7, 8, 9, 10, 11, 12, 13, 14] (by kernel_rfl) (by kernel_rfl) (by kernel_rfl) (by kernel_rfl) rfl (fun _ _ h_ => R.mvE rfl (by conv => lhs; whnf) (TL.nil h_)) ?_
                                    refine Plan.v 5 [6, 7, 8, 9, 10, 11, 12, 13, 14] (by kernel_rfl) (by kernel_rfl) (by kernel_rfl) (by kernel_rfl) rfl (fun _ _ h_ => R.mvE rfl (by conv => lhs; whnf) (TL.nil h_)) ?_
                                    have hl121 : n11l10.toNat < a0.length := by first | omega | (simp; done) | (simp; omega) | (simp at *; omega)
                                    obtain ⟨y121, e121, h121⟩ : ∃ y, y = (xPa0l7.getD n11l10.toNat (0 : Int)) ∧ xPa0l7[n11l10.toNat]? = some y := ⟨_, rfl, getD_get (by first | exact hl121 | simpa using hl121 | (simp only [List.length_set]; omega) | omega | (rw [(sortI_perm _).length_eq]; exact hl121))⟩
                                    obtain ⟨b121, u121, cs121, l121, f121, j121, i121, g121, k121⟩ := OwnS.elem (OwnS.mono wPa0l7 (s_l8.trans (s_c9.trans s_l10))) h121
                                    obtain rfl : l121 = [.int .u64 y121] := g121
                                    refine Plan.v 6 [7, 8, 9, 10, 11, 12, 13, 14] (by kernel_rfl) (by kernel_rfl) (by kernel_rfl) (by kernel_rfl) rfl (fun _ _ h_ => R.ixp (sz := ((intE .u64)).size) Try.underlying22 Try.sizeOf26 rfl rfl rfl (by first | omega | (simp; done) | (simp; omega) | (simp at *; omega)) i121 (TL.nil h_)) ?_
                                    refine Plan.v 8 [7, 9, 10, 11, 12, 13, 14] (by kernel_rfl) (by kernel_rfl) (by kernel_rfl) (by kernel_rfl) rfl (fun _ _ h_ => R.mvE rfl (by conv => lhs; whnf) (TL.nil h_)) ?_
                                    refine Plan.v 9 [7, 10, 11, 12, 13, 14] (by kernel_rfl) (by kernel_rfl) (by kernel_rfl) (by kernel_rfl) rfl (fun _ _ h_ => R.mvE rfl (by conv => lhs; whnf) (TL.nil h_)) ?_
                                    have hl125 : a1.toNat < a0.length := by first | omega | (simp; done) | (simp; omega) | (simp at *; omega)
                                    obtain ⟨y125, e125, h125⟩ : ∃ y, y = (xPa0l7.getD a1.toNat (0 : Int)) ∧ xPa0l7[a1.toNat]? = some y := ⟨_, rfl, getD_get (by first | exact hl125 | simpa using hl125 | (simp only [List.length_set]; omega) | omega | (rw [(sortI_perm _).length_eq]; exact hl125))⟩
                                    obtain ⟨b125, u125, cs125, l125, f125, j125, i125, g125, k125⟩ := OwnS.elem (OwnS.mono wPa0l7 (s_l8.trans (s_c9.trans s_l10))) h125
                                    obtain rfl : l125 = [.int .u64 y125] := g125
                                    refine Plan.v 10 [7, 11, 12, 13, 14] (by kernel_rfl) (by kernel_rfl) (by kernel_rfl) (by kernel_rfl) rfl (fun _ _ h_ => R.ixp (sz := ((intE .u64)).size) Try.underlying22 Try.sizeOf26 rfl rfl rfl (by first | omega | (simp; done) | (simp; omega) | (simp at *; omega)) i125 (TL.nil h_)) ?_
                                    refine Plan.s2 7 11 [11, 12, 13, 14] [7, 12, 13, 14] (by kernel_rfl) (by kernel_rfl) (by kernel_rfl) rfl rfl ?_ ?_
                                    · refine R.ld Try.isAgg26 rfl rfl (by rw [← f121]; exact .hd) (k121 0 _ rfl) ?_
                                      refine TL.nil (Plan.e1 (HLe.refl _) ?_)
                                      refine Plan.s1 11 [12, 13, 14] (by kernel_rfl) (by kernel_rfl) rfl ?_
                                      refine R.ld Try.isAgg26 rfl rfl (by rw [← f125]; exact .hd) (k125 0 _ rfl) ?_
                                      refine TL.nil (Plan.e1 (HLe.refl _) ?_)
                                      refine Plan.v 12 [13, 14] (by kernel_rfl) (by kernel_rfl) (by kernel_rfl) (by kernel_rfl) rfl (fun _ _ h_ => R.callv rfl rfl rfl (cmp_Less_Id_c _ (y121) (y125)) (TL.nil h_)) ?_
                                      refine Plan.v 13 [14] (by kernel_rfl) (by kernel_rfl) (by kernel_rfl) (by kernel_rfl) rfl (fun _ _ h_ => R.not rfl rfl (TL.nil h_)) ?_
                                      refine Plan.v 14 [] (by kernel_rfl) (by kernel_rfl) (by kernel_rfl) (by kernel_rfl) rfl (fun _ _ h_ => R.pkTE rfl rfl (by conv => lhs; whnf) (TL.nil h_)) ?_
                                      refine Plan.done (Post.thnN ?_)
                                      exact ⟨(!(cmp_Less_Id_m y121 y125)), HLe.refl _, ⟨(Has.cons .hd Has.nil), (by subst e125; subst e121; rw [if_pos g118])⟩, rfl, rfl, rfl, rfl, rfl, trivial⟩
                                    · refine R.ld Try.isAgg26 rfl rfl (by rw [← f125]; exact .hd) (k125 0 _ rfl) ?_
                                      refine TL.nil (Plan.e1 (HLe.refl _) ?_)
                                      refine Plan.s1 7 [12, 13, 14] (by kernel_rfl) (by kernel_rfl) rfl ?_
                                      refine R.ld Try.isAgg26 rfl rfl (by rw [← f121]; exact .hd) (k121 0 _ rfl) ?_
                                      refine TL.nil (Plan.e1 (HLe.refl _) ?_)
                                      refine Plan.v 12 [13, 14] (by kernel_rfl) (by kernel_rfl) (by kernel_rfl) (by kernel_rfl) rfl (fun _ _ h_ => R.callv rfl rfl rfl (cmp_Less_Id_c _ (y121) (y125)) (TL.nil h_)) ?_
                                      refine Plan.v 13 [14] (by kernel_rfl) (by kernel_rfl) (by kernel_rfl) (by kernel_rfl) rfl (fun _ _ h_ => R.not rfl rfl (TL.nil h_)) ?_
                                      refine Plan.v 14 [] (by kernel_rfl) (by kernel_rfl) (by kernel_rfl) (by kernel_rfl) rfl (fun _ _ h_ => R.pkTE rfl rfl (by conv => lhs; whnf) (TL.nil h_)) ?_
                                      refine Plan.done (Post.thnN ?_)
                                      exact ⟨(!(cmp_Less_Id_m y121 y125)), HLe.refl _, ⟨(Has.cons .hd Has.nil), (by subst e125; subst e121; rw [if_pos g118])⟩, rfl, rfl, rfl, rfl, rfl, trivial⟩
                                  · refine Plan.v 4 [5, 6, 7, 8, 9, 10, 11, 12, 13, 14] (by kernel_rfl) (by kernel_rfl) (by kernel_rfl) (by kernel_rfl) rfl (fun _ _ h_ => TL.off rfl rfl rfl (TL.nil h_)) ?_
                                    refine Plan.v 5 [6, 7, 8, 9, 10, 11, 12, 13, 14] (by kernel_rfl) (by kernel_rfl) (by kernel_rfl) (by kernel_rfl) rfl (fun _ _ h_ => TL.off rfl rfl rfl (TL.nil h_)) ?_
                                    refine Plan.v 6 [7, 8, 9, 10, 11, 12, 13, 14] (by kernel_rfl) (by kernel_rfl) (by kernel_rfl) (by kernel_rfl) rfl (fun _ _ h_ => TL.off rfl rfl rfl (TL.nil h_)) ?_
                                    refine Plan.v 7 [8, 9, 10, 11, 12, 13, 14] (by kernel_rfl) (by kernel_rfl) (by kernel_rfl) (by kernel_rfl) rfl (fun _ _ h_ => TL.off rfl rfl rfl (TL.nil h_)) ?_
                                    refine Plan.v 8 [9, 10, 11, 12, 13, 14] (by kernel_rfl) (by kernel_rfl) (by kernel_rfl) (by kernel_rfl) rfl (fun _ _ h_ => TL.off rfl rfl rfl (TL.nil h_)) ?_
                                    refine Plan.v 9 [10, 11, 12, 13, 14] (by kernel_rfl) (by kernel_rfl) (by kernel_rfl) (by kernel_rfl) rfl (fun _ _ h_ => TL.off rfl rfl rfl (TL.nil h_)) ?_
                                    refine Plan.v 10 [11, 12, 13, 14] (by kernel_rfl) (by kernel_rfl) (by kernel_rfl) (by kernel_rfl) rfl (fun _ _ h_ => TL.off rfl rfl rfl (TL.nil h_)) ?_
                                    refine Plan.v 11 [12, 13, 14] (by kernel_rfl) (by kernel_rfl) (by kernel_rfl) (by kernel_rfl) rfl (fun _ _ h_ => TL.off rfl rfl rfl (TL.nil h_)) ?_
                                    refine Plan.v 12 [13, 14] (by kernel_rfl) (by kernel_rfl) (by kernel_rfl) (by kernel_rfl) rfl (fun _ _ h_ => TL.off rfl rfl rfl (TL.nil h_)) ?_
                                    refine Plan.v 13 [14] (by kernel_rfl) (by kernel_rfl) (by kernel_rfl) (by kernel_rfl) rfl (fun _ _ h_ => TL.off rfl rfl rfl (TL.nil h_)) ?_
                                    refine Plan.v 14 [] (by kernel_rfl) (by kernel_rfl) (by kernel_rfl) (by kernel_rfl) rfl (fun _ _ h_ => R.pkFE rfl rfl (by conv => lhs; whnf) (TL.nil h_)) ?_
                                    refine Plan.done (Post.thnN ?_)
                                    exact ⟨false, HLe.refl _, ⟨(Has.cons .hd Has.nil), (by rw [if_neg g118])⟩, rfl, rfl, rfl, rfl, rfl, trivial⟩
                                · intro b129c11 σ_c11 H_c11 L_c11 ds_c11 s_c11 hI_c11
                                  obtain ⟨hLc11, hTc11⟩ := hI_c11
                                  refine T.has hLc11 ?_
                                  refine T.cond rfl (fun c129 => ?_) (fun c129 => ?_)
                                  · refine T.set 129 (.bool true) (congrArg Value.bool c129) ?_
                                    have hZ129 := hTc11.trans c129
                                    try simp only [or_f, or_t, and_f, and_t, decide_eq_true_eq, decide_eq_false_iff_not, Bool.not_eq_true'] at hZ129
                                    refine T.skip (Post.thnN ?_)
                                    refine T.block ?_
                                    refine T.region ?_
                                    refine R.mvE rfl (by conv => lhs; whnf) ?_
                                    refine R.subI rfl rfl rfl (by omega) ?_
                                    refine R.asE rfl (by conv => lhs; whnf) ?_
                                    refine TL.nil (Post.blkN ?_)
                                    refine id (Post.thnN ?_)
                                    exact ⟨(ml10, (n11l10 - 1)), (s_l10.trans s_c11), ⟨(by first | omega | (simp; omega) | (simp at *; omega)), (Has.cons .hd Has.nil), (by first | omega | (simp; done) | (simp; omega) | (simp at *; omega)), (by first | omega | (simp; done) | (simp; omega) | (simp at *; omega)), (by first | omega | (simp; done) | (simp; omega) | (simp at *; omega)), (by rw [← hQl10, slices_partitionOrdered_Id_l10]; rw [hTc11, LR.seq_go, if_t c129])⟩, by show ml10 < ml10 + 1; omega, rfl, rfl, rfl, rfl, trivial⟩
                                  · refine T.set 129 (.bool false) (congrArg Value.bool c129) ?_
                                    have hZ129 := hTc11.trans c129
                                    try simp only [or_f, or_t, and_f, and_t, decide_eq_true_eq, decide_eq_false_iff_not, Bool.not_eq_true'] at hZ129
                                    refine T.exit (Post.thnE (Post.thnE (Post.blkX ?_)))
                                    have hEl10 : slices_partitionOrdered_Id_l10 a1 n10l8 xPa0l7 ((n11l7 - n10l8 + 1).toNat + 1) n11l7 = n11l10 := (by rw [← hQl10, slices_partitionOrdered_Id_l10]; rw [hTc11, LR.seq_go, if_f c129])
                                    refine id (Post.thnN ?_)
                                    refine T.seq ?_
                                    refine T.seq ?_
                                    refine T.region ?_
                                    refine R.mvE rfl (by conv => lhs; whnf) ?_
                                    refine R.mvE rfl (by conv => lhs; whnf) ?_
                                    refine R.gtr rfl rfl rfl ?_
                                    refine TL.nil (Post.thnN ?_)
                                    refine T.condD rfl (fun c134 => ?_) (fun c134 => ?_)
                                    · refine T.set 134 (.bool true) (congrArg Value.bool (decide_eq_true c134)) ?_
                                      refine T.exit (Post.thnE (Post.blkE rfl (Post.thnE (Post.blkX ?_))))
                                      have hEl7 : slices_partitionOrdered_Id_l7 a1 ((((n11l4 - 1)) - ((n10l2 + 1)) + 2).toNat + 1) (((n10l2 + 1), (n11l4 - 1), xPa0c6)) = (n11l10, xPa0l7) := (by rw [← hQl7, slices_partitionOrdered_Id_l7]; rw [hEl8, LR.seq_go, hEl10, LR.seq_go, if_pos c134])
                                      refine id (Post.thnN ?_)
                                      exact ⟨(n11l10, xPa0l7, cPa0l7), (s_l7.trans (s_l8.trans (s_c9.trans (s_l10.trans s_c11)))), ⟨(Has.cons .hd Has.nil), (OwnS.mono wPa0l7 (s_l8.trans (s_c9.trans (s_l10.trans s_c11)))), (by first | omega | (simp; done) | (simp; omega) | (simp at *; omega)), (by first | omega | (simp; done) | (simp; omega) | (simp at *; omega)), (by rw [hEl7, LR.seq_go])⟩, rfl, rfl, rfl, trivial⟩
                                    · refine T.set 134 (.bool false) (congrArg Value.bool (decide_eq_false c134)) ?_
                                      refine T.skip (Post.thnN ?_)
                                      refine T.seq ?_
                                      refine T.cutK (ι := (List Int) × Chunk) (fun ⟨xPa0c13, cPa0c13⟩ H' L' ds' => Has L' [cPa0c13] ∧ OwnS (intE .u64) 26 H' (.slice Aa0 a0.length pa0) xPa0c13 cPa0c13 ∧ ((((xPa0l7.set n10l8.toNat (xPa0l7.getD n11l10.toNat (0 : Int)))).set n11l10.toNat (xPa0l7.getD n10l8.toNat (0 : Int))) : (List Int)) = xPa0c13) (fun ⟨xPa0c13, cPa0c13⟩ => [(0, .slice Aa0 a0.length pa0), (1, .int .i64 a1), (10, .int .i64 n10l8), (11, .int .i64 n11l10)]) ?_ ?_
                                      · refine T.draw Try_mixed (by kernel_rfl) ?_
                                        refine Plan.v 0 [1, 2, 3, 4, 5, 6, 7, 8, 9, 10, 11, 12, 13, 14, 15] (by kernel_rfl) (by kernel_rfl) (by kernel_rfl) (by kernel_rfl) rfl (fun _ _ h_ => R.mvE rfl (by conv => lhs; whnf) (TL.nil h_)) ?_
                                        refine Plan.v 1 [2, 3, 4, 5, 6, 7, 8, 9, 10, 11, 12, 13, 14, 15] (by kernel_rfl) (by kernel_rfl) (by kernel_rfl) (by kernel_rfl) rfl (fun _ _ h_ => R.mvE rfl (by conv => lhs; whnf) (TL.nil h_)) ?_
                                        refine Plan.v 2 [3, 4, 5, 6, 7, 8, 9, 10, 11, 12, 13, 14, 15] (by kernel_rfl) (by kernel_rfl) (by kernel_rfl) (by kernel_rfl) rfl (fun _ _ h_ => R.mvE rfl (by conv => lhs; whnf) (TL.nil h_)) ?_
                                        refine Plan.v 3 [4, 5, 6, 7, 8, 9, 10, 11, 12, 13, 14, 15] (by kernel_rfl) (by kernel_rfl) (by kernel_rfl) (by kernel_rfl) rfl (fun _ _ h_ => R.mvE rfl (by conv => lhs; whnf) (TL.nil h_)) ?_
                                        refine Plan.v 4 [5, 6, 7, 8, 9, 10, 11, 12, 13, 14, 15] (by kernel_rfl) (by kernel_rfl) (by kernel_rfl) (by kernel_rfl) rfl (fun _ _ h_ => R.mvE rfl (by conv => lhs; whnf) (TL.nil h_)) ?_
                                        refine Plan.v 5 [6, 7, 8, 9, 10, 11, 12, 13, 14, 15] (by kernel_rfl) (by kernel_rfl) (by kernel_rfl) (by kernel_rfl) rfl (fun _ _ h_ => R.mvE rfl (by conv => lhs; whnf) (TL.nil h_)) ?_
                                        have hl141 : n11l10.toNat < a0.length := by first | omega | (simp; done) | (simp; omega) | (simp at *; omega)
                                        obtain ⟨y141, e141, h141⟩ : ∃ y, y = (xPa0l7.getD n11l10.toNat (0 : Int)) ∧ xPa0l7[n11l10.toNat]? = some y := ⟨_, rfl, getD_get (by first | exact hl141 | simpa using hl141 | (simp only [List.length_set]; omega) | omega | (rw [(sortI_perm _).length_eq]; exact hl141))⟩
                                        obtain ⟨b141, u141, cs141, l141, f141, j141, i141, g141, k141⟩ := OwnS.elem (OwnS.mono wPa0l7 (s_l8.trans (s_c9.trans (s_l10.trans s_c11)))) h141
                                        obtain rfl : l141 = [.int .u64 y141] := g141
                                        refine Plan.v 6 [7, 8, 9, 10, 11, 12, 13, 14, 15] (by kernel_rfl) (by kernel_rfl) (by kernel_rfl) (by kernel_rfl) rfl (fun _ _ h_ => R.ixp (sz := ((intE .u64)).size) Try.underlying22 Try.sizeOf26 rfl rfl rfl (by first | omega | (simp; done) | (simp; omega) | (simp at *; omega)) i141 (TL.nil h_)) ?_
                                        refine Plan.v 8 [7, 9, 10, 11, 12, 13, 14, 15] (by kernel_rfl) (by kernel_rfl) (by kernel_rfl) (by kernel_rfl) rfl (fun _ _ h_ => R.mvE rfl (by conv => lhs; whnf) (TL.nil h_)) ?_
                                        refine Plan.v 9 [7, 10, 11, 12, 13, 14, 15] (by kernel_rfl) (by kernel_rfl) (by kernel_rfl) (by kernel_rfl) rfl (fun _ _ h_ => R.mvE rfl (by conv => lhs; whnf) (TL.nil h_)) ?_
                                        have hl145 : n10l8.toNat < a0.length := by first | omega | (simp; done) | (simp; omega) | (simp at *; omega)
                                        obtain ⟨y145, e145, h145⟩ : ∃ y, y = (xPa0l7.getD n10l8.toNat (0 : Int)) ∧ xPa0l7[n10l8.toNat]? = some y := ⟨_, rfl, getD_get (by first | exact hl145 | simpa using hl145 | (simp only [List.length_set]; omega) | omega | (rw [(sortI_perm _).length_eq]; exact hl145))⟩
                                        obtain ⟨b145, u145, cs145, l145, f145, j145, i145, g145, k145⟩ := OwnS.elem (OwnS.mono wPa0l7 (s_l8.trans (s_c9.trans (s_l10.trans s_c11)))) h145
                                        obtain rfl : l145 = [.int .u64 y145] := g145
                                        refine Plan.v 10 [7, 11, 12, 13, 14, 15] (by kernel_rfl) (by kernel_rfl) (by kernel_rfl) (by kernel_rfl) rfl (fun _ _ h_ => R.ixp (sz := ((intE .u64)).size) Try.underlying22 Try.sizeOf26 rfl rfl rfl (by first | omega | (simp; done) | (simp; omega) | (simp at *; omega)) i145 (TL.nil h_)) ?_
                                        refine Plan.s2 7 11 [11, 12, 13, 14, 15] [7, 12, 13, 14, 15] (by kernel_rfl) (by kernel_rfl) (by kernel_rfl) rfl rfl ?_ ?_
                                        · refine R.ld Try.isAgg26 rfl rfl (by rw [← f141]; exact .hd) (k141 0 _ rfl) ?_
                                          refine TL.nil (Plan.e1 (HLe.refl _) ?_)
                                          refine Plan.s1 11 [12, 13, 14, 15] (by kernel_rfl) (by kernel_rfl) rfl ?_
                                          refine R.ld Try.isAgg26 rfl rfl (by rw [← f145]; exact .hd) (k145 0 _ rfl) ?_
                                          refine TL.nil (Plan.e1 (HLe.refl _) ?_)
                                          have hl147 : n10l8.toNat < a0.length := by first | omega | (simp; done) | (simp; omega) | (simp at *; omega)
                                          obtain ⟨y147, e147, h147⟩ : ∃ y, y = (xPa0l7.getD n10l8.toNat (0 : Int)) ∧ xPa0l7[n10l8.toNat]? = some y := ⟨_, rfl, getD_get (by first | exact hl147 | simpa using hl147 | (simp only [List.length_set]; omega) | omega | (rw [(sortI_perm _).length_eq]; exact hl147))⟩
                                          obtain ⟨b147, u147, cs147, l147, f147, j147, i147, g147, k147⟩ := OwnS.elem (OwnS.mono wPa0l7 (s_l8.trans (s_c9.trans (s_l10.trans s_c11)))) h147
                                          obtain rfl : l147 = [.int .u64 y147] := g147
                                          refine Plan.v 12 [13, 14, 15] (by kernel_rfl) (by kernel_rfl) (by kernel_rfl) (by kernel_rfl) rfl (fun _ _ h_ => R.ixp (sz := ((intE .u64)).size) Try.underlying22 Try.sizeOf26 rfl rfl rfl (by first | omega | (simp; done) | (simp; omega) | (simp at *; omega)) i147 (TL.nil h_)) ?_
                                          refine Plan.s1 13 [14, 15] (by kernel_rfl) (by kernel_rfl) rfl ?_
                                          refine R.stEF (E := (intE .u64)) (e := 26) (v := (.slice Aa0 a0.length pa0)) (m := [.int .u64 y141]) (o := 0) (y := y147) (y' := y141) (j := n10l8.toNat) Try.sizeOf26 rfl (OwnS.mono wPa0l7 (s_l8.trans (s_c9.trans (s_l10.trans s_c11)))) .hd i147 rfl rfl (cells1 rfl) (all_one rfl) h147 (by show 0 + 1 ≤ 1; decide) (fun l hl => by have e0 : l = [.int .u64 y147] := hl; subst e0; exact rfl) ?_
                                          intro cst407 wst407
                                          refine TL.nil (Plan.e0 (HLe.refl _) ?_)
                                          have hl148 : n11l10.toNat < a0.length := by first | omega | (simp; done) | (simp; omega) | (simp at *; omega)
                                          obtain ⟨y148, e148, h148⟩ : ∃ y, y = (((xPa0l7.set n10l8.toNat y141)).getD n11l10.toNat (0 : Int)) ∧ ((xPa0l7.set n10l8.toNat y141))[n11l10.toNat]? = some y := ⟨_, rfl, getD_get (by first | exact hl148 | simpa using hl148 | (simp only [List.length_set]; omega) | omega | (rw [(sortI_perm _).length_eq]; exact hl148))⟩
                                          obtain ⟨b148, u148, cs148, l148, f148, j148, i148, g148, k148⟩ := OwnS.elem wst407 h148
                                          obtain rfl : l148 = [.int .u64 y148] := g148
                                          refine Plan.v 14 [15] (by kernel_rfl) (by kernel_rfl) (by kernel_rfl) (by kernel_rfl) rfl (fun _ _ h_ => R.ixp (sz := ((intE .u64)).size) Try.underlying22 Try.sizeOf26 rfl rfl rfl (by first | omega | (simp; done) | (simp; omega) | (simp at *; omega)) i148 (TL.nil h_)) ?_
                                          refine Plan.s1 15 [] (by kernel_rfl) (by kernel_rfl) rfl ?_
                                          refine R.stEF (E := (intE .u64)) (e := 26) (v := (.slice Aa0 a0.length pa0)) (m := [.int .u64 y145]) (o := 0) (y := y148) (y' := y145) (j := n11l10.toNat) Try.sizeOf26 rfl wst407 .hd i148 rfl rfl (cells1 rfl) (all_one rfl) h148 (by show 0 + 1 ≤ 1; decide) (fun l hl => by have e0 : l = [.int .u64 y148] := hl; subst e0; exact rfl) ?_
                                          intro cst408 wst408
                                          refine TL.nil (Plan.e0 (HLe.refl _) ?_)
                                          refine Plan.done (Post.thnN ?_)
                                          exact ⟨((((xPa0l7.set n10l8.toNat y141)).set n11l10.toNat y145), cst408), HLe.refl _, ⟨(Has.cons .hd Has.nil), wst408, (by subst e148; subst e147; subst e145; subst e141; rfl)⟩, rfl, rfl, rfl, rfl, trivial⟩
                                        · refine R.ld Try.isAgg26 rfl rfl (by rw [← f145]; exact .hd) (k145 0 _ rfl) ?_
                                          refine TL.nil (Plan.e1 (HLe.refl _) ?_)
                                          refine Plan.s1 7 [12, 13, 14, 15] (by kernel_rfl) (by kernel_rfl) rfl ?_
                                          refine R.ld Try.isAgg26 rfl rfl (by rw [← f141]; exact .hd) (k141 0 _ rfl) ?_
                                          refine TL.nil (Plan.e1 (HLe.refl _) ?_)
                                          have hl147 : n10l8.toNat < a0.length := by first | omega | (simp; done) | (simp; omega) | (simp at *; omega)
                                          obtain ⟨y147, e147, h147⟩ : ∃ y, y = (xPa0l7.getD n10l8.toNat (0 : Int)) ∧ xPa0l7[n10l8.toNat]? = some y := ⟨_, rfl, getD_get (by first | exact hl147 | simpa using hl147 | (simp only [List.length_set]; omega) | omega | (rw [(sortI_perm _).length_eq]; exact hl147))⟩
                                          obtain ⟨b147, u147, cs147, l147, f147, j147, i147, g147, k147⟩ := OwnS.elem (OwnS.mono wPa0l7 (s_l8.trans (s_c9.trans (s_l10.trans s_c11)))) h147
                                          obtain rfl : l147 = [.int .u64 y147] := g147
                                          refine Plan.v 12 [13, 14, 15] (by kernel_rfl) (by kernel_rfl) (by kernel_rfl) (by kernel_rfl) rfl (fun _ _ h_ => R.ixp (sz := ((intE .u64)).size) Try.underlying22 Try.sizeOf26 rfl rfl rfl (by first | omega | (simp; done) | (simp; omega) | (simp at *; omega)) i147 (TL.nil h_)) ?_
                                          refine Plan.s1 13 [14, 15] (by kernel_rfl) (by kernel_rfl) rfl ?_
                                          refine R.stEF (E := (intE .u64)) (e := 26) (v := (.slice Aa0 a0.length pa0)) (m := [.int .u64 y141]) (o := 0) (y := y147) (y' := y141) (j := n10l8.toNat) Try.sizeOf26 rfl (OwnS.mono wPa0l7 (s_l8.trans (s_c9.trans (s_l10.trans s_c11)))) .hd i147 rfl rfl (cells1 rfl) (all_one rfl) h147 (by show 0 + 1 ≤ 1; decide) (fun l hl => by have e0 : l = [.int .u64 y147] := hl; subst e0; exact rfl) ?_
                                          intro cst409 wst409
                                          refine TL.nil (Plan.e0 (HLe.refl _) ?_)
                                          have hl148 : n11l10.toNat < a0.length := by first | omega | (simp; done) | (simp; omega) | (simp at *; omega)
                                          obtain ⟨y148, e148, h148⟩ : ∃ y, y = (((xPa0l7.set n10l8.toNat y141)).getD n11l10.toNat (0 : Int)) ∧ ((xPa0l7.set n10l8.toNat y141))[n11l10.toNat]? = some y := ⟨_, rfl, getD_get (by first | exact hl148 | simpa using hl148 | (simp only [List.length_set]; omega) | omega | (rw [(sortI_perm _).length_eq]; exact hl148))⟩
                                          obtain ⟨b148, u148, cs148, l148, f148, j148, i148, g148, k148⟩ := OwnS.elem wst409 h148
                                          obtain rfl : l148 = [.int .u64 y148] := g148
                                          refine Plan.v 14 [15] (by kernel_rfl) (by kernel_rfl) (by kernel_rfl) (by kernel_rfl) rfl (fun _ _ h_ => R.ixp (sz := ((intE .u64)).size) Try.underlying22 Try.sizeOf26 rfl rfl rfl (by first | omega | (simp; done) | (simp; omega) | (simp at *; omega)) i148 (TL.nil h_)) ?_
                                          refine Plan.s1 15 [] (by kernel_rfl) (by kernel_rfl) rfl ?_
                                          refine R.stEF (E := (intE .u64)) (e := 26) (v := (.slice Aa0 a0.length pa0)) (m := [.int .u64 y145]) (o := 0) (y := y148) (y' := y145) (j := n11l10.toNat) Try.sizeOf26 rfl wst409 .hd i148 rfl rfl (cells1 rfl) (all_one rfl) h148 (by show 0 + 1 ≤ 1; decide) (fun l hl => by have e0 : l = [.int .u64 y148] := hl; subst e0; exact rfl) ?_
                                          intro cst410 wst410
                                          refine TL.nil (Plan.e0 (HLe.refl _) ?_)
                                          refine Plan.done (Post.thnN ?_)
                                          exact ⟨((((xPa0l7.set n10l8.toNat y141)).set n11l10.toNat y145), cst410), HLe.refl _, ⟨(Has.cons .hd Has.nil), wst410, (by subst e148; subst e147; subst e145; subst e141; rfl)⟩, rfl, rfl, rfl, rfl, trivial⟩
                                      · intro ⟨xPa0c13, cPa0c13⟩ σ_c13 H_c13 L_c13 ds_c13 s_c13 hI_c13
                                        obtain ⟨hLc13, wPa0c13, hTc13⟩ := hI_c13
                                        have nPa0c13_ := OwnS.len wPa0c13
                                        refine T.has hLc13 ?_
                                        refine T.seq ?_
                                        refine T.region ?_
                                        refine R.mvE rfl (by conv => lhs; whnf) ?_
                                        refine R.addI rfl rfl rfl (by omega) ?_
                                        refine R.asE rfl (by conv => lhs; whnf) ?_
                                        refine TL.nil (Post.thnN ?_)
                                        refine T.region ?_
                                        refine R.mvE rfl (by conv => lhs; whnf) ?_
                                        refine R.subI rfl rfl rfl (by omega) ?_
                                        refine R.asE rfl (by conv => lhs; whnf) ?_
                                        refine TL.nil (Post.blkN ?_)
                                        refine id (Post.thnN ?_)
                                        exact ⟨(ml7, (n10l8 + 1), (n11l10 - 1), xPa0c13, cPa0c13), (s_l7.trans (s_l8.trans (s_c9.trans (s_l10.trans (s_c11.trans s_c13))))), ⟨(by first | omega | (simp; omega) | (simp at *; omega)), (Has.cons .hd Has.nil), wPa0c13, (by first | omega | (simp; done) | (simp; omega) | (simp at *; omega)), (by first | omega | (simp; done) | (simp; omega) | (simp at *; omega)), (by first | omega | (simp; done) | (simp; omega) | (simp at *; omega)), (by first | omega | (simp; done) | (simp; omega) | (simp at *; omega)), (by rw [← hQl7, slices_partitionOrdered_Id_l7]; rw [hEl8, LR.seq_go, hEl10, LR.seq_go, if_neg c134, hTc13, LR.seq_go])⟩, by show ml7 < ml7 + 1; omega, rfl, rfl, rfl, rfl, trivial⟩
                    · intro ⟨n11c12, xPa0c12, cPa0c12⟩ σ_c12 H_c12 L_c12 ds_c12 s_c12 hI_c12
                      obtain ⟨hLc12, wPa0c12, hBc12_0, hBc12_1, hTc12⟩ := hI_c12
                      have nPa0c12_ := OwnS.len wPa0c12
                      refine T.has hLc12 ?_
                      refine T.seq ?_
                      refine T.draw Try_mixed (by kernel_rfl) ?_
                      refine Plan.v 0 [1, 2, 3, 4, 5, 6, 7, 8, 9, 10, 11, 12, 13, 14, 15] (by kernel_rfl) (by kernel_rfl) (by kernel_rfl) (by kernel_rfl) rfl (fun _ _ h_ => R.mvE rfl (by conv => lhs; whnf) (TL.nil h_)) ?_
                      refine Plan.v 1 [2, 3, 4, 5, 6, 7, 8, 9, 10, 11, 12, 13, 14, 15] (by kernel_rfl) (by kernel_rfl) (by kernel_rfl) (by kernel_rfl) rfl (fun _ _ h_ => R.mvE rfl (by conv => lhs; whnf) (TL.nil h_)) ?_
                      refine Plan.v 2 [3, 4, 5, 6, 7, 8, 9, 10, 11, 12, 13, 14, 15] (by kernel_rfl) (by kernel_rfl) (by kernel_rfl) (by kernel_rfl) rfl (fun _ _ h_ => R.mvE rfl (by conv => lhs; whnf) (TL.nil h_)) ?_
                      refine Plan.v 3 [4, 5, 6, 7, 8, 9, 10, 11, 12, 13, 14, 15] (by kernel_rfl) (by kernel_rfl) (by kernel_rfl) (by kernel_rfl) rfl (fun _ _ h_ => R.mvE rfl (by conv => lhs; whnf) (TL.nil h_)) ?_
                      refine Plan.v 4 [5, 6, 7, 8, 9, 10, 11, 12, 13, 14, 15] (by kernel_rfl) (by kernel_rfl) (by kernel_rfl) (by kernel_rfl) rfl (fun _ _ h_ => R.mvE rfl (by conv => lhs; whnf) (TL.nil h_)) ?_
                      refine Plan.v 5 [6, 7, 8, 9, 10, 11, 12, 13, 14, 15] (by kernel_rfl) (by kernel_rfl) (by kernel_rfl) (by kernel_rfl) rfl (fun _ _ h_ => R.mvE rfl (by conv => lhs; whnf) (TL.nil h_)) ?_
                      have hl159 : a1.toNat < a0.length := by first | omega | (simp; done) | (simp; omega) | (simp at *; omega)
                      obtain ⟨y159, e159, h159⟩ : ∃ y, y = (xPa0c12.getD a1.toNat (0 : Int)) ∧ xPa0c12[a1.toNat]? = some y := ⟨_, rfl, getD_get (by first | exact hl159 | simpa using hl159 | (simp only [List.length_set]; omega) | omega | (rw [(sortI_perm _).length_eq]; exact hl159))⟩
                      obtain ⟨b159, u159, cs159, l159, f159, j159, i159, g159, k159⟩ := OwnS.elem wPa0c12 h159
                      obtain rfl : l159 = [.int .u64 y159] := g159
                      refine Plan.v 6 [7, 8, 9, 10, 11, 12, 13, 14, 15] (by kernel_rfl) (by kernel_rfl) (by kernel_rfl) (by kernel_rfl) rfl (fun _ _ h_ => R.ixp (sz := ((intE .u64)).size) Try.underlying22 Try.sizeOf26 rfl rfl rfl (by first | omega | (simp; done) | (simp; omega) | (simp at *; omega)) i159 (TL.nil h_)) ?_
                      refine Plan.v 8 [7, 9, 10, 11, 12, 13, 14, 15] (by kernel_rfl) (by kernel_rfl) (by kernel_rfl) (by kernel_rfl) rfl (fun _ _ h_ => R.mvE rfl (by conv => lhs; whnf) (TL.nil h_)) ?_
                      refine Plan.v 9 [7, 10, 11, 12, 13, 14, 15] (by kernel_rfl) (by kernel_rfl) (by kernel_rfl) (by kernel_rfl) rfl (fun _ _ h_ => R.mvE rfl (by conv => lhs; whnf) (TL.nil h_)) ?_
                      have hl163 : n11c12.toNat < a0.length := by first | omega | (simp; done) | (simp; omega) | (simp at *; omega)
                      obtain ⟨y163, e163, h163⟩ : ∃ y, y = (xPa0c12.getD n11c12.toNat (0 : Int)) ∧ xPa0c12[n11c12.toNat]? = some y := ⟨_, rfl, getD_get (by first | exact hl163 | simpa using hl163 | (simp only [List.length_set]; omega) | omega | (rw [(sortI_perm _).length_eq]; exact hl163))⟩
                      obtain ⟨b163, u163, cs163, l163, f163, j163, i163, g163, k163⟩ := OwnS.elem wPa0c12 h163
                      obtain rfl : l163 = [.int .u64 y163] := g163
                      refine Plan.v 10 [7, 11, 12, 13, 14, 15] (by kernel_rfl) (by kernel_rfl) (by kernel_rfl) (by kernel_rfl) rfl (fun _ _ h_ => R.ixp (sz := ((intE .u64)).size) Try.underlying22 Try.sizeOf26 rfl rfl rfl (by first | omega | (simp; done) | (simp; omega) | (simp at *; omega)) i163 (TL.nil h_)) ?_
                      refine Plan.s2 7 11 [11, 12, 13, 14, 15] [7, 12, 13, 14, 15] (by kernel_rfl) (by kernel_rfl) (by kernel_rfl) rfl rfl ?_ ?_
                      · refine R.ld Try.isAgg26 rfl rfl (by rw [← f159]; exact .hd) (k159 0 _ rfl) ?_
                        refine TL.nil (Plan.e1 (HLe.refl _) ?_)
                        refine Plan.s1 11 [12, 13, 14, 15] (by kernel_rfl) (by kernel_rfl) rfl ?_
                        refine R.ld Try.isAgg26 rfl rfl (by rw [← f163]; exact .hd) (k163 0 _ rfl) ?_
                        refine TL.nil (Plan.e1 (HLe.refl _) ?_)
                        have hl165 : n11c12.toNat < a0.length := by first | omega | (simp; done) | (simp; omega) | (simp at *; omega)
                        obtain ⟨y165, e165, h165⟩ : ∃ y, y = (xPa0c12.getD n11c12.toNat (0 : Int)) ∧ xPa0c12[n11c12.toNat]? = some y := ⟨_, rfl, getD_get (by first | exact hl165 | simpa using hl165 | (simp only [List.length_set]; omega) | omega | (rw [(sortI_perm _).length_eq]; exact hl165))⟩
                        obtain ⟨b165, u165, cs165, l165, f165, j165, i165, g165, k165⟩ := OwnS.elem wPa0c12 h165
                        obtain rfl : l165 = [.int .u64 y165] := g165
                        refine Plan.v 12 [13, 14, 15] (by kernel_rfl) (by kernel_rfl) (by kernel_rfl) (by kernel_rfl) rfl (fun _ _ h_ => R.ixp (sz := ((intE .u64)).size) Try.underlying22 Try.sizeOf26 rfl rfl rfl (by first | omega | (simp; done) | (simp; omega) | (simp at *; omega)) i165 (TL.nil h_)) ?_
                        refine Plan.s1 13 [14, 15] (by kernel_rfl) (by kernel_rfl) rfl ?_
                        refine R.stEF (E := (intE .u64)) (e := 26) (v := (.slice Aa0 a0.length pa0)) (m := [.int .u64 y159]) (o := 0) (y := y165) (y' := y159) (j := n11c12.toNat) Try.sizeOf26 rfl wPa0c12 .hd i165 rfl rfl (cells1 rfl) (all_one rfl) h165 (by show 0 + 1 ≤ 1; decide) (fun l hl => by have e0 : l = [.int .u64 y165] := hl; subst e0; exact rfl) ?_
                        intro cst411 wst411
                        refine TL.nil (Plan.e0 (HLe.refl _) ?_)
                        have hl166 : a1.toNat < a0.length := by first | omega | (simp; done) | (simp; omega) | (simp at *; omega)
                        obtain ⟨y166, e166, h166⟩ : ∃ y, y = (((xPa0c12.set n11c12.toNat y159)).getD a1.toNat (0 : Int)) ∧ ((xPa0c12.set n11c12.toNat y159))[a1.toNat]? = some y := ⟨_, rfl, getD_get (by first | exact hl166 | simpa using hl166 | (simp only [List.length_set]; omega) | omega | (rw [(sortI_perm _).length_eq]; exact hl166))⟩
                        obtain ⟨b166, u166, cs166, l166, f166, j166, i166, g166, k166⟩ := OwnS.elem wst411 h166
                        obtain rfl : l166 = [.int .u64 y166] := g166
                        refine Plan.v 14 [15] (by kernel_rfl) (by kernel_rfl) (by kernel_rfl) (by kernel_rfl) rfl (fun _ _ h_ => R.ixp (sz := ((intE .u64)).size) Try.underlying22 Try.sizeOf26 rfl rfl rfl (by first | omega | (simp; done) | (simp; omega) | (simp at *; omega)) i166 (TL.nil h_)) ?_
                        refine Plan.s1 15 [] (by kernel_rfl) (by kernel_rfl) rfl ?_
                        refine R.stEF (E := (intE .u64)) (e := 26) (v := (.slice Aa0 a0.length pa0)) (m := [.int .u64 y163]) (o := 0) (y := y166) (y' := y163) (j := a1.toNat) Try.sizeOf26 rfl wst411 .hd i166 rfl rfl (cells1 rfl) (all_one rfl) h166 (by show 0 + 1 ≤ 1; decide) (fun l hl => by have e0 : l = [.int .u64 y166] := hl; subst e0; exact rfl) ?_
                        intro cst412 wst412
                        refine TL.nil (Plan.e0 (HLe.refl _) ?_)
                        refine Plan.done (Post.thnN ?_)
                        refine T.seq ?_
                        refine T.region ?_
                        refine R.mvE rfl (by conv => lhs; whnf) ?_
                        refine R.asE rfl (by conv => lhs; whnf) ?_
                        refine R.asE rfl (by conv => lhs; whnf) ?_
                        refine TL.nil (Post.thnN ?_)
                        refine T.has (Has.cons .hd Has.nil) ?_
                        refine T.ret ?_
                        have hM : slices_partitionOrdered_Id_m a0 a1 a2 a3 = (n11c12, false, (((xPa0c12.set n11c12.toNat y159)).set a1.toNat y163)) := by subst e166; subst e165; subst e163; subst e159; rw [slices_partitionOrdered_Id_m, hTc1, LR.seq_go, hEl2, LR.seq_go, hEl4, LR.seq_go, if_neg c65, hTc6, LR.seq_go, hTc12, LR.seq_go]
                        exact fin2L (v := .int .i64 n11c12) (v' := .bool false) [cst412] rfl rfl rfl (List.Sublist.refl _) ⟨cst412, by first | rw [hM] | rfl, by first | rw [hM] | rfl, by rw [hM]; exact wst412⟩
                      · refine R.ld Try.isAgg26 rfl rfl (by rw [← f163]; exact .hd) (k163 0 _ rfl) ?_
                        refine TL.nil (Plan.e1 (HLe.refl _) ?_)
                        refine Plan.s1 7 [12, 13, 14, 15] (by kernel_rfl) (by kernel_rfl) rfl ?_
                        refine R.ld Try.isAgg26 rfl rfl (by rw [← f159]; exact .hd) (k159 0 _ rfl) ?_
                        refine TL.nil (Plan.e1 (HLe.refl _) ?_)
                        have hl165 : n11c12.toNat < a0.length := by first | omega | (simp; done) | (simp; omega) | (simp at *; omega)
                        obtain ⟨y165, e165, h165⟩ : ∃ y, y = (xPa0c12.getD n11c12.toNat (0 : Int)) ∧ xPa0c12[n11c12.toNat]? = some y := ⟨_, rfl, getD_get (by first | exact hl165 | simpa using hl165 | (simp only [List.length_set]; omega) | omega | (rw [(sortI_perm _).length_eq]; exact hl165))⟩
                        obtain ⟨b165, u165, cs165, l165, f165, j165, i165, g165, k165⟩ := OwnS.elem wPa0c12 h165
                        obtain rfl : l165 = [.int .u64 y165] := g165
                        refine Plan.v 12 [13, 14, 15] (by kernel_rfl) (by kernel_rfl) (by kernel_rfl) (by kernel_rfl) rfl (fun _ _ h_ => R.ixp (sz := ((intE .u64)).size) Try.underlying22 Try.sizeOf26 rfl rfl rfl (by first | omega | (simp; done) | (simp; omega) | (simp at *; omega)) i165 (TL.nil h_)) ?_
                        refine Plan.s1 13 [14, 15] (by kernel_rfl) (by kernel_rfl) rfl ?_
                        refine R.stEF (E := (intE .u64)) (e := 26) (v := (.slice Aa0 a0.length pa0)) (m := [.int .u64 y159]) (o := 0) (y := y165) (y' := y159) (j := n11c12.toNat) Try.sizeOf26 rfl wPa0c12 .hd i165 rfl rfl (cells1 rfl) (all_one rfl) h165 (by show 0 + 1 ≤ 1; decide) (fun l hl => by have e0 : l = [.int .u64 y165] := hl; subst e0; exact rfl) ?_
                        intro cst413 wst413
                        refine TL.nil (Plan.e0 (HLe.refl _) ?_)
                        have hl166 : a1.toNat < a0.length := by first | omega | (simp; done) | (simp; omega) | (simp at *; omega)
                        obtain ⟨y166, e166, h166⟩ : ∃ y, y = (((xPa0c12.set n11c12.toNat y159)).getD a1.toNat (0 : Int)) ∧ ((xPa0c12.set n11c12.toNat y159))[a1.toNat]? = some y := ⟨_, rfl, getD_get (by first | exact hl166 | simpa using hl166 | (simp only [List.length_set]; omega) | omega | (rw [(sortI_perm _).length_eq]; exact hl166))⟩
                        obtain ⟨b166, u166, cs166, l166, f166, j166, i166, g166, k166⟩ := OwnS.elem wst413 h166
                        obtain rfl : l166 = [.int .u64 y166] := g166
                        refine Plan.v 14 [15] (by kernel_rfl) (by kernel_rfl) (by kernel_rfl) (by kernel_rfl) rfl (fun _ _ h_ => R.ixp (sz := ((intE .u64)).size) Try.underlying22 Try.sizeOf26 rfl rfl rfl (by first | omega | (simp; done) | (simp; omega) | (simp at *; omega)) i166 (TL.nil h_)) ?_
                        refine Plan.s1 15 [] (by kernel_rfl) (by kernel_rfl) rfl ?_
                        refine R.stEF (E := (intE .u64)) (e := 26) (v := (.slice Aa0 a0.length pa0)) (m := [.int .u64 y163]) (o := 0) (y := y166) (y' := y163) (j := a1.toNat) Try.sizeOf26 rfl wst413 .hd i166 rfl rfl (cells1 rfl) (all_one rfl) h166 (by show 0 + 1 ≤ 1; decide) (fun l hl => by have e0 : l = [.int .u64 y166] := hl; subst e0; exact rfl) ?_
                        intro cst414 wst414
                        refine TL.nil (Plan.e0 (HLe.refl _) ?_)
                        refine Plan.done (Post.thnN ?_)
                        refine T.seq ?_
                        refine T.region ?_
                        refine R.mvE rfl (by conv => lhs; whnf) ?_
                        refine R.asE rfl (by conv => lhs; whnf) ?_
                        refine R.asE rfl (by conv => lhs; whnf) ?_
                        refine TL.nil (Post.thnN ?_)
                        refine T.has (Has.cons .hd Has.nil) ?_
                        refine T.ret ?_
                        have hM : slices_partitionOrdered_Id_m a0 a1 a2 a3 = (n11c12, false, (((xPa0c12.set n11c12.toNat y159)).set a1.toNat y163)) := by subst e166; subst e165; subst e163; subst e159; rw [slices_partitionOrdered_Id_m, hTc1, LR.seq_go, hEl2, LR.seq_go, hEl4, LR.seq_go, if_neg c65, hTc6, LR.seq_go, hTc12, LR.seq_go]
                        exact fin2L (v := .int .i64 n11c12) (v' := .bool false) [cst414] rfl rfl rfl (List.Sublist.refl _) ⟨cst414, by first | rw [hM] | rfl, by first | rw [hM] | rfl, by rw [hM]; exact wst414⟩

end Go.SX

set_option linter.unusedVariables false
set_option linter.unusedSimpArgs false
namespace Go.SX
open Go Go.Proofs

def slices_order2Ordered_Id_m (a0 : List Int) (a1 : Int) (a2 : Int) (a3 : Int) : Int × Int × (List Int) × Int :=
  LR.seq ((cmp_Less_Id_m (a0.getD a2.toNat (0 : Int)) (a0.getD a1.toNat (0 : Int))) : Bool) (fun sc1 => if sc1 = true then ((a2, a1, a0, (a3 + 1))) else ((a1, a2, a0, a3)))
set_option maxHeartbeats 3200000 in
theorem slices_order2Ordered_Id_c (H : Heap) (va0 : Value) (a0 : List Int) (Ca0 : Chunk) (ha0 : OwnS (intE .u64) 26 H va0 a0 Ca0) (a1 : Int) (a2 : Int) (ba3 : Nat) (a3 : Int) (h1 : 0 ≤ a1) (h2 : a1 < (a0.length : Int)) (h3 : 0 ≤ a2) (h4 : a2 < (a0.length : Int)) (h5 : 0 ≤ a3) (h6 : a3 ≤ 1000) : Fc Try.prog (fnv 160) [va0, .int .i64 a1, .int .i64 a2, .pointer (some ⟨ba3, 0, none⟩)] H [Ca0, [(ba3, .cells #[.int .i64 a3] 3)]] (fun v' H' L' => ∃ Da0, v' = .tuple #[.int .i64 (slices_order2Ordered_Id_m a0 a1 a2 a3).1, .int .i64 (slices_order2Ordered_Id_m a0 a1 a2 a3).2.1] ∧ L' = [Da0, [(ba3, .cells #[.int .i64 (slices_order2Ordered_Id_m a0 a1 a2 a3).2.2.2] 3)]] ∧ OwnS (intE .u64) 26 H' va0 (slices_order2Ordered_Id_m a0 a1 a2 a3).2.2.1 Da0) := by
  refine Fc.of_body (N := 28) Try.func160 rfl (by kernel_rfl) rfl rfl ?_
  intro w0
  obtain ⟨Aa0, pa0, rfl, ma0, na0⟩ := OwnS.shape ha0
  refine T.seq ?_
  refine T.region ?_
  refine R.asE rfl (by conv => lhs; whnf) ?_
  refine R.asE rfl (by conv => lhs; whnf) ?_
  refine TL.nil (Post.thnN ?_)
  refine T.seq ?_
  refine T.seq ?_
  refine T.cutK (ι := Bool) (fun b18c1 H' L' ds' => Has L' [Ca0, [(ba3, .cells #[.int .i64 a3] 3)]] ∧ ((cmp_Less_Id_m (a0.getD a2.toNat (0 : Int)) (a0.getD a1.toNat (0 : Int))) : Bool) = b18c1) (fun b18c1 => [(1, .int .i64 a1), (2, .int .i64 a2), (3, .pointer (some ⟨ba3, 0, none⟩)), (18, .bool (b18c1))]) ?_ ?_
  · refine T.draw Try_mixed (by kernel_rfl) ?_
    refine Plan.v 0 [1, 2, 3, 4, 5, 6, 7, 8] (by kernel_rfl) (by kernel_rfl) (by kernel_rfl) (by kernel_rfl) rfl (fun _ _ h_ => R.mvE rfl (by conv => lhs; whnf) (TL.nil h_)) ?_
    refine Plan.v 1 [2, 3, 4, 5, 6, 7, 8] (by kernel_rfl) (by kernel_rfl) (by kernel_rfl) (by kernel_rfl) rfl (fun _ _ h_ => R.mvE rfl (by conv => lhs; whnf) (TL.nil h_)) ?_
    have hl12 : a2.toNat < a0.length := by first | omega | (simp; done) | (simp; omega) | (simp at *; omega)
    obtain ⟨y12, e12, h12⟩ : ∃ y, y = (a0.getD a2.toNat (0 : Int)) ∧ a0[a2.toNat]? = some y := ⟨_, rfl, getD_get (by first | exact hl12 | simpa using hl12 | (simp only [List.length_set]; omega) | omega | (rw [(sortI_perm _).length_eq]; exact hl12))⟩
    obtain ⟨b12, u12, cs12, l12, f12, j12, i12, g12, k12⟩ := OwnS.elem ha0 h12
    obtain rfl : l12 = [.int .u64 y12] := g12
    refine Plan.v 2 [3, 4, 5, 6, 7, 8] (by kernel_rfl) (by kernel_rfl) (by kernel_rfl) (by kernel_rfl) rfl (fun _ _ h_ => R.ixp (sz := ((intE .u64)).size) Try.underlying22 Try.sizeOf26 rfl rfl rfl (by first | omega | (simp; done) | (simp; omega) | (simp at *; omega)) i12 (TL.nil h_)) ?_
    refine Plan.v 4 [3, 5, 6, 7, 8] (by kernel_rfl) (by kernel_rfl) (by kernel_rfl) (by kernel_rfl) rfl (fun _ _ h_ => R.mvE rfl (by conv => lhs; whnf) (TL.nil h_)) ?_
    refine Plan.v 5 [3, 6, 7, 8] (by kernel_rfl) (by kernel_rfl) (by kernel_rfl) (by kernel_rfl) rfl (fun _ _ h_ => R.mvE rfl (by conv => lhs; whnf) (TL.nil h_)) ?_
    have hl16 : a1.toNat < a0.length := by first | omega | (simp; done) | (simp; omega) | (simp at *; omega)
    obtain ⟨y16, e16, h16⟩ : ∃ y, y = (a0.getD a1.toNat (0 : Int)) ∧ a0[a1.toNat]? = some y := ⟨_, rfl, getD_get (by first | exact hl16 | simpa using hl16 | (simp only [List.length_set]; omega) | omega | (rw [(sortI_perm _).length_eq]; exact hl16))⟩
    obtain ⟨b16, u16, cs16, l16, f16, j16, i16, g16, k16⟩ := OwnS.elem ha0 h16
    obtain rfl : l16 = [.int .u64 y16] := g16
    refine Plan.v 6 [3, 7, 8] (by kernel_rfl) (by kernel_rfl) (by kernel_rfl) (by kernel_rfl) rfl (fun _ _ h_ => R.ixp (sz := ((intE .u64)).size) Try.underlying22 Try.sizeOf26 rfl rfl rfl (by first | omega | (simp; done) | (simp; omega) | (simp at *; omega)) i16 (TL.nil h_)) ?_
    refine Plan.s2 3 7 [7, 8] [3, 8] (by kernel_rfl) (by kernel_rfl) (by kernel_rfl) rfl rfl ?_ ?_
    · refine R.ld Try.isAgg26 rfl rfl (by rw [← f12]; exact .hd) (k12 0 _ rfl) ?_
      refine TL.nil (Plan.e1 (HLe.refl _) ?_)
      refine Plan.s1 7 [8] (by kernel_rfl) (by kernel_rfl) rfl ?_
      refine R.ld Try.isAgg26 rfl rfl (by rw [← f16]; exact .hd) (k16 0 _ rfl) ?_
      refine TL.nil (Plan.e1 (HLe.refl _) ?_)
      refine Plan.v 8 [] (by kernel_rfl) (by kernel_rfl) (by kernel_rfl) (by kernel_rfl) rfl (fun _ _ h_ => R.callv rfl rfl rfl (cmp_Less_Id_c _ (y12) (y16)) (TL.nil h_)) ?_
      refine Plan.done (Post.thnN ?_)
      exact ⟨(cmp_Less_Id_m y12 y16), HLe.refl _, ⟨(Has.cons .hd (Has.cons .hd Has.nil)), (by subst e16; subst e12; rfl)⟩, rfl, rfl, rfl, rfl, trivial⟩
    · refine R.ld Try.isAgg26 rfl rfl (by rw [← f16]; exact .hd) (k16 0 _ rfl) ?_
      refine TL.nil (Plan.e1 (HLe.refl _) ?_)
      refine Plan.s1 3 [8] (by kernel_rfl) (by kernel_rfl) rfl ?_
      refine R.ld Try.isAgg26 rfl rfl (by rw [← f12]; exact .hd) (k12 0 _ rfl) ?_
      refine TL.nil (Plan.e1 (HLe.refl _) ?_)
      refine Plan.v 8 [] (by kernel_rfl) (by kernel_rfl) (by kernel_rfl) (by kernel_rfl) rfl (fun _ _ h_ => R.callv rfl rfl rfl (cmp_Less_Id_c _ (y12) (y16)) (TL.nil h_)) ?_
      refine Plan.done (Post.thnN ?_)
      exact ⟨(cmp_Less_Id_m y12 y16), HLe.refl _, ⟨(Has.cons .hd (Has.cons .hd Has.nil)), (by subst e16; subst e12; rfl)⟩, rfl, rfl, rfl, rfl, trivial⟩
  · intro b18c1 σ_c1 H_c1 L_c1 ds_c1 s_c1 hI_c1
    obtain ⟨hLc1, hTc1⟩ := hI_c1
    refine T.has hLc1 ?_
    refine T.cond rfl (fun c18 => ?_) (fun c18 => ?_)
    · refine T.set 18 (.bool true) (congrArg Value.bool c18) ?_
      have hZ18 := hTc1.trans c18
      try simp only [or_f, or_t, and_f, and_t, decide_eq_true_eq, decide_eq_false_iff_not, Bool.not_eq_true'] at hZ18
      refine T.seq ?_
      refine T.region ?_
      refine R.mvE rfl (by conv => lhs; whnf) ?_
      refine R.nilck rfl rfl ?_
      refine R.ld Try.isAgg3 rfl rfl (.tl .hd) rfl ?_
      refine R.addI rfl rfl rfl (by omega) ?_
      refine R.nilck rfl rfl ?_
      refine R.stX (old := [.int .i64 a3]) (l := [.int .i64 (a3 + 1)]) (new := [.int .i64 (a3 + 1)]) (et := 3) Try.sizeOf3 rfl rfl rfl (cells1 rfl) rfl (by show 0 + 1 ≤ 1; decide) rfl (all_one rfl) (.tl .hd) ?_
      refine TL.nil (Post.thnN ?_)
      refine T.seq ?_
      refine T.region ?_
      refine R.mvE rfl (by conv => lhs; whnf) ?_
      refine R.mvE rfl (by conv => lhs; whnf) ?_
      refine R.asE rfl (by conv => lhs; whnf) ?_
      refine R.asE rfl (by conv => lhs; whnf) ?_
      refine TL.nil (Post.thnN ?_)
      refine T.has (Has.cons .hd (Has.cons .hd Has.nil)) ?_
      refine T.ret (Post.thnR ?_)
      have hM : slices_order2Ordered_Id_m a0 a1 a2 a3 = (a2, a1, a0, (a3 + 1)) := by rw [slices_order2Ordered_Id_m, hTc1, LR.seq_go, if_t c18]
      exact fin2L (v := .int .i64 a2) (v' := .int .i64 a1) [Ca0, [(ba3, .cells #[.int .i64 (a3 + 1)] 3)]] rfl rfl rfl (List.Sublist.refl _) ⟨Ca0, by first | rw [hM] | rfl, by first | rw [hM] | rfl, by rw [hM]; exact (OwnS.mono ha0 s_c1)⟩
    · refine T.set 18 (.bool false) (congrArg Value.bool c18) ?_
      have hZ18 := hTc1.trans c18
      try simp only [or_f, or_t, and_f, and_t, decide_eq_true_eq, decide_eq_false_iff_not, Bool.not_eq_true'] at hZ18
      refine T.skip (Post.thnN ?_)
      refine T.seq ?_
      refine T.region ?_
      refine R.mvE rfl (by conv => lhs; whnf) ?_
      refine R.mvE rfl (by conv => lhs; whnf) ?_
      refine R.asE rfl (by conv => lhs; whnf) ?_
      refine R.asE rfl (by conv => lhs; whnf) ?_
      refine TL.nil (Post.thnN ?_)
      refine T.has (Has.cons .hd (Has.cons .hd Has.nil)) ?_
      refine T.ret ?_
      have hM : slices_order2Ordered_Id_m a0 a1 a2 a3 = (a1, a2, a0, a3) := by rw [slices_order2Ordered_Id_m, hTc1, LR.seq_go, if_f c18]
      exact fin2L (v := .int .i64 a1) (v' := .int .i64 a2) [Ca0, [(ba3, .cells #[.int .i64 a3] 3)]] rfl rfl rfl (List.Sublist.refl _) ⟨Ca0, by first | rw [hM] | rfl, by first | rw [hM] | rfl, by rw [hM]; exact (OwnS.mono ha0 s_c1)⟩

theorem order2_f (a0 : List Int) (a1 a2 a3 : Int) (r : Int × Int × (List Int) × Int) (e : r = slices_order2Ordered_Id_m a0 a1 a2 a3) : ((r.1 = a1 ∧ r.2.1 = a2) ∨ (r.1 = a2 ∧ r.2.1 = a1)) ∧ r.2.2.1 = a0 ∧ a3 ≤ r.2.2.2 ∧ r.2.2.2 ≤ a3 + 1 := by
  subst e
  unfold slices_order2Ordered_Id_m
  rw [LR.seq_go]
  split
  · exact ⟨.inr ⟨rfl, rfl⟩, rfl, by show a3 ≤ a3 + 1; omega, Int.le_refl _⟩
  · exact ⟨.inl ⟨rfl, rfl⟩, rfl, Int.le_refl _, by show a3 ≤ a3 + 1; omega⟩
def slices_medianOrdered_Id_m (a0 : List Int) (a1 : Int) (a2 : Int) (a3 : Int) (a4 : Int) : Int × (List Int) × Int :=
  LR.seq (slices_order2Ordered_Id_m a0 a1 a2 a4) (fun r16 => LR.seq (slices_order2Ordered_Id_m r16.2.2.1 r16.2.1 a3 r16.2.2.2) (fun r24 => LR.seq (slices_order2Ordered_Id_m r24.2.2.1 r16.1 r24.1 r24.2.2.2) (fun r32 => (r32.2.1, r32.2.2.1, r32.2.2.2))))
set_option maxHeartbeats 3200000 in
theorem slices_medianOrdered_Id_c (H : Heap) (va0 : Value) (a0 : List Int) (Ca0 : Chunk) (ha0 : OwnS (intE .u64) 26 H va0 a0 Ca0) (a1 : Int) (a2 : Int) (a3 : Int) (ba4 : Nat) (a4 : Int) (h1 : 0 ≤ a1) (h2 : a1 < (a0.length : Int)) (h3 : 0 ≤ a2) (h4 : a2 < (a0.length : Int)) (h7 : 0 ≤ a3) (h8 : a3 < (a0.length : Int)) (h5 : 0 ≤ a4) (h6 : a4 ≤ 900) : Fc Try.prog (fnv 154) [va0, .int .i64 a1, .int .i64 a2, .int .i64 a3, .pointer (some ⟨ba4, 0, none⟩)] H [Ca0, [(ba4, .cells #[.int .i64 a4] 3)]] (fun v' H' L' => ∃ Da0, v' = .int .i64 (slices_medianOrdered_Id_m a0 a1 a2 a3 a4).1 ∧ L' = [Da0, [(ba4, .cells #[.int .i64 (slices_medianOrdered_Id_m a0 a1 a2 a3 a4).2.2] 3)]] ∧ OwnS (intE .u64) 26 H' va0 (slices_medianOrdered_Id_m a0 a1 a2 a3 a4).2.1 Da0) := by
  refine Fc.of_body (N := 36) Try.func154 rfl (by kernel_rfl) rfl rfl ?_
  intro w0
  obtain ⟨Aa0, pa0, rfl, ma0, na0⟩ := OwnS.shape ha0
  refine T.seq ?_
  refine T.region ?_
  refine R.asE rfl (by conv => lhs; whnf) ?_
  refine TL.nil (Post.thnN ?_)
  refine T.seq ?_
  refine T.region ?_
  refine R.mvE rfl (by conv => lhs; whnf) ?_
  refine R.mvE rfl (by conv => lhs; whnf) ?_
  refine R.mvE rfl (by conv => lhs; whnf) ?_
  refine R.mvE rfl (by conv => lhs; whnf) ?_
  obtain ⟨r16, er16⟩ : ∃ r, r = (slices_order2Ordered_Id_m a0 a1 a2 a4) := ⟨_, rfl⟩
  refine TL.call [true, true] rfl rfl rfl (slices_order2Ordered_Id_c _ _ a0 _ ha0 (a1) (a2) _ a4 (by first | omega | (simp; done) | (simp; omega) | (simp at *; omega)) (by first | omega | (simp; done) | (simp; omega) | (simp at *; omega)) (by first | omega | (simp; done) | (simp; omega) | (simp at *; omega)) (by first | omega | (simp; done) | (simp; omega) | (simp at *; omega)) (by first | omega | (simp; done) | (simp; omega) | (simp at *; omega)) (by first | omega | (simp; done) | (simp; omega) | (simp at *; omega))) ?_
  intro v16 H16 L16 s16 q16
  rw [← er16] at q16
  obtain ⟨D16_a0, rfl, rfl, w16_a0⟩ := q16
  have n16_a0_ := OwnS.len w16_a0
  have tf16 := order2_f _ _ _ _ _ er16
  refine R.mvE rfl (by conv => lhs; whnf) ?_
  refine R.ext rfl rfl rfl ?_
  refine R.ext rfl rfl rfl ?_
  refine R.asE rfl (by conv => lhs; whnf) ?_
  refine R.asE rfl (by conv => lhs; whnf) ?_
  refine TL.nil (Post.thnN ?_)
  refine T.seq ?_
  refine T.region ?_
  refine R.mvE rfl (by conv => lhs; whnf) ?_
  refine R.mvE rfl (by conv => lhs; whnf) ?_
  refine R.mvE rfl (by conv => lhs; whnf) ?_
  refine R.mvE rfl (by conv => lhs; whnf) ?_
  obtain ⟨r24, er24⟩ : ∃ r, r = (slices_order2Ordered_Id_m r16.2.2.1 r16.2.1 a3 r16.2.2.2) := ⟨_, rfl⟩
  refine TL.call [true, true] rfl rfl rfl (slices_order2Ordered_Id_c _ _ r16.2.2.1 _ w16_a0 (r16.2.1) (a3) _ r16.2.2.2 (by first | omega | (simp; done) | (simp; omega) | (simp at *; omega)) (by first | omega | (simp; done) | (simp; omega) | (simp at *; omega)) (by first | omega | (simp; done) | (simp; omega) | (simp at *; omega)) (by first | omega | (simp; done) | (simp; omega) | (simp at *; omega)) (by first | omega | (simp; done) | (simp; omega) | (simp at *; omega)) (by first | omega | (simp; done) | (simp; omega) | (simp at *; omega))) ?_
  intro v24 H24 L24 s24 q24
  rw [← er24] at q24
  obtain ⟨D24_a0, rfl, rfl, w24_a0⟩ := q24
  have n24_a0_ := OwnS.len w24_a0
  have tf24 := order2_f _ _ _ _ _ er24
  refine R.mvE rfl (by conv => lhs; whnf) ?_
  refine R.ext rfl rfl rfl ?_
  refine R.ext rfl rfl rfl ?_
  refine R.asE rfl (by conv => lhs; whnf) ?_
  refine R.asE rfl (by conv => lhs; whnf) ?_
  refine TL.nil (Post.thnN ?_)
  refine T.seq ?_
  refine T.region ?_
  refine R.mvE rfl (by conv => lhs; whnf) ?_
  refine R.mvE rfl (by conv => lhs; whnf) ?_
  refine R.mvE rfl (by conv => lhs; whnf) ?_
  refine R.mvE rfl (by conv => lhs; whnf) ?_
  obtain ⟨r32, er32⟩ : ∃ r, r = (slices_order2Ordered_Id_m r24.2.2.1 r16.1 r24.1 r24.2.2.2) := ⟨_, rfl⟩
  refine TL.call [true, true] rfl rfl rfl (slices_order2Ordered_Id_c _ _ r24.2.2.1 _ w24_a0 (r16.1) (r24.1) _ r24.2.2.2 (by first | omega | (simp; done) | (simp; omega) | (simp at *; omega)) (by first | omega | (simp; done) | (simp; omega) | (simp at *; omega)) (by first | omega | (simp; done) | (simp; omega) | (simp at *; omega)) (by first | omega | (simp; done) | (simp; omega) | (simp at *; omega)) (by first | omega | (simp; done) | (simp; omega) | (simp at *; omega)) (by first | omega | (simp; done) | (simp; omega) | (simp at *; omega))) ?_
  intro v32 H32 L32 s32 q32
  rw [← er32] at q32
  obtain ⟨D32_a0, rfl, rfl, w32_a0⟩ := q32
  have n32_a0_ := OwnS.len w32_a0
  have tf32 := order2_f _ _ _ _ _ er32
  refine R.mvE rfl (by conv => lhs; whnf) ?_
  refine R.ext rfl rfl rfl ?_
  refine R.ext rfl rfl rfl ?_
  refine R.asE rfl (by conv => lhs; whnf) ?_
  refine R.asE rfl (by conv => lhs; whnf) ?_
  refine TL.nil (Post.thnN ?_)
  refine T.seq ?_
  refine T.region ?_
  refine R.mvE rfl (by conv => lhs; whnf) ?_
  refine R.asE rfl (by conv => lhs; whnf) ?_
  refine TL.nil (Post.thnN ?_)
  refine T.has (Has.cons .hd (Has.cons .hd Has.nil)) ?_
  refine T.ret ?_
  have hM : slices_medianOrdered_Id_m a0 a1 a2 a3 a4 = (r32.2.1, r32.2.2.1, r32.2.2.2) := by subst er32; subst er24; subst er16; rw [slices_medianOrdered_Id_m, LR.seq_go, LR.seq_go, LR.seq_go]
  exact fin1L (v := .int .i64 (r32.2.1)) [D32_a0, [(ba4, .cells #[.int .i64 (r32.2.2.2)] 3)]] rfl rfl (List.Sublist.refl _) ⟨D32_a0, by first | rw [hM] | rfl, by first | rw [hM] | rfl, by rw [hM]; exact w32_a0⟩

theorem median_f (a0 : List Int) (a1 a2 a3 a4 : Int) (r : Int × (List Int) × Int) (e : r = slices_medianOrdered_Id_m a0 a1 a2 a3 a4) : (r.1 = a1 ∨ r.1 = a2 ∨ r.1 = a3) ∧ r.2.1 = a0 ∧ a4 ≤ r.2.2 ∧ r.2.2 ≤ a4 + 3 := by
  subst e
  unfold slices_medianOrdered_Id_m
  simp only [LR.seq_go]
  have k1 := order2_f a0 a1 a2 a4 _ rfl
  generalize slices_order2Ordered_Id_m a0 a1 a2 a4 = q1 at *
  have k2 := order2_f q1.2.2.1 q1.2.1 a3 q1.2.2.2 _ rfl
  generalize slices_order2Ordered_Id_m q1.2.2.1 q1.2.1 a3 q1.2.2.2 = q2 at *
  have k3 := order2_f q2.2.2.1 q1.1 q2.1 q2.2.2.2 _ rfl
  generalize slices_order2Ordered_Id_m q2.2.2.1 q1.1 q2.1 q2.2.2.2 = q3 at *
  refine ⟨?_, by rw [k3.2.1, k2.2.1, k1.2.1], ?_, ?_⟩ <;> omega
def slices_medianAdjacentOrdered_Id_m (a0 : List Int) (a1 : Int) (a2 : Int) : Int × (List Int) × Int :=
  LR.seq (slices_medianOrdered_Id_m a0 ((a1 - 1)) a1 ((a1 + 1)) a2) (fun r14 => (r14.1, r14.2.1, r14.2.2))
set_option maxHeartbeats 3200000 in
theorem slices_medianAdjacentOrdered_Id_c (H : Heap) (va0 : Value) (a0 : List Int) (Ca0 : Chunk) (ha0 : OwnS (intE .u64) 26 H va0 a0 Ca0) (a1 : Int) (ba2 : Nat) (a2 : Int) (h1 : 1 ≤ a1) (h2 : a1 + 1 < (a0.length : Int)) (h5 : 0 ≤ a2) (h6 : a2 ≤ 900) : Fc Try.prog (fnv 153) [va0, .int .i64 a1, .pointer (some ⟨ba2, 0, none⟩)] H [Ca0, [(ba2, .cells #[.int .i64 a2] 3)]] (fun v' H' L' => ∃ Da0, v' = .int .i64 (slices_medianAdjacentOrdered_Id_m a0 a1 a2).1 ∧ L' = [Da0, [(ba2, .cells #[.int .i64 (slices_medianAdjacentOrdered_Id_m a0 a1 a2).2.2] 3)]] ∧ OwnS (intE .u64) 26 H' va0 (slices_medianAdjacentOrdered_Id_m a0 a1 a2).2.1 Da0) := by
  refine Fc.of_body (N := 15) Try.func153 rfl (by kernel_rfl) rfl rfl ?_
  intro w0
  obtain ⟨Aa0, pa0, rfl, ma0, na0⟩ := OwnS.shape ha0
  refine T.seq ?_
  refine T.region ?_
  refine R.asE rfl (by conv => lhs; whnf) ?_
  refine TL.nil (Post.thnN ?_)
  refine T.seq ?_
  refine T.region ?_
  refine R.mvE rfl (by conv => lhs; whnf) ?_
  refine R.mvE rfl (by conv => lhs; whnf) ?_
  refine R.subI rfl rfl rfl (by omega) ?_
  refine R.mvE rfl (by conv => lhs; whnf) ?_
  refine R.mvE rfl (by conv => lhs; whnf) ?_
  refine R.addI rfl rfl rfl (by omega) ?_
  refine R.mvE rfl (by conv => lhs; whnf) ?_
  obtain ⟨r14, er14⟩ : ∃ r, r = (slices_medianOrdered_Id_m a0 ((a1 - 1)) a1 ((a1 + 1)) a2) := ⟨_, rfl⟩
  refine TL.call [true, true] rfl rfl rfl (slices_medianOrdered_Id_c _ _ a0 _ ha0 ((a1 - 1)) (a1) ((a1 + 1)) _ a2 (by first | omega | (simp; done) | (simp; omega) | (simp at *; omega)) (by first | omega | (simp; done) | (simp; omega) | (simp at *; omega)) (by first | omega | (simp; done) | (simp; omega) | (simp at *; omega)) (by first | omega | (simp; done) | (simp; omega) | (simp at *; omega)) (by first | omega | (simp; done) | (simp; omega) | (simp at *; omega)) (by first | omega | (simp; done) | (simp; omega) | (simp at *; omega)) (by first | omega | (simp; done) | (simp; omega) | (simp at *; omega)) (by first | omega | (simp; done) | (simp; omega) | (simp at *; omega))) ?_
  intro v14 H14 L14 s14 q14
  rw [← er14] at q14
  obtain ⟨D14_a0, rfl, rfl, w14_a0⟩ := q14
  have n14_a0_ := OwnS.len w14_a0
  have tf14 := median_f _ _ _ _ _ _ er14
  refine R.asE rfl (by conv => lhs; whnf) ?_
  refine TL.nil (Post.thnN ?_)
  refine T.has (Has.cons .hd (Has.cons .hd Has.nil)) ?_
  refine T.ret ?_
  have hM : slices_medianAdjacentOrdered_Id_m a0 a1 a2 = (r14.1, r14.2.1, r14.2.2) := by subst er14; rw [slices_medianAdjacentOrdered_Id_m, LR.seq_go]
  exact fin1L (v := .int .i64 (r14.1)) [D14_a0, [(ba2, .cells #[.int .i64 (r14.2.2)] 3)]] rfl rfl (List.Sublist.refl _) ⟨D14_a0, by first | rw [hM] | rfl, by first | rw [hM] | rfl, by rw [hM]; exact w14_a0⟩

theorem medianAdj_f (a0 : List Int) (a1 a2 : Int) (r : Int × (List Int) × Int) (e : r = slices_medianAdjacentOrdered_Id_m a0 a1 a2) : (r.1 = a1 - 1 ∨ r.1 = a1 ∨ r.1 = a1 + 1) ∧ r.2.1 = a0 ∧ a2 ≤ r.2.2 ∧ r.2.2 ≤ a2 + 3 := by
  subst e
  unfold slices_medianAdjacentOrdered_Id_m
  simp only [LR.seq_go]
  exact median_f a0 (a1 - 1) a1 (a1 + 1) a2 _ rfl
def slices_choosePivotOrdered_Id_m (a0 : List Int) (a1 : Int) (a2 : Int) : Int × Int × (List Int) :=
  LR.seq (if (8 : Int) ≤ (a2 - a1) then (LR.seq (if (50 : Int) ≤ (a2 - a1) then (LR.seq (slices_medianAdjacentOrdered_Id_m a0 ((a1 + (((a2 - a1) / 4) * 1))) 0) (fun r37 => LR.seq (slices_medianAdjacentOrdered_Id_m r37.2.1 ((a1 + (((a2 - a1) / 4) * 2))) r37.2.2) (fun r40 => LR.seq (slices_medianAdjacentOrdered_Id_m r40.2.1 ((a1 + (((a2 - a1) / 4) * 3))) r40.2.2) (fun r43 => (r37.1, r40.1, r43.1, r43.2.2, r43.2.1))))) else (((a1 + (((a2 - a1) / 4) * 1)), (a1 + (((a2 - a1) / 4) * 2)), (a1 + (((a2 - a1) / 4) * 3)), 0, a0)) : Int × Int × Int × Int × (List Int)) (fun sc2 => LR.seq (slices_medianOrdered_Id_m sc2.2.2.2.2 sc2.1 sc2.2.1 sc2.2.2.1 sc2.2.2.2.1) (fun r48 => (r48.1, r48.2.2, r48.2.1)))) else (((a1 + (((a2 - a1) / 4) * 2)), 0, a0)) : Int × Int × (List Int)) (fun sc1 => if sc1.2.1 = 0 then ((sc1.1, 1, sc1.2.2)) else (if sc1.2.1 = 12 then ((sc1.1, 2, sc1.2.2)) else ((sc1.1, 0, sc1.2.2))))
set_option maxHeartbeats 3200000 in
theorem slices_choosePivotOrdered_Id_c (H : Heap) (va0 : Value) (a0 : List Int) (Ca0 : Chunk) (ha0 : OwnS (intE .u64) 26 H va0 a0 Ca0) (a1 : Int) (a2 : Int) (h1 : 0 ≤ a1) (h2 : a1 + 12 < a2) (h3 : a2 ≤ (a0.length : Int)) (hl : a0.length ≤ 4000000) : Fc Try.prog (fnv 113) [va0, .int .i64 a1, .int .i64 a2] H [Ca0] (fun v' H' L' => ∃ Da0, v' = .tuple #[.int .i64 (slices_choosePivotOrdered_Id_m a0 a1 a2).1, .int .i64 (slices_choosePivotOrdered_Id_m a0 a1 a2).2.1] ∧ L' = [Da0] ∧ OwnS (intE .u64) 26 H' va0 (slices_choosePivotOrdered_Id_m a0 a1 a2).2.2 Da0) := by
  refine Fc.of_body (N := 57) Try.func113 rfl (by kernel_rfl) rfl rfl ?_
  intro w0
  obtain ⟨Aa0, pa0, rfl, ma0, na0⟩ := OwnS.shape ha0
  refine T.seq ?_
  refine T.region ?_
  refine R.asE rfl (by conv => lhs; whnf) ?_
  refine R.asE rfl (by conv => lhs; whnf) ?_
  refine TL.nil (Post.thnN ?_)
  refine T.seq ?_
  refine T.region ?_
  refine R.mvE rfl (by conv => lhs; whnf) ?_
  refine R.mvE rfl (by conv => lhs; whnf) ?_
  refine R.subI rfl rfl rfl (by omega) ?_
  refine R.asE rfl (by conv => lhs; whnf) ?_
  refine TL.nil (Post.thnN ?_)
  refine T.seq ?_
  refine T.region ?_
  refine R.alloc Try.zeroValue3 rfl ?_
  intro b9
  refine TL.nil (Post.thnN ?_)
  refine T.seq ?_
  refine T.region ?_
  refine R.mvE rfl (by conv => lhs; whnf) ?_
  refine R.mvE rfl (by conv => lhs; whnf) ?_
  refine R.quoI rfl rfl rfl (by omega) ?_
  refine R.mulI rfl rfl rfl (by omega) ?_
  refine R.addI rfl rfl rfl (by omega) ?_
  refine R.asE rfl (by conv => lhs; whnf) ?_
  refine TL.nil (Post.thnN ?_)
  refine T.seq ?_
  refine T.region ?_
  refine R.mvE rfl (by conv => lhs; whnf) ?_
  refine R.mvE rfl (by conv => lhs; whnf) ?_
  refine R.quoI rfl rfl rfl (by omega) ?_
  refine R.mulI rfl rfl rfl (by omega) ?_
  refine R.addI rfl rfl rfl (by omega) ?_
  refine R.asE rfl (by conv => lhs; whnf) ?_
  refine TL.nil (Post.thnN ?_)
  refine T.seq ?_
  refine T.region ?_
  refine R.mvE rfl (by conv => lhs; whnf) ?_
  refine R.mvE rfl (by conv => lhs; whnf) ?_
  refine R.quoI rfl rfl rfl (by omega) ?_
  refine R.mulI rfl rfl rfl (by omega) ?_
  refine R.addI rfl rfl rfl (by omega) ?_
  refine R.asE rfl (by conv => lhs; whnf) ?_
  refine TL.nil (Post.thnN ?_)
  refine T.seq ?_
  refine T.seq ?_
  refine T.region ?_
  refine R.mvE rfl (by conv => lhs; whnf) ?_
  refine R.geq rfl rfl rfl ?_
  refine TL.nil (Post.thnN ?_)
  refine T.cutK (ι := Int × Int × (List Int) × Chunk) (fun ⟨n11c1, nb9c1_0, xPa0c1, cPa0c1⟩ H' L' ds' => Has L' [[(b9, .cells #[.int .i64 nb9c1_0] 3)], cPa0c1] ∧ OwnS (intE .u64) 26 H' (.slice Aa0 a0.length pa0) xPa0c1 cPa0c1 ∧ (if (8 : Int) ≤ (a2 - a1) then (LR.seq (if (50 : Int) ≤ (a2 - a1) then (LR.seq (slices_medianAdjacentOrdered_Id_m a0 ((a1 + (((a2 - a1) / 4) * 1))) 0) (fun r37 => LR.seq (slices_medianAdjacentOrdered_Id_m r37.2.1 ((a1 + (((a2 - a1) / 4) * 2))) r37.2.2) (fun r40 => LR.seq (slices_medianAdjacentOrdered_Id_m r40.2.1 ((a1 + (((a2 - a1) / 4) * 3))) r40.2.2) (fun r43 => (r37.1, r40.1, r43.1, r43.2.2, r43.2.1))))) else (((a1 + (((a2 - a1) / 4) * 1)), (a1 + (((a2 - a1) / 4) * 2)), (a1 + (((a2 - a1) / 4) * 3)), 0, a0)) : Int × Int × Int × Int × (List Int)) (fun sc2 => LR.seq (slices_medianOrdered_Id_m sc2.2.2.2.2 sc2.1 sc2.2.1 sc2.2.2.1 sc2.2.2.2.1) (fun r48 => (r48.1, r48.2.2, r48.2.1)))) else (((a1 + (((a2 - a1) / 4) * 2)), 0, a0)) : Int × Int × (List Int)) = (n11c1, nb9c1_0, xPa0c1)) (fun ⟨n11c1, nb9c1_0, xPa0c1, cPa0c1⟩ => [(9, .pointer (some ⟨b9, 0, none⟩)), (11, .int .i64 n11c1)]) ?_ ?_
  · refine T.condD rfl (fun c32 => ?_) (fun c32 => ?_)
    · refine T.set 32 (.bool true) (congrArg Value.bool (decide_eq_true c32)) ?_
      refine T.seq ?_
      refine T.seq ?_
      refine T.region ?_
      refine R.mvE rfl (by conv => lhs; whnf) ?_
      refine R.geq rfl rfl rfl ?_
      refine TL.nil (Post.thnN ?_)
      refine T.cutK (ι := Int × Int × Int × Int × (List Int) × Chunk) (fun ⟨n10c2, n11c2, n12c2, nb9c2_0, xPa0c2, cPa0c2⟩ H' L' ds' => Has L' [[(b9, .cells #[.int .i64 nb9c2_0] 3)], cPa0c2] ∧ OwnS (intE .u64) 26 H' (.slice Aa0 a0.length pa0) xPa0c2 cPa0c2 ∧ a1 ≤ n10c2 ∧ n10c2 < a2 ∧ a1 ≤ n11c2 ∧ n11c2 < a2 ∧ a1 ≤ n12c2 ∧ n12c2 < a2 ∧ 0 ≤ nb9c2_0 ∧ nb9c2_0 ≤ 9 ∧ (if (50 : Int) ≤ (a2 - a1) then (LR.seq (slices_medianAdjacentOrdered_Id_m a0 ((a1 + (((a2 - a1) / 4) * 1))) 0) (fun r37 => LR.seq (slices_medianAdjacentOrdered_Id_m r37.2.1 ((a1 + (((a2 - a1) / 4) * 2))) r37.2.2) (fun r40 => LR.seq (slices_medianAdjacentOrdered_Id_m r40.2.1 ((a1 + (((a2 - a1) / 4) * 3))) r40.2.2) (fun r43 => (r37.1, r40.1, r43.1, r43.2.2, r43.2.1))))) else (((a1 + (((a2 - a1) / 4) * 1)), (a1 + (((a2 - a1) / 4) * 2)), (a1 + (((a2 - a1) / 4) * 3)), 0, a0)) : Int × Int × Int × Int × (List Int)) = (n10c2, n11c2, n12c2, nb9c2_0, xPa0c2)) (fun ⟨n10c2, n11c2, n12c2, nb9c2_0, xPa0c2, cPa0c2⟩ => [(0, .slice Aa0 a0.length pa0), (9, .pointer (some ⟨b9, 0, none⟩)), (10, .int .i64 n10c2), (11, .int .i64 n11c2), (12, .int .i64 n12c2)]) ?_ ?_
      · refine T.condD rfl (fun c34 => ?_) (fun c34 => ?_)
        · refine T.set 34 (.bool true) (congrArg Value.bool (decide_eq_true c34)) ?_
          refine T.seq ?_
          refine T.region ?_
          refine R.mvE rfl (by conv => lhs; whnf) ?_
          refine R.mvE rfl (by conv => lhs; whnf) ?_
          refine TL.has (Has.cons (.tl .hd) (Has.cons .hd Has.nil)) ?_
          obtain ⟨r37, er37⟩ : ∃ r, r = (slices_medianAdjacentOrdered_Id_m a0 ((a1 + (((a2 - a1) / 4) * 1))) 0) := ⟨_, rfl⟩
          refine TL.call [true, true] rfl rfl rfl (slices_medianAdjacentOrdered_Id_c _ _ a0 _ ha0 ((a1 + (((a2 - a1) / 4) * 1))) _ 0 (by first | omega | (simp; done) | (simp; omega) | (simp at *; omega)) (by first | omega | (simp; done) | (simp; omega) | (simp at *; omega)) (by first | omega | (simp; done) | (simp; omega) | (simp at *; omega)) (by first | omega | (simp; done) | (simp; omega) | (simp at *; omega))) ?_
          intro v37 H37 L37 s37 q37
          rw [← er37] at q37
          obtain ⟨D37_a0, rfl, rfl, w37_a0⟩ := q37
          have n37_a0_ := OwnS.len w37_a0
          have tf37 := medianAdj_f _ _ _ _ er37
          refine R.asE rfl (by conv => lhs; whnf) ?_
          refine TL.nil (Post.thnN ?_)
          refine T.seq ?_
          refine T.region ?_
          refine R.mvE rfl (by conv => lhs; whnf) ?_
          refine R.mvE rfl (by conv => lhs; whnf) ?_
          obtain ⟨r40, er40⟩ : ∃ r, r = (slices_medianAdjacentOrdered_Id_m r37.2.1 ((a1 + (((a2 - a1) / 4) * 2))) r37.2.2) := ⟨_, rfl⟩
          refine TL.call [true, true] rfl rfl rfl (slices_medianAdjacentOrdered_Id_c _ _ r37.2.1 _ w37_a0 ((a1 + (((a2 - a1) / 4) * 2))) _ r37.2.2 (by first | omega | (simp; done) | (simp; omega) | (simp at *; omega)) (by first | omega | (simp; done) | (simp; omega) | (simp at *; omega)) (by first | omega | (simp; done) | (simp; omega) | (simp at *; omega)) (by first | omega | (simp; done) | (simp; omega) | (simp at *; omega))) ?_
          intro v40 H40 L40 s40 q40
          rw [← er40] at q40
          obtain ⟨D40_a0, rfl, rfl, w40_a0⟩ := q40
          have n40_a0_ := OwnS.len w40_a0
          have tf40 := medianAdj_f _ _ _ _ er40
          refine R.asE rfl (by conv => lhs; whnf) ?_
          refine TL.nil (Post.thnN ?_)
          refine T.region ?_
          refine R.mvE rfl (by conv => lhs; whnf) ?_
          refine R.mvE rfl (by conv => lhs; whnf) ?_
          obtain ⟨r43, er43⟩ : ∃ r, r = (slices_medianAdjacentOrdered_Id_m r40.2.1 ((a1 + (((a2 - a1) / 4) * 3))) r40.2.2) := ⟨_, rfl⟩
          refine TL.call [true, true] rfl rfl rfl (slices_medianAdjacentOrdered_Id_c _ _ r40.2.1 _ w40_a0 ((a1 + (((a2 - a1) / 4) * 3))) _ r40.2.2 (by first | omega | (simp; done) | (simp; omega) | (simp at *; omega)) (by first | omega | (simp; done) | (simp; omega) | (simp at *; omega)) (by first | omega | (simp; done) | (simp; omega) | (simp at *; omega)) (by first | omega | (simp; done) | (simp; omega) | (simp at *; omega))) ?_
          intro v43 H43 L43 s43 q43
          rw [← er43] at q43
          obtain ⟨D43_a0, rfl, rfl, w43_a0⟩ := q43
          have n43_a0_ := OwnS.len w43_a0
          have tf43 := medianAdj_f _ _ _ _ er43
          refine R.asE rfl (by conv => lhs; whnf) ?_
          refine TL.nil (Post.thnN ?_)
          exact ⟨(r37.1, r40.1, r43.1, r43.2.2, r43.2.1, D43_a0), (s37.trans (s40.trans s43)), ⟨(Has.cons (.tl .hd) (Has.cons .hd Has.nil)), w43_a0, (by first | omega | (simp; done) | (simp; omega) | (simp at *; omega)), (by first | omega | (simp; done) | (simp; omega) | (simp at *; omega)), (by first | omega | (simp; done) | (simp; omega) | (simp at *; omega)), (by first | omega | (simp; done) | (simp; omega) | (simp at *; omega)), (by first | omega | (simp; done) | (simp; omega) | (simp at *; omega)), (by first | omega | (simp; done) | (simp; omega) | (simp at *; omega)), (by first | omega | (simp; done) | (simp; omega) | (simp at *; omega)), (by first | omega | (simp; done) | (simp; omega) | (simp at *; omega)), (by subst er43; subst er40; subst er37; rw [if_pos c34, LR.seq_go, LR.seq_go, LR.seq_go])⟩, rfl, rfl, rfl, rfl, rfl, trivial⟩
        · refine T.set 34 (.bool false) (congrArg Value.bool (decide_eq_false c34)) ?_
          refine T.skip (Post.thnN ?_)
          exact ⟨((a1 + (((a2 - a1) / 4) * 1)), (a1 + (((a2 - a1) / 4) * 2)), (a1 + (((a2 - a1) / 4) * 3)), 0, a0, Ca0), HLe.refl _, ⟨(Has.cons .hd (Has.cons .hd Has.nil)), ha0, (by first | omega | (simp; done) | (simp; omega) | (simp at *; omega)), (by first | omega | (simp; done) | (simp; omega) | (simp at *; omega)), (by first | omega | (simp; done) | (simp; omega) | (simp at *; omega)), (by first | omega | (simp; done) | (simp; omega) | (simp at *; omega)), (by first | omega | (simp; done) | (simp; omega) | (simp at *; omega)), (by first | omega | (simp; done) | (simp; omega) | (simp at *; omega)), (by first | omega | (simp; done) | (simp; omega) | (simp at *; omega)), (by first | omega | (simp; done) | (simp; omega) | (simp at *; omega)), (by rw [if_neg c34])⟩, rfl, rfl, rfl, rfl, rfl, trivial⟩
      · intro ⟨n10c2, n11c2, n12c2, nb9c2_0, xPa0c2, cPa0c2⟩ σ_c2 H_c2 L_c2 ds_c2 s_c2 hI_c2
        obtain ⟨hLc2, wPa0c2, hBc2_0, hBc2_1, hBc2_2, hBc2_3, hBc2_4, hBc2_5, hBc2_6, hBc2_7, hTc2⟩ := hI_c2
        have nPa0c2_ := OwnS.len wPa0c2
        refine T.has hLc2 ?_
        refine T.region ?_
        refine R.mvE rfl (by conv => lhs; whnf) ?_
        refine R.mvE rfl (by conv => lhs; whnf) ?_
        refine R.mvE rfl (by conv => lhs; whnf) ?_
        refine R.mvE rfl (by conv => lhs; whnf) ?_
        refine TL.has (Has.cons (.tl .hd) (Has.cons .hd Has.nil)) ?_
        obtain ⟨r48, er48⟩ : ∃ r, r = (slices_medianOrdered_Id_m xPa0c2 n10c2 n11c2 n12c2 nb9c2_0) := ⟨_, rfl⟩
        refine TL.call [true, true] rfl rfl rfl (slices_medianOrdered_Id_c _ _ xPa0c2 _ wPa0c2 (n10c2) (n11c2) (n12c2) _ nb9c2_0 (by first | omega | (simp; done) | (simp; omega) | (simp at *; omega)) (by first | omega | (simp; done) | (simp; omega) | (simp at *; omega)) (by first | omega | (simp; done) | (simp; omega) | (simp at *; omega)) (by first | omega | (simp; done) | (simp; omega) | (simp at *; omega)) (by first | omega | (simp; done) | (simp; omega) | (simp at *; omega)) (by first | omega | (simp; done) | (simp; omega) | (simp at *; omega)) (by first | omega | (simp; done) | (simp; omega) | (simp at *; omega)) (by first | omega | (simp; done) | (simp; omega) | (simp at *; omega))) ?_
        intro v48 H48 L48 s48 q48
        rw [← er48] at q48
        obtain ⟨D48_a0, rfl, rfl, w48_a0⟩ := q48
        have n48_a0_ := OwnS.len w48_a0
        have tf48 := median_f _ _ _ _ _ _ er48
        refine R.asE rfl (by conv => lhs; whnf) ?_
        refine TL.nil (Post.thnN ?_)
        exact ⟨(r48.1, r48.2.2, r48.2.1, D48_a0), (s_c2.trans s48), ⟨(Has.cons (.tl .hd) (Has.cons .hd Has.nil)), w48_a0, (by subst er48; rw [if_pos c32, hTc2, LR.seq_go, LR.seq_go])⟩, rfl, rfl, trivial⟩
    · refine T.set 32 (.bool false) (congrArg Value.bool (decide_eq_false c32)) ?_
      refine T.skip (Post.thnN ?_)
      exact ⟨((a1 + (((a2 - a1) / 4) * 2)), 0, a0, Ca0), HLe.refl _, ⟨(Has.cons .hd (Has.cons .hd Has.nil)), ha0, (by rw [if_neg c32])⟩, rfl, rfl, trivial⟩
  · intro ⟨n11c1, nb9c1_0, xPa0c1, cPa0c1⟩ σ_c1 H_c1 L_c1 ds_c1 s_c1 hI_c1
    obtain ⟨hLc1, wPa0c1, hTc1⟩ := hI_c1
    have nPa0c1_ := OwnS.len wPa0c1
    refine T.has hLc1 ?_
    refine T.seq ?_
    refine T.region ?_
    refine R.ld Try.isAgg3 rfl rfl .hd rfl ?_
    refine TL.nil (Post.thnN ?_)
    refine T.block ?_
    refine T.seq ?_
    refine T.region ?_
    refine R.eql rfl rfl rfl ?_
    refine R.asE rfl (by conv => lhs; whnf) ?_
    refine TL.nil (Post.thnN ?_)
    refine T.condD rfl (fun c51 => ?_) (fun c51 => ?_)
    · refine T.set 51 (.bool true) (congrArg Value.bool (decide_eq_true c51)) ?_
      refine T.seq ?_
      refine T.region ?_
      refine R.mvE rfl (by conv => lhs; whnf) ?_
      refine R.asE rfl (by conv => lhs; whnf) ?_
      refine R.asE rfl (by conv => lhs; whnf) ?_
      refine TL.nil (Post.thnN ?_)
      refine T.has (Has.cons (.tl .hd) Has.nil) ?_
      refine T.ret (Post.blkR ?_)
      have hM : slices_choosePivotOrdered_Id_m a0 a1 a2 = (n11c1, 1, xPa0c1) := by rw [slices_choosePivotOrdered_Id_m, hTc1, LR.seq_go, if_pos c51]
      exact fin2L (v := .int .i64 n11c1) (v' := .int .i64 1) [cPa0c1] rfl rfl rfl (List.Sublist.refl _) ⟨cPa0c1, by first | rw [hM] | rfl, by first | rw [hM] | rfl, by rw [hM]; exact wPa0c1⟩
    · refine T.set 51 (.bool false) (congrArg Value.bool (decide_eq_false c51)) ?_
      refine T.seq ?_
      refine T.region ?_
      refine R.eql rfl rfl rfl ?_
      refine R.asE rfl (by conv => lhs; whnf) ?_
      refine TL.nil (Post.thnN ?_)
      refine T.condD rfl (fun c54 => ?_) (fun c54 => ?_)
      · refine T.set 54 (.bool true) (congrArg Value.bool (decide_eq_true c54)) ?_
        refine T.seq ?_
        refine T.region ?_
        refine R.mvE rfl (by conv => lhs; whnf) ?_
        refine R.asE rfl (by conv => lhs; whnf) ?_
        refine R.asE rfl (by conv => lhs; whnf) ?_
        refine TL.nil (Post.thnN ?_)
        refine T.has (Has.cons (.tl .hd) Has.nil) ?_
        refine T.ret (Post.blkR ?_)
        have hM : slices_choosePivotOrdered_Id_m a0 a1 a2 = (n11c1, 2, xPa0c1) := by rw [slices_choosePivotOrdered_Id_m, hTc1, LR.seq_go, if_neg c51, if_pos c54]
        exact fin2L (v := .int .i64 n11c1) (v' := .int .i64 2) [cPa0c1] rfl rfl rfl (List.Sublist.refl _) ⟨cPa0c1, by first | rw [hM] | rfl, by first | rw [hM] | rfl, by rw [hM]; exact wPa0c1⟩
      · refine T.set 54 (.bool false) (congrArg Value.bool (decide_eq_false c54)) ?_
        refine T.seq ?_
        refine T.region ?_
        refine R.mvE rfl (by conv => lhs; whnf) ?_
        refine R.asE rfl (by conv => lhs; whnf) ?_
        refine R.asE rfl (by conv => lhs; whnf) ?_
        refine TL.nil (Post.thnN ?_)
        refine T.has (Has.cons (.tl .hd) Has.nil) ?_
        refine T.ret (Post.blkR ?_)
        have hM : slices_choosePivotOrdered_Id_m a0 a1 a2 = (n11c1, 0, xPa0c1) := by rw [slices_choosePivotOrdered_Id_m, hTc1, LR.seq_go, if_neg c51, if_neg c54]
        exact fin2L (v := .int .i64 n11c1) (v' := .int .i64 0) [cPa0c1] rfl rfl rfl (List.Sublist.refl _) ⟨cPa0c1, by first | rw [hM] | rfl, by first | rw [hM] | rfl, by rw [hM]; exact wPa0c1⟩

theorem choose_f (a0 : List Int) (a1 a2 : Int) (r : Int × Int × (List Int)) (e : r = slices_choosePivotOrdered_Id_m a0 a1 a2) (h : a1 + 12 < a2) : (a1 ≤ r.1 ∧ r.1 < a2) ∧ (r.2.1 = 0 ∨ r.2.1 = 1 ∨ r.2.1 = 2) ∧ r.2.2 = a0 := by
  have key : ∀ (p : Int × Int × (List Int)), (a1 ≤ p.1 ∧ p.1 < a2) ∧ p.2.2 = a0 → r = (if p.2.1 = 0 then ((p.1, 1, p.2.2)) else (if p.2.1 = 12 then ((p.1, 2, p.2.2)) else ((p.1, 0, p.2.2)))) → (a1 ≤ r.1 ∧ r.1 < a2) ∧ (r.2.1 = 0 ∨ r.2.1 = 1 ∨ r.2.1 = 2) ∧ r.2.2 = a0 := by
    rintro p ⟨h1, h2⟩ rfl
    split
    · exact ⟨h1, .inr (.inl rfl), h2⟩
    · split
      · exact ⟨h1, .inr (.inr rfl), h2⟩
      · exact ⟨h1, .inl rfl, h2⟩
  unfold slices_choosePivotOrdered_Id_m at e
  rw [if_pos (show (8 : Int) ≤ a2 - a1 by omega)] at e
  simp only [LR.seq_go] at e
  by_cases h50 : (50 : Int) ≤ a2 - a1
  · rw [if_pos h50] at e
    simp only [LR.seq_go] at e
    have k1 := medianAdj_f a0 (a1 + (a2 - a1) / 4 * 1) 0 _ rfl
    generalize slices_medianAdjacentOrdered_Id_m a0 (a1 + (a2 - a1) / 4 * 1) 0 = q1 at *
    have k2 := medianAdj_f q1.2.1 (a1 + (a2 - a1) / 4 * 2) q1.2.2 _ rfl
    generalize slices_medianAdjacentOrdered_Id_m q1.2.1 (a1 + (a2 - a1) / 4 * 2) q1.2.2 = q2 at *
    have k3 := medianAdj_f q2.2.1 (a1 + (a2 - a1) / 4 * 3) q2.2.2 _ rfl
    generalize slices_medianAdjacentOrdered_Id_m q2.2.1 (a1 + (a2 - a1) / 4 * 3) q2.2.2 = q3 at *
    have k4 := median_f q3.2.1 q1.1 q2.1 q3.1 q3.2.2 _ rfl
    generalize slices_medianOrdered_Id_m q3.2.1 q1.1 q2.1 q3.1 q3.2.2 = q4 at *
    exact key (q4.1, q4.2.2, q4.2.1) ⟨by constructor <;> (simp only; omega), by simp only; rw [k4.2.1, k3.2.1, k2.2.1, k1.2.1]⟩ e
  · rw [if_neg h50] at e
    have k4 := median_f a0 (a1 + (a2 - a1) / 4 * 1) (a1 + (a2 - a1) / 4 * 2) (a1 + (a2 - a1) / 4 * 3) 0 _ rfl
    generalize slices_medianOrdered_Id_m a0 (a1 + (a2 - a1) / 4 * 1) (a1 + (a2 - a1) / 4 * 2) (a1 + (a2 - a1) / 4 * 3) 0 = q4 at *
    exact key (q4.1, q4.2.2, q4.2.1) ⟨by constructor <;> (simp only; omega), by simp only; rw [k4.2.1]⟩ e
end Go.SX

namespace Go.Proofs
open Go.Shelf
def Try.lays125_ren : Go.Shelf.Ren := ⟨fun | 125 => 67 | 128 => 118 | 129 => 119 | n => n, fun | 46 => 88 | 3 => 3 | 51 => 120 | 53 => 25 | 4 => 4 | 5 => 5 | 9 => 9 | n => n, fun | n => n⟩
theorem Try.lays125 : Go.Proofs.Lays.n125 Try.prog Try.lays125_ren := {
  mixed := by kernel_rfl
  f125 := Try.func67.trans (congrArg some (by kernel_rfl))
  f128 := Try.func118.trans (congrArg some (by kernel_rfl))
  f129 := Try.func119.trans (congrArg some (by kernel_rfl))
  t3 := Try.underlying3
  a3 := Try.isAgg3
  z3 := Try.sizeOf3
  v3 := Try.zeroValue3
  t4 := Try.underlying4
  a4 := Try.isAgg4
  z4 := Try.sizeOf4
  v4 := Try.zeroValue4
  t5 := Try.underlying5
  a5 := Try.isAgg5
  z5 := Try.sizeOf5
  v5 := Try.zeroValue5
  t9 := Try.underlying9
  a9 := Try.isAgg9
  z9 := Try.sizeOf9
  v9 := Try.zeroValue9
  t46 := Try.underlying88
  a46 := Try.isAgg88
  z46 := Try.sizeOf88
  v46 := Try.zeroValue88
  t51 := Try.underlying120
  a51 := Try.isAgg120
  z51 := Try.sizeOf120
  v51 := Try.zeroValue120
  t53 := Try.underlying25
  a53 := Try.isAgg25
  z53 := Try.sizeOf25
  v53 := Try.zeroValue25 }
end Go.Proofs

set_option linter.unusedVariables false
set_option linter.unusedSimpArgs false
namespace Go.SX
open Go Go.Proofs

def blen (x : Int) : Int := ((Lib.bitLen x.toNat : Nat) : Int)
theorem blen_nn (x : Int) : 0 ≤ blen x := Int.natCast_nonneg _
theorem blen_c (H : Heap) (a0 : Int) (h0 : 0 ≤ a0) (h1 : a0 ≤ 18446744073709551615) : Fv Try.prog (fnv 67) [.int .u64 a0] H (.int .i64 (blen a0)) := by
  intro w hs
  have he := Go.Proofs.enters_of (P := Try.prog) Try.func67 (by kernel_rfl) rfl #[.int .u64 a0] w
  refine ⟨.enter 67 #[.int .u64 a0], w, by simp [Deferred.ofValue, invoke, he], ?_⟩
  refine CallsIn.mono (callsIn_wide.2 (Go.Proofs.Any.bits_Len Try.lays125 a0 w h0 h1)) ?_
  rintro e' w' ⟨rfl, rfl⟩
  exact ⟨_, H, [], rfl, St.init hs, rfl, rfl⟩
def slices_nextPowerOfTwo_m (a0 : Int) : Int :=
  (bshl .u64 1 (blen a0))
set_option maxHeartbeats 3200000 in
theorem slices_nextPowerOfTwo_c (H : Heap) (a0 : Int) (h0 : 0 ≤ a0) (h1 : a0 ≤ 4000000) : Fv Try.prog (fnv 151) [.int .i64 a0] H (.int .u64 (slices_nextPowerOfTwo_m a0)) := by
  refine Fc.of_body (N := 7) Try.func151 rfl (by kernel_rfl) rfl rfl ?_
  intro w0
  refine T.seq ?_
  refine T.region ?_
  refine R.asE rfl (by conv => lhs; whnf) ?_
  refine TL.nil (Post.thnN ?_)
  refine T.seq ?_
  have hb := blen_nn a0
  refine T.region ?_
  refine R.mvE rfl (by conv => lhs; whnf) ?_
  refine R.convU Try.underlying3 Try.underlying88 rfl rfl (by omega) ?_
  refine R.callv rfl rfl rfl (blen_c _ (a0) (by first | omega | (simp; done) | (simp; omega) | (simp at *; omega)) (by first | omega | (simp; done) | (simp; omega) | (simp at *; omega))) ?_
  refine R.shl rfl rfl rfl (by omega) ?_
  refine R.asE rfl (by conv => lhs; whnf) ?_
  refine TL.nil (Post.thnN ?_)
  refine T.has Has.nil ?_
  refine T.ret ?_
  have hM : slices_nextPowerOfTwo_m a0 = (bshl .u64 1 (blen a0)) := by rw [slices_nextPowerOfTwo_m]
  exact fin1L (v := .int .u64 (bshl .u64 1 (blen a0))) [] rfl rfl (List.Sublist.refl _) ⟨rfl, by first | rw [hM] | rfl⟩

theorem npow_eq (n : Nat) (hn : n ≤ 4000000) : slices_nextPowerOfTwo_m (n : Int) = ((1 <<< Sort.bitsLen n : Nat) : Int) := by
  have hl : Sort.bitsLen n ≤ 22 := (Sort.bitsLen_le_iff n 22).2 (by omega)
  unfold slices_nextPowerOfTwo_m blen bshl
  simp only [Int.toNat_natCast]
  rw [Go.Proofs.bitLen_eq n (by omega), Int.one_mul, show min (Sort.bitsLen n) IntKind.u64.bits = Sort.bitsLen n from Nat.min_eq_left (by show _ ≤ 64; omega)]
  exact Go.Proofs.wrap_two_pow _ (by omega)
theorem band_rng (x y : Int) (hy : 0 ≤ y ∧ y < 18446744073709551616) : 0 ≤ band .u64 x y ∧ band .u64 x y ≤ y := by
  unfold band
  have h1 : (BitVec.ofInt IntKind.u64.bits x &&& BitVec.ofInt IntKind.u64.bits y).toNat ≤ (BitVec.ofInt IntKind.u64.bits y).toNat := by rw [BitVec.toNat_and]; exact Nat.and_le_right
  have h2 : ((BitVec.ofInt IntKind.u64.bits y).toNat : Int) = y := by
    rw [BitVec.toNat_ofInt]
    show (((y % ((2 : Int) ^ 64)).toNat : Nat) : Int) = y
    omega
  rw [IntKind.wrap_u64]
  omega
theorem band_np (L x : Int) (h : 8 ≤ L ∧ L ≤ 4000000) : 0 ≤ band .u64 x (IntKind.u64.wrap (slices_nextPowerOfTwo_m L - 1)) ∧ band .u64 x (IntKind.u64.wrap (slices_nextPowerOfTwo_m L - 1)) < 2 * L := by
  obtain ⟨n, rfl⟩ : ∃ n : Nat, L = n := ⟨L.toNat, by omega⟩
  have h1 := Sort.two_pow_bitsLen_le (n := n) (by omega)
  have h0 : 0 < 2 ^ Sort.bitsLen n := Nat.two_pow_pos _
  rw [npow_eq n (by omega), Nat.one_shiftLeft]
  generalize 2 ^ Sort.bitsLen n = p at h0 h1
  have e : IntKind.u64.wrap ((p : Int) - 1) = (p : Int) - 1 := wrap_u64 ⟨by omega, by omega⟩
  rw [e]
  have := band_rng x ((p : Int) - 1) ⟨by omega, by omega⟩
  omega
def _slices_xorshift__Next_m (a0 : Int) : Int × Int :=
  LR.seq ((bxor .u64 a0 (bshl .u64 a0 13)) : Int) (fun sc1 => LR.seq ((bxor .u64 sc1 (bshr .u64 sc1 7)) : Int) (fun sc2 => LR.seq ((bxor .u64 sc2 (bshl .u64 sc2 17)) : Int) (fun sc3 => (sc3, sc3))))
set_option maxHeartbeats 3200000 in
theorem _slices_xorshift__Next_c (H : Heap) (ba0 : Nat) (a0 : Int) : Fc Try.prog (fnv 152) [.pointer (some ⟨ba0, 0, none⟩)] H [[(ba0, .cells #[.int .u64 a0] 137)]] (fun v' H' L' => v' = .int .u64 (_slices_xorshift__Next_m a0).1 ∧ L' = [[(ba0, .cells #[.int .u64 (_slices_xorshift__Next_m a0).2] 137)]]) := by
  refine Fc.of_body (N := 33) Try.func152 rfl (by kernel_rfl) rfl rfl ?_
  intro w0
  refine T.seq ?_
  refine T.region ?_
  refine R.asE rfl (by conv => lhs; whnf) ?_
  refine TL.nil (Post.thnN ?_)
  refine T.seq ?_
  refine T.cutK (ι := Int) (fun nba0c1_0 H' L' ds' => Has L' [[(ba0, .cells #[.int .u64 nba0c1_0] 137)]] ∧ ((bxor .u64 a0 (bshl .u64 a0 13)) : Int) = nba0c1_0) (fun nba0c1_0 => [(0, .pointer (some ⟨ba0, 0, none⟩))]) ?_ ?_
  · refine T.draw Try_mixed (by kernel_rfl) ?_
    refine Plan.v 0 [1, 2, 3, 4, 5, 6, 7, 8, 9] (by kernel_rfl) (by kernel_rfl) (by kernel_rfl) (by kernel_rfl) rfl (fun _ _ h_ => R.mvE rfl (by conv => lhs; whnf) (TL.nil h_)) ?_
    refine Plan.v 1 [2, 3, 4, 5, 6, 7, 8, 9] (by kernel_rfl) (by kernel_rfl) (by kernel_rfl) (by kernel_rfl) rfl (fun _ _ h_ => R.nilck rfl rfl (TL.nil h_)) ?_
    refine Plan.v 3 [2, 4, 5, 6, 7, 8, 9] (by kernel_rfl) (by kernel_rfl) (by kernel_rfl) (by kernel_rfl) rfl (fun _ _ h_ => R.mvE rfl (by conv => lhs; whnf) (TL.nil h_)) ?_
    refine Plan.v 4 [2, 5, 6, 7, 8, 9] (by kernel_rfl) (by kernel_rfl) (by kernel_rfl) (by kernel_rfl) rfl (fun _ _ h_ => R.nilck rfl rfl (TL.nil h_)) ?_
    refine Plan.s2 2 5 [5, 6, 7, 8, 9] [2, 6, 7, 8, 9] (by kernel_rfl) (by kernel_rfl) (by kernel_rfl) rfl rfl ?_ ?_
    · refine R.ld Try.isAgg137 rfl rfl .hd rfl ?_
      refine TL.nil (Plan.e1 (HLe.refl _) ?_)
      refine Plan.s1 5 [6, 7, 8, 9] (by kernel_rfl) (by kernel_rfl) rfl ?_
      refine R.ld Try.isAgg137 rfl rfl .hd rfl ?_
      refine TL.nil (Plan.e1 (HLe.refl _) ?_)
      refine Plan.v 6 [7, 8, 9] (by kernel_rfl) (by kernel_rfl) (by kernel_rfl) (by kernel_rfl) rfl (fun _ _ h_ => R.shl rfl rfl rfl (by omega) (TL.nil h_)) ?_
      refine Plan.v 7 [8, 9] (by kernel_rfl) (by kernel_rfl) (by kernel_rfl) (by kernel_rfl) rfl (fun _ _ h_ => R.xor rfl rfl rfl (TL.nil h_)) ?_
      refine Plan.v 8 [9] (by kernel_rfl) (by kernel_rfl) (by kernel_rfl) (by kernel_rfl) rfl (fun _ _ h_ => R.nilck rfl rfl (TL.nil h_)) ?_
      refine Plan.s1 9 [] (by kernel_rfl) (by kernel_rfl) rfl ?_
      refine R.stX (old := [.int .u64 a0]) (l := [.int .u64 (bxor .u64 a0 (bshl .u64 a0 13))]) (new := [.int .u64 (bxor .u64 a0 (bshl .u64 a0 13))]) (et := 137) Try.sizeOf137 rfl rfl rfl (cells1 rfl) rfl (by show 0 + 1 ≤ 1; decide) rfl (all_one rfl) .hd ?_
      refine TL.nil (Plan.e0 (HLe.refl _) ?_)
      refine Plan.done (Post.thnN ?_)
      exact ⟨(bxor .u64 a0 (bshl .u64 a0 13)), HLe.refl _, ⟨(Has.cons .hd Has.nil), (by rfl)⟩, rfl, trivial⟩
    · refine R.ld Try.isAgg137 rfl rfl .hd rfl ?_
      refine TL.nil (Plan.e1 (HLe.refl _) ?_)
      refine Plan.v 6 [2, 7, 8, 9] (by kernel_rfl) (by kernel_rfl) (by kernel_rfl) (by kernel_rfl) rfl (fun _ _ h_ => R.shl rfl rfl rfl (by omega) (TL.nil h_)) ?_
      refine Plan.s1 2 [7, 8, 9] (by kernel_rfl) (by kernel_rfl) rfl ?_
      refine R.ld Try.isAgg137 rfl rfl .hd rfl ?_
      refine TL.nil (Plan.e1 (HLe.refl _) ?_)
      refine Plan.v 7 [8, 9] (by kernel_rfl) (by kernel_rfl) (by kernel_rfl) (by kernel_rfl) rfl (fun _ _ h_ => R.xor rfl rfl rfl (TL.nil h_)) ?_
      refine Plan.v 8 [9] (by kernel_rfl) (by kernel_rfl) (by kernel_rfl) (by kernel_rfl) rfl (fun _ _ h_ => R.nilck rfl rfl (TL.nil h_)) ?_
      refine Plan.s1 9 [] (by kernel_rfl) (by kernel_rfl) rfl ?_
      refine R.stX (old := [.int .u64 a0]) (l := [.int .u64 (bxor .u64 a0 (bshl .u64 a0 13))]) (new := [.int .u64 (bxor .u64 a0 (bshl .u64 a0 13))]) (et := 137) Try.sizeOf137 rfl rfl rfl (cells1 rfl) rfl (by show 0 + 1 ≤ 1; decide) rfl (all_one rfl) .hd ?_
      refine TL.nil (Plan.e0 (HLe.refl _) ?_)
      refine Plan.done (Post.thnN ?_)
      exact ⟨(bxor .u64 a0 (bshl .u64 a0 13)), HLe.refl _, ⟨(Has.cons .hd Has.nil), (by rfl)⟩, rfl, trivial⟩
  · intro nba0c1_0 σ_c1 H_c1 L_c1 ds_c1 s_c1 hI_c1
    obtain ⟨hLc1, hTc1⟩ := hI_c1
    refine T.has hLc1 ?_
    refine T.seq ?_
    refine T.cutK (ι := Int) (fun nba0c2_0 H' L' ds' => Has L' [[(ba0, .cells #[.int .u64 nba0c2_0] 137)]] ∧ ((bxor .u64 nba0c1_0 (bshr .u64 nba0c1_0 7)) : Int) = nba0c2_0) (fun nba0c2_0 => [(0, .pointer (some ⟨ba0, 0, none⟩))]) ?_ ?_
    · refine T.draw Try_mixed (by kernel_rfl) ?_
      refine Plan.v 0 [1, 2, 3, 4, 5, 6, 7, 8, 9] (by kernel_rfl) (by kernel_rfl) (by kernel_rfl) (by kernel_rfl) rfl (fun _ _ h_ => R.mvE rfl (by conv => lhs; whnf) (TL.nil h_)) ?_
      refine Plan.v 1 [2, 3, 4, 5, 6, 7, 8, 9] (by kernel_rfl) (by kernel_rfl) (by kernel_rfl) (by kernel_rfl) rfl (fun _ _ h_ => R.nilck rfl rfl (TL.nil h_)) ?_
      refine Plan.v 3 [2, 4, 5, 6, 7, 8, 9] (by kernel_rfl) (by kernel_rfl) (by kernel_rfl) (by kernel_rfl) rfl (fun _ _ h_ => R.mvE rfl (by conv => lhs; whnf) (TL.nil h_)) ?_
      refine Plan.v 4 [2, 5, 6, 7, 8, 9] (by kernel_rfl) (by kernel_rfl) (by kernel_rfl) (by kernel_rfl) rfl (fun _ _ h_ => R.nilck rfl rfl (TL.nil h_)) ?_
      refine Plan.s2 2 5 [5, 6, 7, 8, 9] [2, 6, 7, 8, 9] (by kernel_rfl) (by kernel_rfl) (by kernel_rfl) rfl rfl ?_ ?_
      · refine R.ld Try.isAgg137 rfl rfl .hd rfl ?_
        refine TL.nil (Plan.e1 (HLe.refl _) ?_)
        refine Plan.s1 5 [6, 7, 8, 9] (by kernel_rfl) (by kernel_rfl) rfl ?_
        refine R.ld Try.isAgg137 rfl rfl .hd rfl ?_
        refine TL.nil (Plan.e1 (HLe.refl _) ?_)
        refine Plan.v 6 [7, 8, 9] (by kernel_rfl) (by kernel_rfl) (by kernel_rfl) (by kernel_rfl) rfl (fun _ _ h_ => R.shr rfl rfl rfl (by omega) (TL.nil h_)) ?_
        refine Plan.v 7 [8, 9] (by kernel_rfl) (by kernel_rfl) (by kernel_rfl) (by kernel_rfl) rfl (fun _ _ h_ => R.xor rfl rfl rfl (TL.nil h_)) ?_
        refine Plan.v 8 [9] (by kernel_rfl) (by kernel_rfl) (by kernel_rfl) (by kernel_rfl) rfl (fun _ _ h_ => R.nilck rfl rfl (TL.nil h_)) ?_
        refine Plan.s1 9 [] (by kernel_rfl) (by kernel_rfl) rfl ?_
        refine R.stX (old := [.int .u64 nba0c1_0]) (l := [.int .u64 (bxor .u64 nba0c1_0 (bshr .u64 nba0c1_0 7))]) (new := [.int .u64 (bxor .u64 nba0c1_0 (bshr .u64 nba0c1_0 7))]) (et := 137) Try.sizeOf137 rfl rfl rfl (cells1 rfl) rfl (by show 0 + 1 ≤ 1; decide) rfl (all_one rfl) .hd ?_
        refine TL.nil (Plan.e0 (HLe.refl _) ?_)
        refine Plan.done (Post.thnN ?_)
        exact ⟨(bxor .u64 nba0c1_0 (bshr .u64 nba0c1_0 7)), HLe.refl _, ⟨(Has.cons .hd Has.nil), (by rfl)⟩, rfl, trivial⟩
      · refine R.ld Try.isAgg137 rfl rfl .hd rfl ?_
        refine TL.nil (Plan.e1 (HLe.refl _) ?_)
        refine Plan.v 6 [2, 7, 8, 9] (by kernel_rfl) (by kernel_rfl) (by kernel_rfl) (by kernel_rfl) rfl (fun _ _ h_ => R.shr rfl rfl rfl (by omega) (TL.nil h_)) ?_
        refine Plan.s1 2 [7, 8, 9] (by kernel_rfl) (by kernel_rfl) rfl ?_
        refine R.ld Try.isAgg137 rfl rfl .hd rfl ?_
        refine TL.nil (Plan.e1 (HLe.refl _) ?_)
        refine Plan.v 7 [8, 9] (by kernel_rfl) (by kernel_rfl) (by kernel_rfl) (by kernel_rfl) rfl (fun _ _ h_ => R.xor rfl rfl rfl (TL.nil h_)) ?_
        refine Plan.v 8 [9] (by kernel_rfl) (by kernel_rfl) (by kernel_rfl) (by kernel_rfl) rfl (fun _ _ h_ => R.nilck rfl rfl (TL.nil h_)) ?_
        refine Plan.s1 9 [] (by kernel_rfl) (by kernel_rfl) rfl ?_
        refine R.stX (old := [.int .u64 nba0c1_0]) (l := [.int .u64 (bxor .u64 nba0c1_0 (bshr .u64 nba0c1_0 7))]) (new := [.int .u64 (bxor .u64 nba0c1_0 (bshr .u64 nba0c1_0 7))]) (et := 137) Try.sizeOf137 rfl rfl rfl (cells1 rfl) rfl (by show 0 + 1 ≤ 1; decide) rfl (all_one rfl) .hd ?_
        refine TL.nil (Plan.e0 (HLe.refl _) ?_)
        refine Plan.done (Post.thnN ?_)
        exact ⟨(bxor .u64 nba0c1_0 (bshr .u64 nba0c1_0 7)), HLe.refl _, ⟨(Has.cons .hd Has.nil), (by rfl)⟩, rfl, trivial⟩
    · intro nba0c2_0 σ_c2 H_c2 L_c2 ds_c2 s_c2 hI_c2
      obtain ⟨hLc2, hTc2⟩ := hI_c2
      refine T.has hLc2 ?_
      refine T.seq ?_
      refine T.cutK (ι := Int) (fun nba0c3_0 H' L' ds' => Has L' [[(ba0, .cells #[.int .u64 nba0c3_0] 137)]] ∧ ((bxor .u64 nba0c2_0 (bshl .u64 nba0c2_0 17)) : Int) = nba0c3_0) (fun nba0c3_0 => [(0, .pointer (some ⟨ba0, 0, none⟩))]) ?_ ?_
      · refine T.draw Try_mixed (by kernel_rfl) ?_
        refine Plan.v 0 [1, 2, 3, 4, 5, 6, 7, 8, 9] (by kernel_rfl) (by kernel_rfl) (by kernel_rfl) (by kernel_rfl) rfl (fun _ _ h_ => R.mvE rfl (by conv => lhs; whnf) (TL.nil h_)) ?_
        refine Plan.v 1 [2, 3, 4, 5, 6, 7, 8, 9] (by kernel_rfl) (by kernel_rfl) (by kernel_rfl) (by kernel_rfl) rfl (fun _ _ h_ => R.nilck rfl rfl (TL.nil h_)) ?_
        refine Plan.v 3 [2, 4, 5, 6, 7, 8, 9] (by kernel_rfl) (by kernel_rfl) (by kernel_rfl) (by kernel_rfl) rfl (fun _ _ h_ => R.mvE rfl (by conv => lhs; whnf) (TL.nil h_)) ?_
        refine Plan.v 4 [2, 5, 6, 7, 8, 9] (by kernel_rfl) (by kernel_rfl) (by kernel_rfl) (by kernel_rfl) rfl (fun _ _ h_ => R.nilck rfl rfl (TL.nil h_)) ?_
        refine Plan.s2 2 5 [5, 6, 7, 8, 9] [2, 6, 7, 8, 9] (by kernel_rfl) (by kernel_rfl) (by kernel_rfl) rfl rfl ?_ ?_
        · refine R.ld Try.isAgg137 rfl rfl .hd rfl ?_
          refine TL.nil (Plan.e1 (HLe.refl _) ?_)
          refine Plan.s1 5 [6, 7, 8, 9] (by kernel_rfl) (by kernel_rfl) rfl ?_
          refine R.ld Try.isAgg137 rfl rfl .hd rfl ?_
          refine TL.nil (Plan.e1 (HLe.refl _) ?_)
          refine Plan.v 6 [7, 8, 9] (by kernel_rfl) (by kernel_rfl) (by kernel_rfl) (by kernel_rfl) rfl (fun _ _ h_ => R.shl rfl rfl rfl (by omega) (TL.nil h_)) ?_
          refine Plan.v 7 [8, 9] (by kernel_rfl) (by kernel_rfl) (by kernel_rfl) (by kernel_rfl) rfl (fun _ _ h_ => R.xor rfl rfl rfl (TL.nil h_)) ?_
          refine Plan.v 8 [9] (by kernel_rfl) (by kernel_rfl) (by kernel_rfl) (by kernel_rfl) rfl (fun _ _ h_ => R.nilck rfl rfl (TL.nil h_)) ?_
          refine Plan.s1 9 [] (by kernel_rfl) (by kernel_rfl) rfl ?_
          refine R.stX (old := [.int .u64 nba0c2_0]) (l := [.int .u64 (bxor .u64 nba0c2_0 (bshl .u64 nba0c2_0 17))]) (new := [.int .u64 (bxor .u64 nba0c2_0 (bshl .u64 nba0c2_0 17))]) (et := 137) Try.sizeOf137 rfl rfl rfl (cells1 rfl) rfl (by show 0 + 1 ≤ 1; decide) rfl (all_one rfl) .hd ?_
          refine TL.nil (Plan.e0 (HLe.refl _) ?_)
          refine Plan.done (Post.thnN ?_)
          exact ⟨(bxor .u64 nba0c2_0 (bshl .u64 nba0c2_0 17)), HLe.refl _, ⟨(Has.cons .hd Has.nil), (by rfl)⟩, rfl, trivial⟩
        · refine R.ld Try.isAgg137 rfl rfl .hd rfl ?_
          refine TL.nil (Plan.e1 (HLe.refl _) ?_)
          refine Plan.v 6 [2, 7, 8, 9] (by kernel_rfl) (by kernel_rfl) (by kernel_rfl) (by kernel_rfl) rfl (fun _ _ h_ => R.shl rfl rfl rfl (by omega) (TL.nil h_)) ?_
          refine Plan.s1 2 [7, 8, 9] (by kernel_rfl) (by kernel_rfl) rfl ?_
          refine R.ld Try.isAgg137 rfl rfl .hd rfl ?_
          refine TL.nil (Plan.e1 (HLe.refl _) ?_)
          refine Plan.v 7 [8, 9] (by kernel_rfl) (by kernel_rfl) (by kernel_rfl) (by kernel_rfl) rfl (fun _ _ h_ => R.xor rfl rfl rfl (TL.nil h_)) ?_
          refine Plan.v 8 [9] (by kernel_rfl) (by kernel_rfl) (by kernel_rfl) (by kernel_rfl) rfl (fun _ _ h_ => R.nilck rfl rfl (TL.nil h_)) ?_
          refine Plan.s1 9 [] (by kernel_rfl) (by kernel_rfl) rfl ?_
          refine R.stX (old := [.int .u64 nba0c2_0]) (l := [.int .u64 (bxor .u64 nba0c2_0 (bshl .u64 nba0c2_0 17))]) (new := [.int .u64 (bxor .u64 nba0c2_0 (bshl .u64 nba0c2_0 17))]) (et := 137) Try.sizeOf137 rfl rfl rfl (cells1 rfl) rfl (by show 0 + 1 ≤ 1; decide) rfl (all_one rfl) .hd ?_
          refine TL.nil (Plan.e0 (HLe.refl _) ?_)
          refine Plan.done (Post.thnN ?_)
          exact ⟨(bxor .u64 nba0c2_0 (bshl .u64 nba0c2_0 17)), HLe.refl _, ⟨(Has.cons .hd Has.nil), (by rfl)⟩, rfl, trivial⟩
      · intro nba0c3_0 σ_c3 H_c3 L_c3 ds_c3 s_c3 hI_c3
        obtain ⟨hLc3, hTc3⟩ := hI_c3
        refine T.has hLc3 ?_
        refine T.seq ?_
        refine T.region ?_
        refine R.mvE rfl (by conv => lhs; whnf) ?_
        refine R.nilck rfl rfl ?_
        refine R.ld Try.isAgg137 rfl rfl .hd rfl ?_
        refine R.asE rfl (by conv => lhs; whnf) ?_
        refine TL.nil (Post.thnN ?_)
        refine T.has (Has.cons .hd Has.nil) ?_
        refine T.ret ?_
        have hM : _slices_xorshift__Next_m a0 = (nba0c3_0, nba0c3_0) := by rw [_slices_xorshift__Next_m, hTc1, LR.seq_go, hTc2, LR.seq_go, hTc3, LR.seq_go]
        exact fin1L (v := .int .u64 nba0c3_0) [[(ba0, .cells #[.int .u64 nba0c3_0] 137)]] rfl rfl (List.Sublist.refl _) ⟨by first | rw [hM] | rfl, by first | rw [hM] | rfl⟩

def slices_breakPatternsOrdered_Id_l1 (a1 : Int) (a2 : Int) : Nat → (Int × Int × (List Int)) → Int × Int × (List Int)
  | 0, _ => default
  | ml1 + 1, sl1 => if sl1.1 ≤ ((a1 + (((a2 - a1) / 4) * 2)) + 1) then (LR.seq (_slices_xorshift__Next_m sl1.2.1) (fun r36 => LR.seq (if ((a2 - a1) : Int) ≤ (band .u64 r36.1 (IntKind.u64.wrap ((slices_nextPowerOfTwo_m ((a2 - a1))) - 1))) then (((band .u64 r36.1 (IntKind.u64.wrap ((slices_nextPowerOfTwo_m ((a2 - a1))) - 1))) - (a2 - a1))) else ((band .u64 r36.1 (IntKind.u64.wrap ((slices_nextPowerOfTwo_m ((a2 - a1))) - 1)))) : Int) (fun sc2 => slices_breakPatternsOrdered_Id_l1 a1 a2 ml1 (((sl1.1 + 1), r36.2, (((sl1.2.2.set sl1.1.toNat (sl1.2.2.getD (((a1 + sc2)).toNat) (0 : Int)))).set (((a1 + sc2)).toNat) (sl1.2.2.getD sl1.1.toNat (0 : Int)))))))) else ((sl1.1, sl1.2.1, sl1.2.2))
def slices_breakPatternsOrdered_Id_m (a0 : List Int) (a1 : Int) (a2 : Int) : (List Int) :=
  if (8 : Int) ≤ (a2 - a1) then (LR.seq (slices_breakPatternsOrdered_Id_l1 a1 a2 ((a1 + (a2 - a1) / 4 * 2 + 2 - (((a1 + (((a2 - a1) / 4) * 2)) - 1))).toNat + 1) ((((a1 + (((a2 - a1) / 4) * 2)) - 1), (a2 - a1), a0))) (fun ol1 => ol1.2.2)) else a0
set_option maxHeartbeats 3200000 in
theorem slices_breakPatternsOrdered_Id_c (H : Heap) (va0 : Value) (a0 : List Int) (Ca0 : Chunk) (ha0 : OwnS (intE .u64) 26 H va0 a0 Ca0) (a1 : Int) (a2 : Int) (h1 : 0 ≤ a1) (h2 : a1 + 12 < a2) (h3 : a2 ≤ (a0.length : Int)) (hl : a0.length ≤ 4000000) : Fc Try.prog (fnv 112) [va0, .int .i64 a1, .int .i64 a2] H [Ca0] (fun v' H' L' => ∃ Da0, v' = .tuple #[] ∧ L' = [Da0] ∧ OwnS (intE .u64) 26 H' va0 (slices_breakPatternsOrdered_Id_m a0 a1 a2) Da0) := by
  refine Fc.of_body (N := 65) Try.func112 rfl (by kernel_rfl) rfl rfl ?_
  intro w0
  obtain ⟨Aa0, pa0, rfl, ma0, na0⟩ := OwnS.shape ha0
  refine T.seq ?_
  refine T.region ?_
  refine R.mvE rfl (by conv => lhs; whnf) ?_
  refine R.mvE rfl (by conv => lhs; whnf) ?_
  refine R.subI rfl rfl rfl (by omega) ?_
  refine R.asE rfl (by conv => lhs; whnf) ?_
  refine TL.nil (Post.thnN ?_)
  refine T.seq ?_
  refine T.region ?_
  refine R.mvE rfl (by conv => lhs; whnf) ?_
  refine R.geq rfl rfl rfl ?_
  refine TL.nil (Post.thnN ?_)
  refine T.condD rfl (fun c15 => ?_) (fun c15 => ?_)
  · refine T.set 15 (.bool true) (congrArg Value.bool (decide_eq_true c15)) ?_
    refine T.seq ?_
    refine T.region ?_
    refine R.mvE rfl (by conv => lhs; whnf) ?_
    refine R.convU Try.underlying3 Try.underlying137 rfl rfl (by omega) ?_
    refine R.alloc Try.zeroValue137 rfl ?_
    intro b7
    refine R.stX (old := [.int .u64 0]) (l := [.int .u64 (a2 - a1)]) (new := [.int .u64 (a2 - a1)]) (et := 137) Try.sizeOf137 rfl rfl rfl (cells1 rfl) rfl (by show 0 + 1 ≤ 1; decide) rfl (all_one rfl) .hd ?_
    refine TL.nil (Post.thnN ?_)
    refine T.seq ?_
    refine T.region ?_
    refine R.mvE rfl (by conv => lhs; whnf) ?_
    refine R.callv rfl rfl rfl (slices_nextPowerOfTwo_c _ ((a2 - a1)) (by first | omega | (simp; done) | (simp; omega) | (simp at *; omega)) (by first | omega | (simp; done) | (simp; omega) | (simp at *; omega))) ?_
    refine R.asE rfl (by conv => lhs; whnf) ?_
    refine TL.nil (Post.thnN ?_)
    refine T.seq ?_
    refine T.region ?_
    refine R.mvE rfl (by conv => lhs; whnf) ?_
    refine R.mvE rfl (by conv => lhs; whnf) ?_
    refine R.quoI rfl rfl rfl (by omega) ?_
    refine R.mulI rfl rfl rfl (by omega) ?_
    refine R.addI rfl rfl rfl (by omega) ?_
    refine R.subI rfl rfl rfl (by omega) ?_
    refine R.asE rfl (by conv => lhs; whnf) ?_
    refine TL.nil (Post.thnN ?_)
    refine T.block ?_
    refine T.loop (ι := Nat × Int × Int × (List Int) × Chunk) (fun ⟨kl1, n9l1, nb7l1_0, xPa0l1, cPa0l1⟩ H' L' ds' => (a1 + (a2 - a1) / 4 * 2 + 2 - n9l1).toNat < kl1 ∧ Has L' [[(b7, .cells #[.int .u64 nb7l1_0] 137)], cPa0l1] ∧ OwnS (intE .u64) 26 H' (.slice Aa0 a0.length pa0) xPa0l1 cPa0l1 ∧ a1 + (a2 - a1) / 4 * 2 - 1 ≤ n9l1 ∧ n9l1 ≤ a1 + (a2 - a1) / 4 * 2 + 2 ∧ slices_breakPatternsOrdered_Id_l1 a1 a2 kl1 ((n9l1, nb7l1_0, xPa0l1)) = slices_breakPatternsOrdered_Id_l1 a1 a2 ((a1 + (a2 - a1) / 4 * 2 + 2 - (((a1 + (((a2 - a1) / 4) * 2)) - 1))).toNat + 1) ((((a1 + (((a2 - a1) / 4) * 2)) - 1), (a2 - a1), a0))) (fun ⟨kl1, n9l1, nb7l1_0, xPa0l1, cPa0l1⟩ => [(0, .slice Aa0 a0.length pa0), (1, .int .i64 a1), (6, .int .i64 (a2 - a1)), (7, .pointer (some ⟨b7, 0, none⟩)), (8, .int .u64 (slices_nextPowerOfTwo_m ((a2 - a1)))), (9, .int .i64 n9l1)]) (fun ⟨kl1, n9l1, nb7l1_0, xPa0l1, cPa0l1⟩ => kl1) (((a1 + (a2 - a1) / 4 * 2 + 2 - (((a1 + (((a2 - a1) / 4) * 2)) - 1))).toNat + 1), ((a1 + (((a2 - a1) / 4) * 2)) - 1), (a2 - a1), a0, Ca0) ?_ ?_ ?_
    · exact ⟨(by omega), (Has.cons .hd (Has.cons .hd Has.nil)), ha0, (by first | omega | (simp; done) | (simp; omega) | (simp at *; omega)), (by first | omega | (simp; done) | (simp; omega) | (simp at *; omega)), (by rfl)⟩
    · exact ⟨rfl, rfl, rfl, rfl, rfl, rfl, trivial⟩
    · intro ⟨kl1, n9l1, nb7l1_0, xPa0l1, cPa0l1⟩ σ_l1 H_l1 L_l1 ds_l1 s_l1 hI_l1
      obtain ⟨hkl1, hI_l1⟩ := hI_l1
      obtain ⟨ml1, rfl⟩ : ∃ m, kl1 = m + 1 := ⟨kl1 - 1, by omega⟩
      obtain ⟨hLl1, wPa0l1, hBl1_0, hBl1_1, hQl1⟩ := hI_l1
      have nPa0l1_ := OwnS.len wPa0l1
      refine T.has hLl1 ?_
      refine T.seq ?_
      refine T.seq ?_
      refine T.region ?_
      refine R.mvE rfl (by conv => lhs; whnf) ?_
      refine R.mvE rfl (by conv => lhs; whnf) ?_
      refine R.mvE rfl (by conv => lhs; whnf) ?_
      refine R.quoI rfl rfl rfl (by omega) ?_
      refine R.mulI rfl rfl rfl (by omega) ?_
      refine R.addI rfl rfl rfl (by omega) ?_
      refine R.addI rfl rfl rfl (by omega) ?_
      refine R.leq rfl rfl rfl ?_
      refine TL.nil (Post.thnN ?_)
      refine T.condD rfl (fun c33 => ?_) (fun c33 => ?_)
      · refine T.set 33 (.bool true) (congrArg Value.bool (decide_eq_true c33)) ?_
        refine T.skip (Post.thnN ?_)
        refine T.seq ?_
        refine T.block ?_
        refine T.seq ?_
        refine T.region ?_
        obtain ⟨r36, er36⟩ : ∃ r, r = (_slices_xorshift__Next_m nb7l1_0) := ⟨_, rfl⟩
        refine TL.call [true] rfl rfl rfl (_slices_xorshift__Next_c _ _ nb7l1_0) ?_
        intro v36 H36 L36 s36 q36
        rw [← er36] at q36
        obtain ⟨rfl, rfl⟩ := q36
        have hb36 := band_np (a2 - a1) r36.1 (by omega)
        refine R.mvE rfl (by conv => lhs; whnf) ?_
        refine R.sub rfl rfl rfl ?_
        refine R.and rfl rfl rfl ?_
        refine R.convI Try.underlying88 Try.underlying3 rfl rfl (by omega) ?_
        refine R.asE rfl (by conv => lhs; whnf) ?_
        refine TL.nil (Post.thnN ?_)
        refine T.seq ?_
        refine T.seq ?_
        refine T.region ?_
        refine R.mvE rfl (by conv => lhs; whnf) ?_
        refine R.mvE rfl (by conv => lhs; whnf) ?_
        refine R.geq rfl rfl rfl ?_
        refine TL.nil (Post.thnN ?_)
        refine T.cutK (ι := Int) (fun n10c2 H' L' ds' => Has L' [[(b7, .cells #[.int .u64 (r36.2)] 137)], cPa0l1] ∧ 0 ≤ n10c2 ∧ n10c2 < a2 - a1 ∧ (if ((a2 - a1) : Int) ≤ (band .u64 r36.1 (IntKind.u64.wrap ((slices_nextPowerOfTwo_m ((a2 - a1))) - 1))) then (((band .u64 r36.1 (IntKind.u64.wrap ((slices_nextPowerOfTwo_m ((a2 - a1))) - 1))) - (a2 - a1))) else ((band .u64 r36.1 (IntKind.u64.wrap ((slices_nextPowerOfTwo_m ((a2 - a1))) - 1)))) : Int) = n10c2) (fun n10c2 => [(0, .slice Aa0 a0.length pa0), (1, .int .i64 a1), (6, .int .i64 (a2 - a1)), (7, .pointer (some ⟨b7, 0, none⟩)), (8, .int .u64 (slices_nextPowerOfTwo_m ((a2 - a1)))), (9, .int .i64 n9l1), (10, .int .i64 n10c2)]) ?_ ?_
        · refine T.condD rfl (fun c43 => ?_) (fun c43 => ?_)
          · refine T.set 43 (.bool true) (congrArg Value.bool (decide_eq_true c43)) ?_
            refine T.region ?_
            refine R.mvE rfl (by conv => lhs; whnf) ?_
            refine R.mvE rfl (by conv => lhs; whnf) ?_
            refine R.subI rfl rfl rfl (by omega) ?_
            refine R.asE rfl (by conv => lhs; whnf) ?_
            refine TL.nil (Post.thnN ?_)
            exact ⟨((band .u64 r36.1 (IntKind.u64.wrap ((slices_nextPowerOfTwo_m ((a2 - a1))) - 1))) - (a2 - a1)), HLe.refl _, ⟨(Has.cons .hd (Has.cons .hd Has.nil)), (by first | omega | (simp; done) | (simp; omega) | (simp at *; omega)), (by first | omega | (simp; done) | (simp; omega) | (simp at *; omega)), (by rw [if_pos c43])⟩, rfl, rfl, rfl, rfl, rfl, rfl, rfl, trivial⟩
          · refine T.set 43 (.bool false) (congrArg Value.bool (decide_eq_false c43)) ?_
            refine T.skip (Post.thnN ?_)
            exact ⟨(band .u64 r36.1 (IntKind.u64.wrap ((slices_nextPowerOfTwo_m ((a2 - a1))) - 1))), HLe.refl _, ⟨(Has.cons .hd (Has.cons .hd Has.nil)), (by first | omega | (simp; done) | (simp; omega) | (simp at *; omega)), (by first | omega | (simp; done) | (simp; omega) | (simp at *; omega)), (by rw [if_neg c43])⟩, rfl, rfl, rfl, rfl, rfl, rfl, rfl, trivial⟩
        · intro n10c2 σ_c2 H_c2 L_c2 ds_c2 s_c2 hI_c2
          obtain ⟨hLc2, hBc2_0, hBc2_1, hTc2⟩ := hI_c2
          refine T.has hLc2 ?_
          refine T.draw Try_mixed (by kernel_rfl) ?_
          refine Plan.v 0 [1, 2, 3, 4, 5, 6, 7, 8, 9, 10, 11, 12, 13, 14, 15, 16, 17, 18, 19] (by kernel_rfl) (by kernel_rfl) (by kernel_rfl) (by kernel_rfl) rfl (fun _ _ h_ => R.mvE rfl (by conv => lhs; whnf) (TL.nil h_)) ?_
          refine Plan.v 1 [2, 3, 4, 5, 6, 7, 8, 9, 10, 11, 12, 13, 14, 15, 16, 17, 18, 19] (by kernel_rfl) (by kernel_rfl) (by kernel_rfl) (by kernel_rfl) rfl (fun _ _ h_ => R.mvE rfl (by conv => lhs; whnf) (TL.nil h_)) ?_
          refine Plan.v 2 [3, 4, 5, 6, 7, 8, 9, 10, 11, 12, 13, 14, 15, 16, 17, 18, 19] (by kernel_rfl) (by kernel_rfl) (by kernel_rfl) (by kernel_rfl) rfl (fun _ _ h_ => R.mvE rfl (by conv => lhs; whnf) (TL.nil h_)) ?_
          refine Plan.v 3 [4, 5, 6, 7, 8, 9, 10, 11, 12, 13, 14, 15, 16, 17, 18, 19] (by kernel_rfl) (by kernel_rfl) (by kernel_rfl) (by kernel_rfl) rfl (fun _ _ h_ => R.mvE rfl (by conv => lhs; whnf) (TL.nil h_)) ?_
          refine Plan.v 4 [5, 6, 7, 8, 9, 10, 11, 12, 13, 14, 15, 16, 17, 18, 19] (by kernel_rfl) (by kernel_rfl) (by kernel_rfl) (by kernel_rfl) rfl (fun _ _ h_ => R.mvE rfl (by conv => lhs; whnf) (TL.nil h_)) ?_
          refine Plan.v 5 [6, 7, 8, 9, 10, 11, 12, 13, 14, 15, 16, 17, 18, 19] (by kernel_rfl) (by kernel_rfl) (by kernel_rfl) (by kernel_rfl) rfl (fun _ _ h_ => R.addI rfl rfl rfl (by omega) (TL.nil h_)) ?_
          refine Plan.v 6 [7, 8, 9, 10, 11, 12, 13, 14, 15, 16, 17, 18, 19] (by kernel_rfl) (by kernel_rfl) (by kernel_rfl) (by kernel_rfl) rfl (fun _ _ h_ => R.mvE rfl (by conv => lhs; whnf) (TL.nil h_)) ?_
          refine Plan.v 7 [8, 9, 10, 11, 12, 13, 14, 15, 16, 17, 18, 19] (by kernel_rfl) (by kernel_rfl) (by kernel_rfl) (by kernel_rfl) rfl (fun _ _ h_ => R.mvE rfl (by conv => lhs; whnf) (TL.nil h_)) ?_
          refine Plan.v 8 [9, 10, 11, 12, 13, 14, 15, 16, 17, 18, 19] (by kernel_rfl) (by kernel_rfl) (by kernel_rfl) (by kernel_rfl) rfl (fun _ _ h_ => R.mvE rfl (by conv => lhs; whnf) (TL.nil h_)) ?_
          refine Plan.v 9 [10, 11, 12, 13, 14, 15, 16, 17, 18, 19] (by kernel_rfl) (by kernel_rfl) (by kernel_rfl) (by kernel_rfl) rfl (fun _ _ h_ => R.addI rfl rfl rfl (by omega) (TL.nil h_)) ?_
          have hl57 : ((a1 + n10c2)).toNat < a0.length := by first | omega | (simp; done) | (simp; omega) | (simp at *; omega)
          obtain ⟨y57, e57, h57⟩ : ∃ y, y = (xPa0l1.getD (((a1 + n10c2)).toNat) (0 : Int)) ∧ xPa0l1[((a1 + n10c2)).toNat]? = some y := ⟨_, rfl, getD_get (by first | exact hl57 | simpa using hl57 | (simp only [List.length_set]; omega) | omega | (rw [(sortI_perm _).length_eq]; exact hl57))⟩
          obtain ⟨b57, u57, cs57, l57, f57, j57, i57, g57, k57⟩ := OwnS.elem (OwnS.mono wPa0l1 (s36.trans s_c2)) h57
          obtain rfl : l57 = [.int .u64 y57] := g57
          refine Plan.v 10 [11, 12, 13, 14, 15, 16, 17, 18, 19] (by kernel_rfl) (by kernel_rfl) (by kernel_rfl) (by kernel_rfl) rfl (fun _ _ h_ => R.ixp (sz := ((intE .u64)).size) Try.underlying22 Try.sizeOf26 rfl rfl rfl (by first | omega | (simp; done) | (simp; omega) | (simp at *; omega)) i57 (TL.nil h_)) ?_
          refine Plan.v 12 [11, 13, 14, 15, 16, 17, 18, 19] (by kernel_rfl) (by kernel_rfl) (by kernel_rfl) (by kernel_rfl) rfl (fun _ _ h_ => R.mvE rfl (by conv => lhs; whnf) (TL.nil h_)) ?_
          refine Plan.v 13 [11, 14, 15, 16, 17, 18, 19] (by kernel_rfl) (by kernel_rfl) (by kernel_rfl) (by kernel_rfl) rfl (fun _ _ h_ => R.mvE rfl (by conv => lhs; whnf) (TL.nil h_)) ?_
          have hl61 : n9l1.toNat < a0.length := by first | omega | (simp; done) | (simp; omega) | (simp at *; omega)
          obtain ⟨y61, e61, h61⟩ : ∃ y, y = (xPa0l1.getD n9l1.toNat (0 : Int)) ∧ xPa0l1[n9l1.toNat]? = some y := ⟨_, rfl, getD_get (by first | exact hl61 | simpa using hl61 | (simp only [List.length_set]; omega) | omega | (rw [(sortI_perm _).length_eq]; exact hl61))⟩
          obtain ⟨b61, u61, cs61, l61, f61, j61, i61, g61, k61⟩ := OwnS.elem (OwnS.mono wPa0l1 (s36.trans s_c2)) h61
          obtain rfl : l61 = [.int .u64 y61] := g61
          refine Plan.v 14 [11, 15, 16, 17, 18, 19] (by kernel_rfl) (by kernel_rfl) (by kernel_rfl) (by kernel_rfl) rfl (fun _ _ h_ => R.ixp (sz := ((intE .u64)).size) Try.underlying22 Try.sizeOf26 rfl rfl rfl (by first | omega | (simp; done) | (simp; omega) | (simp at *; omega)) i61 (TL.nil h_)) ?_
          refine Plan.s2 11 15 [15, 16, 17, 18, 19] [11, 16, 17, 18, 19] (by kernel_rfl) (by kernel_rfl) (by kernel_rfl) rfl rfl ?_ ?_
          · refine R.ld Try.isAgg26 rfl rfl (by rw [← f57]; exact (.tl .hd)) (k57 0 _ rfl) ?_
            refine TL.nil (Plan.e1 (HLe.refl _) ?_)
            refine Plan.s1 15 [16, 17, 18, 19] (by kernel_rfl) (by kernel_rfl) rfl ?_
            refine R.ld Try.isAgg26 rfl rfl (by rw [← f61]; exact (.tl .hd)) (k61 0 _ rfl) ?_
            refine TL.nil (Plan.e1 (HLe.refl _) ?_)
            have hl63 : n9l1.toNat < a0.length := by first | omega | (simp; done) | (simp; omega) | (simp at *; omega)
            obtain ⟨y63, e63, h63⟩ : ∃ y, y = (xPa0l1.getD n9l1.toNat (0 : Int)) ∧ xPa0l1[n9l1.toNat]? = some y := ⟨_, rfl, getD_get (by first | exact hl63 | simpa using hl63 | (simp only [List.length_set]; omega) | omega | (rw [(sortI_perm _).length_eq]; exact hl63))⟩
            obtain ⟨b63, u63, cs63, l63, f63, j63, i63, g63, k63⟩ := OwnS.elem (OwnS.mono wPa0l1 (s36.trans s_c2)) h63
            obtain rfl : l63 = [.int .u64 y63] := g63
            refine Plan.v 16 [17, 18, 19] (by kernel_rfl) (by kernel_rfl) (by kernel_rfl) (by kernel_rfl) rfl (fun _ _ h_ => R.ixp (sz := ((intE .u64)).size) Try.underlying22 Try.sizeOf26 rfl rfl rfl (by first | omega | (simp; done) | (simp; omega) | (simp at *; omega)) i63 (TL.nil h_)) ?_
            refine Plan.s1 17 [18, 19] (by kernel_rfl) (by kernel_rfl) rfl ?_
            refine R.stEF (E := (intE .u64)) (e := 26) (v := (.slice Aa0 a0.length pa0)) (m := [.int .u64 y57]) (o := 0) (y := y63) (y' := y57) (j := n9l1.toNat) Try.sizeOf26 rfl (OwnS.mono wPa0l1 (s36.trans s_c2)) (.tl .hd) i63 rfl rfl (cells1 rfl) (all_one rfl) h63 (by show 0 + 1 ≤ 1; decide) (fun l hl => by have e0 : l = [.int .u64 y63] := hl; subst e0; exact rfl) ?_
            intro cst13 wst13
            refine TL.nil (Plan.e0 (HLe.refl _) ?_)
            have hl64 : ((a1 + n10c2)).toNat < a0.length := by first | omega | (simp; done) | (simp; omega) | (simp at *; omega)
            obtain ⟨y64, e64, h64⟩ : ∃ y, y = (((xPa0l1.set n9l1.toNat y57)).getD (((a1 + n10c2)).toNat) (0 : Int)) ∧ ((xPa0l1.set n9l1.toNat y57))[((a1 + n10c2)).toNat]? = some y := ⟨_, rfl, getD_get (by first | exact hl64 | simpa using hl64 | (simp only [List.length_set]; omega) | omega | (rw [(sortI_perm _).length_eq]; exact hl64))⟩
            obtain ⟨b64, u64, cs64, l64, f64, j64, i64, g64, k64⟩ := OwnS.elem wst13 h64
            obtain rfl : l64 = [.int .u64 y64] := g64
            refine Plan.v 18 [19] (by kernel_rfl) (by kernel_rfl) (by kernel_rfl) (by kernel_rfl) rfl (fun _ _ h_ => R.ixp (sz := ((intE .u64)).size) Try.underlying22 Try.sizeOf26 rfl rfl rfl (by first | omega | (simp; done) | (simp; omega) | (simp at *; omega)) i64 (TL.nil h_)) ?_
            refine Plan.s1 19 [] (by kernel_rfl) (by kernel_rfl) rfl ?_
            refine R.stEF (E := (intE .u64)) (e := 26) (v := (.slice Aa0 a0.length pa0)) (m := [.int .u64 y61]) (o := 0) (y := y64) (y' := y61) (j := ((a1 + n10c2)).toNat) Try.sizeOf26 rfl wst13 .hd i64 rfl rfl (cells1 rfl) (all_one rfl) h64 (by show 0 + 1 ≤ 1; decide) (fun l hl => by have e0 : l = [.int .u64 y64] := hl; subst e0; exact rfl) ?_
            intro cst14 wst14
            refine TL.nil (Plan.e0 (HLe.refl _) ?_)
            refine Plan.done (Post.blkN ?_)
            refine id (Post.thnN ?_)
            refine T.region ?_
            refine R.mvE rfl (by conv => lhs; whnf) ?_
            refine R.addI rfl rfl rfl (by omega) ?_
            refine R.asE rfl (by conv => lhs; whnf) ?_
            refine TL.nil (Post.thnN ?_)
            exact ⟨(ml1, (n9l1 + 1), r36.2, (((xPa0l1.set n9l1.toNat y57)).set (((a1 + n10c2)).toNat) y61), cst14), (s_l1.trans (s36.trans s_c2)), ⟨(by first | omega | (simp; omega) | (simp at *; omega)), (Has.cons (.tl .hd) (Has.cons .hd Has.nil)), wst14, (by first | omega | (simp; done) | (simp; omega) | (simp at *; omega)), (by first | omega | (simp; done) | (simp; omega) | (simp at *; omega)), (by subst e64; subst e63; subst e61; subst e57; subst er36; rw [← hQl1, slices_breakPatternsOrdered_Id_l1]; rw [if_pos c33, LR.seq_go, hTc2, LR.seq_go])⟩, by show ml1 < ml1 + 1; omega, rfl, rfl, rfl, rfl, rfl, rfl, trivial⟩
          · refine R.ld Try.isAgg26 rfl rfl (by rw [← f61]; exact (.tl .hd)) (k61 0 _ rfl) ?_
            refine TL.nil (Plan.e1 (HLe.refl _) ?_)
            refine Plan.s1 11 [16, 17, 18, 19] (by kernel_rfl) (by kernel_rfl) rfl ?_
            refine R.ld Try.isAgg26 rfl rfl (by rw [← f57]; exact (.tl .hd)) (k57 0 _ rfl) ?_
            refine TL.nil (Plan.e1 (HLe.refl _) ?_)
            have hl63 : n9l1.toNat < a0.length := by first | omega | (simp; done) | (simp; omega) | (simp at *; omega)
            obtain ⟨y63, e63, h63⟩ : ∃ y, y = (xPa0l1.getD n9l1.toNat (0 : Int)) ∧ xPa0l1[n9l1.toNat]? = some y := ⟨_, rfl, getD_get (by first | exact hl63 | simpa using hl63 | (simp only [List.length_set]; omega) | omega | (rw [(sortI_perm _).length_eq]; exact hl63))⟩
            obtain ⟨b63, u63, cs63, l63, f63, j63, i63, g63, k63⟩ := OwnS.elem (OwnS.mono wPa0l1 (s36.trans s_c2)) h63
            obtain rfl : l63 = [.int .u64 y63] := g63
            refine Plan.v 16 [17, 18, 19] (by kernel_rfl) (by kernel_rfl) (by kernel_rfl) (by kernel_rfl) rfl (fun _ _ h_ => R.ixp (sz := ((intE .u64)).size) Try.underlying22 Try.sizeOf26 rfl rfl rfl (by first | omega | (simp; done) | (simp; omega) | (simp at *; omega)) i63 (TL.nil h_)) ?_
            refine Plan.s1 17 [18, 19] (by kernel_rfl) (by kernel_rfl) rfl ?_
            refine R.stEF (E := (intE .u64)) (e := 26) (v := (.slice Aa0 a0.length pa0)) (m := [.int .u64 y57]) (o := 0) (y := y63) (y' := y57) (j := n9l1.toNat) Try.sizeOf26 rfl (OwnS.mono wPa0l1 (s36.trans s_c2)) (.tl .hd) i63 rfl rfl (cells1 rfl) (all_one rfl) h63 (by show 0 + 1 ≤ 1; decide) (fun l hl => by have e0 : l = [.int .u64 y63] := hl; subst e0; exact rfl) ?_
            intro cst15 wst15
            refine TL.nil (Plan.e0 (HLe.refl _) ?_)
            have hl64 : ((a1 + n10c2)).toNat < a0.length := by first | omega | (simp; done) | (simp; omega) | (simp at *; omega)
            obtain ⟨y64, e64, h64⟩ : ∃ y, y = (((xPa0l1.set n9l1.toNat y57)).getD (((a1 + n10c2)).toNat) (0 : Int)) ∧ ((xPa0l1.set n9l1.toNat y57))[((a1 + n10c2)).toNat]? = some y := ⟨_, rfl, getD_get (by first | exact hl64 | simpa using hl64 | (simp only [List.length_set]; omega) | omega | (rw [(sortI_perm _).length_eq]; exact hl64))⟩
            obtain ⟨b64, u64, cs64, l64, f64, j64, i64, g64, k64⟩ := OwnS.elem wst15 h64
            obtain rfl : l64 = [.int .u64 y64] := g64
            refine Plan.v 18 [19] (by kernel_rfl) (by kernel_rfl) (by kernel_rfl) (by kernel_rfl) rfl (fun _ _ h_ => R.ixp (sz := ((intE .u64)).size) Try.underlying22 Try.sizeOf26 rfl rfl rfl (by first | omega | (simp; done) | (simp; omega) | (simp at *; omega)) i64 (TL.nil h_)) ?_
            refine Plan.s1 19 [] (by kernel_rfl) (by kernel_rfl) rfl ?_
            refine R.stEF (E := (intE .u64)) (e := 26) (v := (.slice Aa0 a0.length pa0)) (m := [.int .u64 y61]) (o := 0) (y := y64) (y' := y61) (j := ((a1 + n10c2)).toNat) Try.sizeOf26 rfl wst15 .hd i64 rfl rfl (cells1 rfl) (all_one rfl) h64 (by show 0 + 1 ≤ 1; decide) (fun l hl => by have e0 : l = [.int .u64 y64] := hl; subst e0; exact rfl) ?_
            intro cst16 wst16
            refine TL.nil (Plan.e0 (HLe.refl _) ?_)
            refine Plan.done (Post.blkN ?_)
            refine id (Post.thnN ?_)
            refine T.region ?_
            refine R.mvE rfl (by conv => lhs; whnf) ?_
            refine R.addI rfl rfl rfl (by omega) ?_
            refine R.asE rfl (by conv => lhs; whnf) ?_
            refine TL.nil (Post.thnN ?_)
            exact ⟨(ml1, (n9l1 + 1), r36.2, (((xPa0l1.set n9l1.toNat y57)).set (((a1 + n10c2)).toNat) y61), cst16), (s_l1.trans (s36.trans s_c2)), ⟨(by first | omega | (simp; omega) | (simp at *; omega)), (Has.cons (.tl .hd) (Has.cons .hd Has.nil)), wst16, (by first | omega | (simp; done) | (simp; omega) | (simp at *; omega)), (by first | omega | (simp; done) | (simp; omega) | (simp at *; omega)), (by subst e64; subst e63; subst e61; subst e57; subst er36; rw [← hQl1, slices_breakPatternsOrdered_Id_l1]; rw [if_pos c33, LR.seq_go, hTc2, LR.seq_go])⟩, by show ml1 < ml1 + 1; omega, rfl, rfl, rfl, rfl, rfl, rfl, trivial⟩
      · refine T.set 33 (.bool false) (congrArg Value.bool (decide_eq_false c33)) ?_
        refine T.exit (Post.thnE (Post.thnE (Post.blkX ?_)))
        have hEl1 : slices_breakPatternsOrdered_Id_l1 a1 a2 ((a1 + (a2 - a1) / 4 * 2 + 2 - (((a1 + (((a2 - a1) / 4) * 2)) - 1))).toNat + 1) ((((a1 + (((a2 - a1) / 4) * 2)) - 1), (a2 - a1), a0)) = (n9l1, nb7l1_0, xPa0l1) := (by rw [← hQl1, slices_breakPatternsOrdered_Id_l1]; rw [if_neg c33])
        refine id ?_
        have hM : slices_breakPatternsOrdered_Id_m a0 a1 a2 = xPa0l1 := by rw [slices_breakPatternsOrdered_Id_m, if_pos c15, hEl1, LR.seq_go]
        exact fin0N [cPa0l1] rfl (List.Sublist.cons _ (List.Sublist.cons_cons _ (List.nil_sublist _))) ⟨cPa0l1, by first | rw [hM] | rfl, by first | rw [hM] | rfl, by rw [hM]; exact wPa0l1⟩
  · refine T.set 15 (.bool false) (congrArg Value.bool (decide_eq_false c15)) ?_
    refine T.skip ?_
    have hM : slices_breakPatternsOrdered_Id_m a0 a1 a2 = a0 := by rw [slices_breakPatternsOrdered_Id_m, if_neg c15]
    exact fin0N [Ca0] rfl (List.Sublist.cons_cons _ (List.nil_sublist _)) ⟨Ca0, by first | rw [hM] | rfl, by first | rw [hM] | rfl, by rw [hM]; exact ha0⟩

end Go.SX

set_option linter.unusedVariables false
set_option linter.unusedSimpArgs false
namespace Go.SX
open Go
theorem so_scan2 (b : Nat) (xs : List Int) : ∀ (k i m : Nat), b - i ≤ k → k < m → 1 ≤ i → slices_partialInsertionSortOrdered_Id_l2 (b : Int) xs m (i : Int) = ((Sort.scanSorted Sort.ltInt xs.toArray b i : Nat) : Int)
  | k, i, 0, _, h, _ => by omega
  | k, i, m + 1, h1, h2, h3 => by
    simp only [slices_partialInsertionSortOrdered_Id_l2, LR.seq_go, so_less, Int.toNat_natCast]
    rw [Sort.scanSorted, so_get, so_get, show ((i : Int) - 1).toNat = i - 1 by omega]
    rw [so_ifd, so_lt]
    cases hb : (decide (i < b) && !Sort.ltInt (xs.getD i 0) (xs.getD (i - 1) 0)) with
    | false => rfl
    | true =>
      have : i < b := of_decide_eq_true (Bool.and_eq_true_iff.1 hb).1
      rw [if_pos rfl, if_pos rfl]
      cases k with
      | zero => omega
      | succ k => exact so_scan2 b xs k (i + 1) m (by omega) (by omega) (by omega)
theorem so_scan2_ge (lt : Int → Int → Bool) (d : Array Int) (b : Nat) : ∀ (k i : Nat), b - i ≤ k → i ≤ Sort.scanSorted lt d b i ∧ (i ≤ b → Sort.scanSorted lt d b i ≤ b)
  | k, i, h => by
    rw [Sort.scanSorted]
    by_cases hi : (decide (i < b) && !lt d[i]! d[i - 1]!) = true
    · rw [if_pos hi]
      have : i < b := of_decide_eq_true (Bool.and_eq_true_iff.1 hi).1
      cases k with
      | zero => omega
      | succ k => have := so_scan2_ge lt d b k (i + 1) (by omega); omega
    · rw [if_neg hi]; omega
theorem so_down : ∀ (j m : Nat) (xs : List Int), j < m → (slices_partialInsertionSortOrdered_Id_l6 m ((j : Int), xs)).2 = (Sort.shiftDown Sort.ltInt j xs.toArray).toList
  | j, 0, xs, h => by omega
  | 0, m + 1, xs, h => by
    simp only [slices_partialInsertionSortOrdered_Id_l6]
    rw [if_neg (by omega), Sort.shiftDown]
  | j + 1, m + 1, xs, h => by
    simp only [slices_partialInsertionSortOrdered_Id_l6, LR.seq_go, so_less, Int.toNat_natCast, tn1, tn1i]
    rw [if_pos (by omega), Sort.shiftDown, so_get, so_get, so_swp]
    cases Sort.ltInt (xs.getD (j + 1) 0) (xs.getD j 0) with
    | false => rfl
    | true => rw [if_neg (by decide), if_neg (by decide)]; exact so_down j m (sw xs (j + 1) j) (by omega)
theorem so_up (b : Nat) : ∀ (k j m : Nat) (xs : List Int), b - j ≤ k → k < m → 1 ≤ j → (slices_partialInsertionSortOrdered_Id_l8 (b : Int) m ((j : Int), xs)).2 = (Sort.shiftUp Sort.ltInt b j xs.toArray).toList
  | k, j, 0, xs, _, h, _ => by omega
  | k, j, m + 1, xs, h1, h2, h3 => by
    simp only [slices_partialInsertionSortOrdered_Id_l8, LR.seq_go, so_less, Int.toNat_natCast]
    rw [Sort.shiftUp, show ((j : Int) - 1).toNat = j - 1 by omega, so_get, so_get, so_swp]
    by_cases h : j < b
    · rw [if_pos (by omega), if_pos h]
      cases Sort.ltInt (xs.getD j 0) (xs.getD (j - 1) 0) with
      | false => rfl
      | true =>
        rw [if_neg (by decide), if_neg (by decide)]
        cases k with
        | zero => omega
        | succ k => exact so_up b k (j + 1) m (sw xs j (j - 1)) (by omega) (by omega) (by omega)
    · rw [if_neg (by omega), if_neg h]
def pairL (p : Array Int × Bool) : Bool × List Int := (p.2, p.1.toList)
theorem so_part_l (a b : Nat) (hab : a < b) : ∀ (s m i : Nat) (xs : List Int), s < m → a + 1 ≤ i → i ≤ b → s ≤ 5 → LR.on (slices_partialInsertionSortOrdered_Id_l1 (a : Int) (b : Int) m ((i : Int), 5 - (s : Int), xs)) (fun r => r) (fun o => (false, o.2.2)) = pairL (Sort.partialIns Sort.ltInt a b s i xs.toArray)
  | s, 0, i, xs, h, _, _, _ => by omega
  | 0, m + 1, i, xs, _, _, _, _ => by
    simp only [slices_partialInsertionSortOrdered_Id_l1]
    rw [if_neg (by omega), LR.on_go, Sort.partialIns]; rfl
  | s + 1, m + 1, i, xs, h1, h2, h3, h4 => by
    simp only [slices_partialInsertionSortOrdered_Id_l1, LR.seq_go]
    rw [if_pos (by omega), Sort.partialIns, so_scan2 b xs (b - i) i _ (Nat.le_refl _) (by omega) (by omega)]
    have hg := so_scan2_ge Sort.ltInt xs.toArray b (b - i) i (Nat.le_refl _)
    generalize Sort.scanSorted Sort.ltInt xs.toArray b i = i' at *
    simp only
    by_cases e : i' = b
    · rw [if_pos (by omega), if_pos e, LR.on_ret]; rfl
    rw [if_neg (by omega), if_neg e]
    by_cases h50 : b - a < 50
    · rw [if_pos (by omega), if_pos h50, LR.on_ret]; rfl
    rw [if_neg (by omega), if_neg h50, Int.toNat_natCast, show ((i' : Int) - 1).toNat = i' - 1 by omega, so_swp]
    rw [show (xs.set i' (xs.getD (i' - 1) 0)).set (i' - 1) (xs.getD i' 0) = sw xs i' (i' - 1) from rfl]
    have e1 : (if (2 : Int) ≤ (i' : Int) - (a : Int) then (slices_partialInsertionSortOrdered_Id_l6 (i' - 1 + 1) ((i' : Int) - 1, sw xs i' (i' - 1))).2 else sw xs i' (i' - 1)) = (if i' - a ≥ 2 then Sort.shiftDown Sort.ltInt (i' - 1) (sw xs i' (i' - 1)).toArray else (sw xs i' (i' - 1)).toArray).toList := by
      by_cases h : i' - a ≥ 2
      · rw [if_pos (by omega), if_pos h, show (i' : Int) - 1 = ((i' - 1 : Nat) : Int) by omega, so_down _ _ _ (by omega)]
      · rw [if_neg (by omega), if_neg h]
    rw [e1]
    generalize (if i' - a ≥ 2 then Sort.shiftDown Sort.ltInt (i' - 1) (sw xs i' (i' - 1)).toArray else (sw xs i' (i' - 1)).toArray) = d
    by_cases hb : b - i' ≥ 2
    · rw [if_pos (by omega), if_pos hb, show (i' : Int) + 1 = ((i' + 1 : Nat) : Int) by omega, so_up b (b - (i' + 1)) (i' + 1) _ _ (Nat.le_refl _) (by omega) (by omega), Array.toArray_toList, show (5 : Int) - ((s + 1 : Nat) : Int) + 1 = 5 - (s : Int) by omega]
      have := so_part_l a b hab s m i' (Sort.shiftUp Sort.ltInt b (i' + 1) d).toList (by omega) (by omega) (by omega) (by omega)
      rw [Array.toArray_toList] at this
      exact this
    · rw [if_neg (by omega), if_neg hb, show (5 : Int) - ((s + 1 : Nat) : Int) + 1 = 5 - (s : Int) by omega]
      have := so_part_l a b hab s m i' d.toList (by omega) (by omega) (by omega) (by omega)
      rw [Array.toArray_toList] at this
      exact this
theorem so_part (xs : List Int) (a b : Nat) (hab : a < b) : slices_partialInsertionSortOrdered_Id_m xs (a : Int) (b : Int) = pairL (Sort.partialInsertionSort Sort.ltInt xs.toArray a b) := by
  unfold slices_partialInsertionSortOrdered_Id_m Sort.partialInsertionSort
  exact so_part_l a b hab 5 _ (a + 1) xs (by decide) (Nat.le_refl _) (by omega) (by decide)
/-- the two scans -/
theorem scanUp_le (p : Int → Bool) (d : Array Int) (j : Nat) : ∀ (k i : Nat), j + 1 - i ≤ k → i ≤ Sort.scanUp p d j i ∧ Sort.scanUp p d j i ≤ max i (j + 1)
  | k, i, h => by
    rw [Sort.scanUp]
    by_cases hi : (decide (i ≤ j) && p d[i]!) = true
    · rw [if_pos hi]
      have : i ≤ j := of_decide_eq_true (Bool.and_eq_true_iff.1 hi).1
      cases k with
      | zero => omega
      | succ k => have := scanUp_le p d j k (i + 1) (by omega); omega
    · rw [if_neg hi]; omega
theorem scanDown_le (p : Int → Bool) (d : Array Int) (i : Nat) (hi : 1 ≤ i) : ∀ (j : Nat), Sort.scanDown p d i j ≤ j ∧ (i - 1 ≤ j → i - 1 ≤ Sort.scanDown p d i j)
  | 0 => by rw [Sort.scanDown]; omega
  | j + 1 => by
    rw [Sort.scanDown]
    split
    · rename_i h
      have h1 : i ≤ j + 1 := of_decide_eq_true (Bool.and_eq_true_iff.1 h).1
      have := scanDown_le p d i hi j; omega
    · omega
theorem so_e3 (a j : Nat) (xs : List Int) : ∀ (k i m : Nat), j + 1 - i ≤ k → k < m → slices_partitionEqualOrdered_Id_l3 (a : Int) (j : Int) xs m (i : Int) = ((Sort.scanUp (fun x => !Sort.ltInt xs.toArray[a]! x) xs.toArray j i : Nat) : Int)
  | k, i, 0, _, h => by omega
  | k, i, m + 1, h1, h2 => by
    simp only [slices_partitionEqualOrdered_Id_l3, LR.seq_go, so_less, Int.toNat_natCast]
    rw [Sort.scanUp]
    simp only [so_get]
    rw [so_ifd, so_le]
    cases hb : (decide (i ≤ j) && !Sort.ltInt (xs.getD a 0) (xs.getD i 0)) with
    | false => rfl
    | true =>
      have : i ≤ j := of_decide_eq_true (Bool.and_eq_true_iff.1 hb).1
      rw [if_pos rfl, if_pos rfl]
      cases k with
      | zero => omega
      | succ k => have := so_e3 a j xs k (i + 1) m (by omega) (by omega); simp only [so_get] at this; exact this
theorem so_e5 (a i : Nat) (hi : 1 ≤ i) (xs : List Int) : ∀ (j m : Nat), j + 1 - i < m → slices_partitionEqualOrdered_Id_l5 (a : Int) (i : Int) xs m (j : Int) = ((Sort.scanDown (fun x => Sort.ltInt xs.toArray[a]! x) xs.toArray i j : Nat) : Int)
  | j, 0, h => by omega
  | 0, m + 1, h => by
    simp only [slices_partitionEqualOrdered_Id_l5, LR.seq_go]
    rw [so_ifd, show decide ((i : Int) ≤ ((0 : Nat) : Int)) = false from decide_eq_false (by omega), Bool.false_and, if_neg Bool.false_ne_true, Sort.scanDown]
  | j + 1, m + 1, h => by
    simp only [slices_partitionEqualOrdered_Id_l5, LR.seq_go, so_less, Int.toNat_natCast, tn1i]
    rw [Sort.scanDown]
    simp only [so_get]
    rw [so_ifd, so_le]
    cases hb : (decide (i ≤ j + 1) && Sort.ltInt (xs.getD a 0) (xs.getD (j + 1) 0)) with
    | false => rfl
    | true =>
      have hij : i ≤ j + 1 := of_decide_eq_true (Bool.and_eq_true_iff.1 hb).1
      rw [if_pos rfl, if_pos rfl]
      have := so_e5 a i hi xs j m (by omega); simp only [so_get] at this; exact this
def pairI2 (p : Nat × Array Int) : Int × List Int := ((p.1 : Int), p.2.toList)
theorem so_e2 (a : Nat) : ∀ (k i j m : Nat) (xs : List Int), j + 1 - i ≤ k → k < m → a + 1 ≤ i → i - 1 ≤ j + 1 → a ≤ j → slices_partitionEqualOrdered_Id_l2 (a : Int) m ((i : Int), (j : Int), xs) = pairI2 (Sort.partEqLoop Sort.ltInt a i j xs.toArray)
  | k, i, j, 0, xs, _, h, _, _, _ => by omega
  | k, i, j, m + 1, xs, h1, h2, h3, h4, h5 => by
    simp only [slices_partitionEqualOrdered_Id_l2, LR.seq_go]
    rw [Sort.partEqLoop, so_e3 a j xs (j + 1 - i) i _ (Nat.le_refl _) (by omega)]
    have hu := scanUp_le (fun x => !Sort.ltInt xs.toArray[a]! x) xs.toArray j (j + 1 - i) i (Nat.le_refl _)
    generalize hi2 : Sort.scanUp (fun x => !Sort.ltInt xs.toArray[a]! x) xs.toArray j i = i2 at *
    rw [so_e5 a i2 (by omega) xs j _ (by omega)]
    have hd := scanDown_le (fun x => Sort.ltInt xs.toArray[a]! x) xs.toArray i2 (by omega) j
    generalize hj2 : Sort.scanDown (fun x => Sort.ltInt xs.toArray[a]! x) xs.toArray i2 j = j2 at *
    by_cases hc : i2 > j2
    · rw [if_pos (by omega), if_pos hc]; rfl
    · rw [if_neg (by omega), if_neg hc, dif_pos (by omega), so_swp]
      simp only [Int.toNat_natCast]
      rw [show (j2 : Int) - 1 = ((j2 - 1 : Nat) : Int) by omega]
      cases k with
      | zero => omega
      | succ k => exact so_e2 a k (i2 + 1) (j2 - 1) m (sw xs i2 j2) (by omega) (by omega) (by omega) (by omega) (by omega)
theorem so_pe (xs : List Int) (a b p : Nat) (hab : a < b) : slices_partitionEqualOrdered_Id_m xs (a : Int) (b : Int) (p : Int) = pairI2 (Sort.partitionEqual Sort.ltInt xs.toArray a b p) := by
  unfold slices_partitionEqualOrdered_Id_m Sort.partitionEqual
  simp only [LR.seq_go, Int.toNat_natCast]
  rw [so_swp, show (b : Int) - 1 = ((b - 1 : Nat) : Int) by omega]
  exact so_e2 a (b - 1 + 1 - (a + 1)) (a + 1) (b - 1) _ (sw xs a p) (Nat.le_refl _) (by omega) (by omega) (by omega) (by omega)
theorem so_p8 (a j : Nat) (xs : List Int) : ∀ (k i m : Nat), j + 1 - i ≤ k → k < m → slices_partitionOrdered_Id_l8 (a : Int) (j : Int) xs m (i : Int) = ((Sort.scanUp (fun x => Sort.ltInt x xs.toArray[a]!) xs.toArray j i : Nat) : Int)
  | k, i, 0, _, h => by omega
  | k, i, m + 1, h1, h2 => by
    simp only [slices_partitionOrdered_Id_l8, LR.seq_go, so_less, Int.toNat_natCast]
    rw [Sort.scanUp]
    simp only [so_get]
    rw [so_ifd, so_le]
    cases hb : (decide (i ≤ j) && Sort.ltInt (xs.getD i 0) (xs.getD a 0)) with
    | false => rfl
    | true =>
      have : i ≤ j := of_decide_eq_true (Bool.and_eq_true_iff.1 hb).1
      rw [if_pos rfl, if_pos rfl]
      cases k with
      | zero => omega
      | succ k => have := so_p8 a j xs k (i + 1) m (by omega) (by omega); simp only [so_get] at this; exact this
theorem so_p10 (a i : Nat) (hi : 1 ≤ i) (xs : List Int) : ∀ (j m : Nat), j + 1 - i < m → slices_partitionOrdered_Id_l10 (a : Int) (i : Int) xs m (j : Int) = ((Sort.scanDown (fun x => !Sort.ltInt x xs.toArray[a]!) xs.toArray i j : Nat) : Int)
  | j, 0, h => by omega
  | 0, m + 1, h => by
    simp only [slices_partitionOrdered_Id_l10, LR.seq_go]
    rw [so_ifd, show decide ((i : Int) ≤ ((0 : Nat) : Int)) = false from decide_eq_false (by omega), Bool.false_and, if_neg Bool.false_ne_true, Sort.scanDown]
  | j + 1, m + 1, h => by
    simp only [slices_partitionOrdered_Id_l10, LR.seq_go, so_less, Int.toNat_natCast, tn1i]
    rw [Sort.scanDown]
    simp only [so_get]
    rw [so_ifd, so_le]
    cases hb : (decide (i ≤ j + 1) && !Sort.ltInt (xs.getD (j + 1) 0) (xs.getD a 0)) with
    | false => rfl
    | true =>
      have hij : i ≤ j + 1 := of_decide_eq_true (Bool.and_eq_true_iff.1 hb).1
      rw [if_pos rfl, if_pos rfl]
      have := so_p10 a i hi xs j m (by omega); simp only [so_get] at this; exact this
theorem so_p2 (a b : Nat) (hb0 : 1 ≤ b) (xs : List Int) : ∀ (k i m : Nat), b - 1 + 1 - i ≤ k → k < m → slices_partitionOrdered_Id_l2 (a : Int) (b : Int) xs m (i : Int) = ((Sort.scanUp (fun x => Sort.ltInt x xs.toArray[a]!) xs.toArray (b - 1) i : Nat) : Int)
  | k, i, 0, _, h => by omega
  | k, i, m + 1, h1, h2 => by
    simp only [slices_partitionOrdered_Id_l2, LR.seq_go, so_less, Int.toNat_natCast]
    rw [Sort.scanUp]
    simp only [so_get]
    rw [so_ifd, show decide ((i : Int) ≤ (b : Int) - 1) = decide (i ≤ b - 1) by rw [decide_eq_decide]; omega]
    cases hb : (decide (i ≤ b - 1) && Sort.ltInt (xs.getD i 0) (xs.getD a 0)) with
    | false => rfl
    | true =>
      have : i ≤ b - 1 := of_decide_eq_true (Bool.and_eq_true_iff.1 hb).1
      rw [if_pos rfl, if_pos rfl]
      cases k with
      | zero => omega
      | succ k => have := so_p2 a b hb0 xs k (i + 1) m (by omega) (by omega); simp only [so_get] at this; exact this
theorem so_p4 (a i : Nat) (hi : 1 ≤ i) (xs : List Int) : ∀ (j m : Nat), j + 1 - i < m → slices_partitionOrdered_Id_l4 (a : Int) (i : Int) xs m (j : Int) = ((Sort.scanDown (fun x => !Sort.ltInt x xs.toArray[a]!) xs.toArray i j : Nat) : Int)
  | j, 0, h => by omega
  | 0, m + 1, h => by
    simp only [slices_partitionOrdered_Id_l4, LR.seq_go]
    rw [so_ifd, show decide ((i : Int) ≤ ((0 : Nat) : Int)) = false from decide_eq_false (by omega), Bool.false_and, if_neg Bool.false_ne_true, Sort.scanDown]
  | j + 1, m + 1, h => by
    simp only [slices_partitionOrdered_Id_l4, LR.seq_go, so_less, Int.toNat_natCast, tn1i]
    rw [Sort.scanDown]
    simp only [so_get]
    rw [so_ifd, so_le]
    cases hb : (decide (i ≤ j + 1) && !Sort.ltInt (xs.getD (j + 1) 0) (xs.getD a 0)) with
    | false => rfl
    | true =>
      have hij : i ≤ j + 1 := of_decide_eq_true (Bool.and_eq_true_iff.1 hb).1
      rw [if_pos rfl, if_pos rfl]
      have := so_p4 a i hi xs j m (by omega); simp only [so_get] at this; exact this
theorem so_p7 (a : Nat) : ∀ (k i j m : Nat) (xs : List Int), j + 1 - i ≤ k → k < m → a + 1 ≤ i → i - 1 ≤ j + 1 → a ≤ j → slices_partitionOrdered_Id_l7 (a : Int) m ((i : Int), (j : Int), xs) = pairI2 (Sort.partLoop Sort.ltInt a i j xs.toArray)
  | k, i, j, 0, xs, _, h, _, _, _ => by omega
  | k, i, j, m + 1, xs, h1, h2, h3, h4, h5 => by
    simp only [slices_partitionOrdered_Id_l7, LR.seq_go]
    rw [Sort.partLoop, so_p8 a j xs (j + 1 - i) i _ (Nat.le_refl _) (by omega)]
    have hu := scanUp_le (fun x => Sort.ltInt x xs.toArray[a]!) xs.toArray j (j + 1 - i) i (Nat.le_refl _)
    generalize hi2 : Sort.scanUp (fun x => Sort.ltInt x xs.toArray[a]!) xs.toArray j i = i2 at *
    rw [so_p10 a i2 (by omega) xs j _ (by omega)]
    have hd := scanDown_le (fun x => !Sort.ltInt x xs.toArray[a]!) xs.toArray i2 (by omega) j
    generalize hj2 : Sort.scanDown (fun x => !Sort.ltInt x xs.toArray[a]!) xs.toArray i2 j = j2 at *
    by_cases hc : i2 > j2
    · rw [if_pos (by omega), if_pos hc]; rfl
    · rw [if_neg (by omega), if_neg hc, dif_pos (by omega), so_swp]
      simp only [Int.toNat_natCast]
      rw [show (j2 : Int) - 1 = ((j2 - 1 : Nat) : Int) by omega]
      cases k with
      | zero => omega
      | succ k => exact so_p7 a k (i2 + 1) (j2 - 1) m (sw xs i2 j2) (by omega) (by omega) (by omega) (by omega) (by omega)
def trip (p : Nat × Bool × Array Int) : Int × Bool × List Int := ((p.1 : Int), p.2.1, p.2.2.toList)
theorem so_pp (xs : List Int) (a b p : Nat) (hab : a < b) : slices_partitionOrdered_Id_m xs (a : Int) (b : Int) (p : Int) = trip (Sort.partition Sort.ltInt xs.toArray a b p) := by
  unfold slices_partitionOrdered_Id_m Sort.partition
  simp only [LR.seq_go, Int.toNat_natCast]
  rw [so_swp, show (xs.set a (xs.getD p 0)).set p (xs.getD a 0) = sw xs a p from rfl, show (a : Int) + 1 = ((a + 1 : Nat) : Int) by omega, so_p2 a b (by omega) (sw xs a p) (b - 1 + 1 - (a + 1)) (a + 1) _ (Nat.le_refl _) (by omega)]
  have hu := scanUp_le (fun x => Sort.ltInt x (sw xs a p).toArray[a]!) (sw xs a p).toArray (b - 1) (b - 1 + 1 - (a + 1)) (a + 1) (Nat.le_refl _)
  generalize Sort.scanUp (fun x => Sort.ltInt x (sw xs a p).toArray[a]!) (sw xs a p).toArray (b - 1) (a + 1) = i at *
  rw [show (b : Int) - 1 = ((b - 1 : Nat) : Int) by omega, so_p4 a i (by omega) (sw xs a p) (b - 1) _ (by omega)]
  have hd := scanDown_le (fun x => !Sort.ltInt x (sw xs a p).toArray[a]!) (sw xs a p).toArray i (by omega) (b - 1)
  generalize Sort.scanDown (fun x => !Sort.ltInt x (sw xs a p).toArray[a]!) (sw xs a p).toArray i (b - 1) = j at *
  generalize sw xs a p = ys at *
  by_cases hc : i > j
  · rw [if_pos (by omega), if_pos hc, Int.toNat_natCast, so_swp]; rfl
  · rw [if_neg (by omega), if_neg hc, so_swp]
    simp only [Int.toNat_natCast]
    rw [show (ys.set i (ys.getD j 0)).set j (ys.getD i 0) = sw ys i j from rfl, show (j : Int) - 1 = ((j - 1 : Nat) : Int) by omega, show (i : Int) + 1 = ((i + 1 : Nat) : Int) by omega, so_p7 a (j - 1 + 1 - (i + 1)) (i + 1) (j - 1) _ (sw ys i j) (Nat.le_refl _) (by omega) (by omega) (by omega) (by omega)]
    generalize Sort.partLoop Sort.ltInt a (i + 1) (j - 1) (sw ys i j).toArray = r
    obtain ⟨r1, r2⟩ := r
    obtain ⟨zs, rfl⟩ : ∃ zs : List Int, r2 = zs.toArray := ⟨r2.toList, (Array.toArray_toList).symm⟩
    simp only [pairI2, trip, Int.toNat_natCast]
    rw [so_swp]; rfl
end Go.SX

set_option linter.unusedVariables false
set_option linter.unusedSimpArgs false
namespace Go.SX
open Go
theorem so_o2 (xs : List Int) (a b s : Nat) : slices_order2Ordered_Id_m xs (a : Int) (b : Int) (s : Int) = (((Sort.order2 Sort.ltInt xs.toArray a b s).1 : Int), ((Sort.order2 Sort.ltInt xs.toArray a b s).2.1 : Int), xs, ((Sort.order2 Sort.ltInt xs.toArray a b s).2.2 : Int)) := by
  unfold slices_order2Ordered_Id_m Sort.order2
  rw [LR.seq_go, so_less, Int.toNat_natCast, Int.toNat_natCast, so_get, so_get]
  split <;> rfl
theorem so_med (xs : List Int) (a b c s : Nat) : slices_medianOrdered_Id_m xs (a : Int) (b : Int) (c : Int) (s : Int) = (((Sort.median Sort.ltInt xs.toArray a b c s).1 : Int), xs, ((Sort.median Sort.ltInt xs.toArray a b c s).2 : Int)) := by
  unfold slices_medianOrdered_Id_m Sort.median
  simp only [LR.seq_go, so_o2]
theorem so_madj (xs : List Int) (a s : Nat) (ha : 1 ≤ a) : slices_medianAdjacentOrdered_Id_m xs (a : Int) (s : Int) = (((Sort.medianAdjacent Sort.ltInt xs.toArray a s).1 : Int), xs, ((Sort.medianAdjacent Sort.ltInt xs.toArray a s).2 : Int)) := by
  unfold slices_medianAdjacentOrdered_Id_m Sort.medianAdjacent
  rw [show (a : Int) - 1 = ((a - 1 : Nat) : Int) by omega, show (a : Int) + 1 = ((a + 1 : Nat) : Int) by omega, LR.seq_go, so_med]
def hintN : Sort.Hint → Int
  | .unknown => 0
  | .increasing => 1
  | .decreasing => 2
theorem so_choose (xs : List Int) (a b : Nat) (hab : a + 12 < b) : slices_choosePivotOrdered_Id_m xs (a : Int) (b : Int) = (((Sort.choosePivot Sort.ltInt xs.toArray a b).1 : Int), hintN (Sort.choosePivot Sort.ltInt xs.toArray a b).2, xs) := by
  have key : ∀ (p s : Nat), (if ((s : Nat) : Int) = 0 then (((p : Int), (1 : Int), xs) : Int × Int × List Int) else (if ((s : Nat) : Int) = 12 then ((p : Int), 2, xs) else ((p : Int), 0, xs))) = ((p : Int), hintN (if s = 0 then .increasing else if s = 12 then .decreasing else .unknown), xs) := fun p s => by
    by_cases h0 : s = 0
    · rw [if_pos (by omega), if_pos h0]; rfl
    · rw [if_neg (by omega), if_neg h0]
      by_cases h1 : s = 12
      · rw [if_pos (by omega), if_pos h1]; rfl
      · rw [if_neg (by omega), if_neg h1]; rfl
  unfold slices_choosePivotOrdered_Id_m Sort.choosePivot
  rw [if_pos (show (8 : Int) ≤ (b : Int) - (a : Int) by omega)]
  simp only [LR.seq_go]
  rw [if_pos (show b - a ≥ 8 by omega)]
  have e1 : (a : Int) + ((b : Int) - (a : Int)) / 4 * 1 = ((a + (b - a) / 4 * 1 : Nat) : Int) := by omega
  have e2 : (a : Int) + ((b : Int) - (a : Int)) / 4 * 2 = ((a + (b - a) / 4 * 2 : Nat) : Int) := by omega
  have e3 : (a : Int) + ((b : Int) - (a : Int)) / 4 * 3 = ((a + (b - a) / 4 * 3 : Nat) : Int) := by omega
  rw [e1, e2, e3]
  by_cases h50 : b - a ≥ 50
  · rw [if_pos (show (50 : Int) ≤ (b : Int) - (a : Int) by omega), if_pos h50]
    rw [show (0 : Int) = ((0 : Nat) : Int) from rfl, so_madj _ _ _ (by omega)]
    simp only
    rw [so_madj _ _ _ (by omega)]
    simp only
    rw [so_madj _ _ _ (by omega)]
    simp only
    rw [so_med]
    exact key _ _
  · rw [if_neg (show ¬ (50 : Int) ≤ (b : Int) - (a : Int) by omega), if_neg h50]
    simp only
    rw [show (0 : Int) = ((0 : Nat) : Int) from rfl, so_med]
    exact key _ _
theorem so_next (r : UInt64) : _slices_xorshift__Next_m (r.toNat : Int) = (((Sort.xorNext r).toNat : Int), ((Sort.xorNext r).toNat : Int)) := by
  have x0 : r.toNat < 18446744073709551616 := r.toNat_lt
  have bx : ∀ u v : Nat, u < 18446744073709551616 → v < 18446744073709551616 → bxor .u64 (u : Int) (v : Int) = ((u ^^^ v : Nat) : Int) := fun u v hu hv => bits_xor_u64_nat u v hu hv
  have lt : ∀ u v : Nat, u < 18446744073709551616 → v < 18446744073709551616 → u ^^^ v < 18446744073709551616 := fun u v hu hv => Nat.xor_lt_two_pow (n := 64) hu hv
  have s13 : ∀ u : Nat, bshl .u64 (u : Int) 13 = ((u * 8192 % 18446744073709551616 : Nat) : Int) := fun u => by
    show IntKind.u64.wrap ((u : Int) * 8192) = _
    rw [IntKind.wrap_u64]; omega
  have s17 : ∀ u : Nat, bshl .u64 (u : Int) 17 = ((u * 131072 % 18446744073709551616 : Nat) : Int) := fun u => by
    show IntKind.u64.wrap ((u : Int) * 131072) = _
    rw [IntKind.wrap_u64]; omega
  have s7 : ∀ u : Nat, bshr .u64 (u : Int) 7 = ((u / 128 : Nat) : Int) := fun u => by
    show (u : Int).fdiv 128 = _
    rw [Int.fdiv_eq_ediv_of_nonneg _ (by decide)]; omega
  unfold _slices_xorshift__Next_m
  simp only [LR.seq_go, Sort.xorNext_toNat, Sort.xorNextN]
  generalize r.toNat = x at *
  rw [s13, bx x _ x0 (by omega)]
  have x1 := lt x (x * 8192 % 18446744073709551616) x0 (by omega)
  generalize x ^^^ (x * 8192 % 18446744073709551616) = y at *
  rw [s7, bx y _ x1 (by omega)]
  have x2 := lt y (y / 128) x1 (by omega)
  generalize y ^^^ (y / 128) = z at *
  rw [s17, bx z _ x2 (by omega)]
theorem so_bstep (a b : Nat) (hab : a + 8 ≤ b) (hb : b ≤ 4000000) (i m : Nat) (hi : i ≤ a + (b - a) / 4 * 2 + 1) (r : UInt64) (xs : List Int) :
    slices_breakPatternsOrdered_Id_l1 (a : Int) (b : Int) (m + 1) ((i : Int), (r.toNat : Int), xs) = slices_breakPatternsOrdered_Id_l1 (a : Int) (b : Int) m (((i + 1 : Nat) : Int), ((Sort.breakStep a (b - a) (1 <<< Sort.bitsLen (b - a)) (r, xs.toArray) i).1.toNat : Int), (Sort.breakStep a (b - a) (1 <<< Sort.bitsLen (b - a)) (r, xs.toArray) i).2.toList) := by
  simp only [slices_breakPatternsOrdered_Id_l1, LR.seq_go, so_next, Int.toNat_natCast]
  rw [if_pos (by omega), show (b : Int) - (a : Int) = ((b - a : Nat) : Int) by omega, npow_eq _ (by omega)]
  have h1 := Sort.two_pow_bitsLen_le (n := b - a) (by omega)
  have h0 : 0 < 2 ^ Sort.bitsLen (b - a) := Nat.two_pow_pos _
  unfold Sort.breakStep
  simp only
  rw [Nat.one_shiftLeft]
  generalize 2 ^ Sort.bitsLen (b - a) = M at h0 h1
  have hr : (Sort.xorNext r).toNat < 18446744073709551616 := (Sort.xorNext r).toNat_lt
  generalize Sort.xorNext r = r2 at *
  have e : IntKind.u64.wrap ((M : Int) - 1) = ((M - 1 : Nat) : Int) := by rw [wrap_u64 ⟨by omega, by omega⟩]; omega
  have eb : band .u64 (r2.toNat : Int) ((M - 1 : Nat) : Int) = ((r2.toNat &&& (M - 1) : Nat) : Int) := bits_and_u64_nat _ _ hr (by omega)
  rw [e, eb]
  generalize r2.toNat &&& (M - 1) = o
  have eo : (if ((b - a : Nat) : Int) ≤ (o : Int) then (o : Int) - ((b - a : Nat) : Int) else (o : Int)) = ((if o ≥ b - a then o - (b - a) else o : Nat) : Int) := by
    by_cases h : o ≥ b - a
    · rw [if_pos (by omega), if_pos h]; omega
    · rw [if_neg (by omega), if_neg h]
  rw [eo]
  generalize (if o ≥ b - a then o - (b - a) else o) = q
  rw [show ((a : Int) + (q : Int)).toNat = a + q by omega, so_swp]
  rfl
theorem so_break (xs : List Int) (a b : Nat) (hab : a + 12 < b) (hb : b ≤ 4000000) : slices_breakPatternsOrdered_Id_m xs (a : Int) (b : Int) = (Sort.breakPatterns xs.toArray a b).toList := by
  unfold slices_breakPatternsOrdered_Id_m Sort.breakPatterns
  rw [if_pos (by omega)]
  simp only
  rw [if_pos (show b - a ≥ 8 by omega), LR.seq_go]
  have e0 : (a : Int) + ((b : Int) - (a : Int)) / 4 * 2 - 1 = ((a + (b - a) / 4 * 2 - 1 : Nat) : Int) := by omega
  have em : ((a : Int) + ((b : Int) - (a : Int)) / 4 * 2 + 2 - ((a + (b - a) / 4 * 2 - 1 : Nat) : Int)).toNat + 1 = 4 := by omega
  have er : (b : Int) - (a : Int) = ((UInt64.ofNat (b - a)).toNat : Int) := by
    rw [UInt64.toNat_ofNat']; omega
  rw [e0, em]
  conv => lhs; rw [show ((b : Int) - (a : Int)) = ((UInt64.ofNat (b - a)).toNat : Int) from er]
  rw [so_bstep a b (by omega) hb _ 3 (by omega), so_bstep a b (by omega) hb _ 2 (by omega), so_bstep a b (by omega) hb _ 1 (by omega)]
  simp only [Array.toArray_toList]
  rw [slices_breakPatternsOrdered_Id_l1, if_neg (by simp only; omega)]
theorem partEq_rng (lt : Int → Int → Bool) (a : Nat) : ∀ (k i j : Nat) (d : Array Int), j + 1 - i ≤ k → 1 ≤ i → i ≤ (Sort.partEqLoop lt a i j d).1 ∧ (Sort.partEqLoop lt a i j d).1 ≤ max i (j + 1)
  | k, i, j, d, h, h1 => by
    rw [Sort.partEqLoop]
    have hu := scanUp_le (fun x => !lt d[a]! x) d j (j + 1 - i) i (Nat.le_refl _)
    generalize Sort.scanUp (fun x => !lt d[a]! x) d j i = i2 at *
    have hd := scanDown_le (fun x => lt d[a]! x) d i2 (by omega) j
    generalize Sort.scanDown (fun x => lt d[a]! x) d i2 j = j2 at *
    by_cases hc : i2 > j2
    · rw [if_pos hc]; exact ⟨hu.1, hu.2⟩
    · rw [if_neg hc]
      split
      · cases k with
        | zero => omega
        | succ k => have := partEq_rng lt a k (i2 + 1) (j2 - 1) (Sort.swp d i2 j2) (by omega) (by omega); omega
      · exact ⟨hu.1, hu.2⟩
theorem peq_f (xs : List Int) (a b p : Int) (r : Int × List Int) (e : r = slices_partitionEqualOrdered_Id_m xs a b p) (h : 0 ≤ a ∧ a < b ∧ 0 ≤ p) : a < r.1 ∧ r.1 ≤ b := by
  obtain ⟨a, rfl⟩ : ∃ n : Nat, a = n := ⟨a.toNat, by omega⟩
  obtain ⟨b, rfl⟩ : ∃ n : Nat, b = n := ⟨b.toNat, by omega⟩
  obtain ⟨p, rfl⟩ : ∃ n : Nat, p = n := ⟨p.toNat, by omega⟩
  rw [e, so_pe xs a b p (by omega)]
  unfold Sort.partitionEqual
  have := partEq_rng Sort.ltInt a (b - 1 + 1 - (a + 1)) (a + 1) (b - 1) (Sort.swp xs.toArray a p) (Nat.le_refl _) (by omega)
  simp only [pairI2]
  omega
theorem pp_f (xs : List Int) (a b p : Int) (r : Int × Bool × List Int) (e : r = slices_partitionOrdered_Id_m xs a b p) (h : 0 ≤ a ∧ a ≤ p ∧ p < b ∧ b ≤ (xs.length : Int)) : a ≤ r.1 ∧ r.1 < b := by
  obtain ⟨a, rfl⟩ : ∃ n : Nat, a = n := ⟨a.toNat, by omega⟩
  obtain ⟨b, rfl⟩ : ∃ n : Nat, b = n := ⟨b.toNat, by omega⟩
  obtain ⟨p, rfl⟩ : ∃ n : Nat, p = n := ⟨p.toNat, by omega⟩
  rw [e, so_pp xs a b p (by omega)]
  have := Sort.partition_holds Sort.ltInt Sort.swo_ltInt xs.toArray a b p (by omega) (by omega) (by simp; omega)
  simp only [trip]
  omega
end Go.SX
