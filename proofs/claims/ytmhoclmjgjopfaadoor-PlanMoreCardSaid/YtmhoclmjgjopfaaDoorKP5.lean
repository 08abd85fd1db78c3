/- 'PlanMore' answers true, whatever it is handed, and what it is handed reads behind it as it did: the row, and its tied card. -/
import Derived.RangeFuncNested
import Derived.RangeFuncBound
import Derived.RangeFuncCalls
import Derived.RangeFuncLeaves
import Derived.Shelf.Abstract
import Derived.Laws.AppendOwn
import Derived.Laws.OwnMore
import Derived.KernelRfl
import Derived.IntWalk
import Derived.Laws.Append
import Derived.WideLaws
import Derived.Laws.Slices
import Derived.Laws.MakeOwn
import Derived.OrdersIn
import Derived.Laws.Cover3
import Derived.Test.YtmhoclmjgjopfaaDoorProg
import Derived.Laws.StructEq
import Derived.Shelf.Sort.Plain
import Derived.Sort.OwnSortedInts
import Derived.Shelf.Slices.In.SortNone
import Derived.Shelf.Slices.CompactI
import Derived.Lib.AppendZeros
import Derived.ProofKit
import Derived.ChangeSlices
import Derived.Carry
import Derived.Deep.Slices
import Derived.OpenShut
import Derived.Test.YtmhoclmjgjopfaaDoorCards
import Derived.Test.YtmhoclmjgjopfaaDoorTie
import Derived.LaidMore
import Derived.Stop.Joined
import Derived.MakeChecks
import Derived.Test.YtmhoclmjgjopfaaDoorKP4
set_option linter.unusedVariables false
set_option linter.unusedSimpArgs false
namespace Go.SX
open Go Go.ChangeShapes Go.WideShapes Go.ChangeAt Go.RowKit Go.Proofs
def traitsE : ER (Bool × Bool × Int × Int × Int) where
  size := 5
  R := fun _ cs x => cs = [.bool x.1, .bool x.2.1, .int .i64 x.2.2.1, .int .i64 x.2.2.2.1, .int .i64 x.2.2.2.2]
  len := fun h => by subst h; rfl
  mono := fun _ h => h
  one := fun h v hv => by subst h; simp only [List.mem_cons, List.not_mem_nil, or_false] at hv; rcases hv with rfl | rfl | rfl | rfl | rfl <;> rfl
def arr96E : ER ((List Int) × (List Int)) where
  size := 2
  R := fun H cs x => ∃ v0 v1, cs = [v0, v1] ∧ RdS (intE .i64) H v0 x.1 ∧ RdS (intE .i64) H v1 x.2
  len := fun h => by obtain ⟨v0, v1, rfl, _⟩ := h; rfl
  mono := fun hl h => by obtain ⟨v0, v1, rfl, h0, h1⟩ := h; exact ⟨v0, v1, rfl, h0.mono hl, h1.mono hl⟩
  one := fun h v hv => by
    obtain ⟨v0, v1, rfl, h0, h1⟩ := h
    simp only [List.mem_cons, List.not_mem_nil, or_false] at hv
    rcases hv with rfl | rfl <;> first | rfl | exact RdS.one (by assumption)

theorem lenN2 {α : Type} {l : List α} (h : l.length = 2) : ∃ v0 v1, l = [v0, v1] := by
  match l, h with
  | [v0, v1], _ => exact ⟨v0, v1, rfl⟩
theorem lenN5 {α : Type} {l : List α} (h : l.length = 5) : ∃ v0 v1 v2 v3 v4, l = [v0, v1, v2, v3, v4] := by
  match l, h with
  | [v0, v1, v2, v3, v4], _ => exact ⟨v0, v1, v2, v3, v4, rfl⟩
theorem lenN6 {α : Type} {l : List α} (h : l.length = 6) : ∃ v0 v1 v2 v3 v4 v5, l = [v0, v1, v2, v3, v4, v5] := by
  match l, h with
  | [v0, v1, v2, v3, v4, v5], _ => exact ⟨v0, v1, v2, v3, v4, v5, rfl⟩
theorem lenN12 {α : Type} {l : List α} (h : l.length = 12) : ∃ v0 v1 v2 v3 v4 v5 v6 v7 v8 v9 v10 v11, l = [v0, v1, v2, v3, v4, v5, v6, v7, v8, v9, v10, v11] := by
  match l, h with
  | [v0, v1, v2, v3, v4, v5, v6, v7, v8, v9, v10, v11], _ => exact ⟨v0, v1, v2, v3, v4, v5, v6, v7, v8, v9, v10, v11, rfl⟩
theorem opn76 : Opn Tryd.prog 76 traitsE (fun x => ((True) ∧ (True) ∧ ((Lit.int .i64 x.2.2.1).wf = true) ∧ ((Lit.int .i64 x.2.2.2.1).wf = true) ∧ ((Lit.int .i64 x.2.2.2.2).wf = true))) := fun H enc W sp hd n cs x h => by
  obtain ⟨xs, m, _, _, hl, hxl, hf⟩ := DataW.trod_struct Tryd.underlying76 h
  rw [show Tryd.prog.cellsOf 76 = 5 by kernel_rfl] at hl
  replace hxl : xs.length = 5 := hxl
  obtain ⟨v0, v1, v2, v3, v4, rfl⟩ := lenN5 hl
  obtain ⟨y0, y1, y2, y3, y4, rfl⟩ := lenN5 hxl
  have g0 : DataW.trod enc Tryd.prog W 0 sp hd m 4 (([v0, v1, v2, v3, v4].drop 0).take (Tryd.prog.cellsOf 4)) = some y0 := hf 0 _ rfl
  rw [show Tryd.prog.cellsOf 4 = 1 by kernel_rfl] at g0
  simp only [List.drop, List.take] at g0
  have g1 : DataW.trod enc Tryd.prog W 0 sp hd m 4 (([v0, v1, v2, v3, v4].drop 1).take (Tryd.prog.cellsOf 4)) = some y1 := hf 1 _ rfl
  rw [show Tryd.prog.cellsOf 4 = 1 by kernel_rfl] at g1
  simp only [List.drop, List.take] at g1
  have g2 : DataW.trod enc Tryd.prog W 0 sp hd m 3 (([v0, v1, v2, v3, v4].drop 2).take (Tryd.prog.cellsOf 3)) = some y2 := hf 2 _ rfl
  rw [show Tryd.prog.cellsOf 3 = 1 by kernel_rfl] at g2
  simp only [List.drop, List.take] at g2
  have g3 : DataW.trod enc Tryd.prog W 0 sp hd m 3 (([v0, v1, v2, v3, v4].drop 3).take (Tryd.prog.cellsOf 3)) = some y3 := hf 3 _ rfl
  rw [show Tryd.prog.cellsOf 3 = 1 by kernel_rfl] at g3
  simp only [List.drop, List.take] at g3
  have g4 : DataW.trod enc Tryd.prog W 0 sp hd m 3 (([v0, v1, v2, v3, v4].drop 4).take (Tryd.prog.cellsOf 3)) = some y4 := hf 4 _ rfl
  rw [show Tryd.prog.cellsOf 3 = 1 by kernel_rfl] at g4
  simp only [List.drop, List.take] at g4
  obtain ⟨x0, h0, _⟩ := DataW.trod_bool Tryd.underlying4 g0
  injection h0 with h0; subst h0
  obtain ⟨x1, h1, _⟩ := DataW.trod_bool Tryd.underlying4 g1
  injection h1 with h1; subst h1
  obtain ⟨x2, h2, _, w2⟩ := DataW.trod_int Tryd.underlying3 g2
  injection h2 with h2; subst h2
  obtain ⟨x3, h3, _, w3⟩ := DataW.trod_int Tryd.underlying3 g3
  injection h3 with h3; subst h3
  obtain ⟨x4, h4, _, w4⟩ := DataW.trod_int Tryd.underlying3 g4
  injection h4 with h4; subst h4
  exact ⟨(x0, x1, x2, x3, x4), rfl, ⟨trivial, trivial, w2, w3, w4⟩⟩
theorem opn78 : Opn Tryd.prog 78 relationE (fun x => (((Lit.int .i64 x.1).wf = true) ∧ (((True) ∧ (True) ∧ ((Lit.int .i64 x.2.2.2.1).wf = true) ∧ ((Lit.int .i64 x.2.2.2.2.1).wf = true) ∧ ((Lit.int .i64 x.2.2.2.2.2).wf = true))))) := fun H enc W sp hd n cs x h => by
  obtain ⟨xs, m, _, _, hl, hxl, hf⟩ := DataW.trod_struct Tryd.underlying78 h
  rw [show Tryd.prog.cellsOf 78 = 6 by kernel_rfl] at hl
  replace hxl : xs.length = 2 := hxl
  obtain ⟨v0, v1, v2, v3, v4, v5, rfl⟩ := lenN6 hl
  obtain ⟨y0, y1, rfl⟩ := lenN2 hxl
  have g0 : DataW.trod enc Tryd.prog W 0 sp hd m 3 (([v0, v1, v2, v3, v4, v5].drop 0).take (Tryd.prog.cellsOf 3)) = some y0 := hf 0 _ rfl
  rw [show Tryd.prog.cellsOf 3 = 1 by kernel_rfl] at g0
  simp only [List.drop, List.take] at g0
  have g1 : DataW.trod enc Tryd.prog W 0 sp hd m 76 (([v0, v1, v2, v3, v4, v5].drop 1).take (Tryd.prog.cellsOf 76)) = some y1 := hf 1 _ rfl
  rw [show Tryd.prog.cellsOf 76 = 5 by kernel_rfl] at g1
  simp only [List.drop, List.take] at g1
  obtain ⟨x0, h0, _, w0⟩ := DataW.trod_int Tryd.underlying3 g0
  injection h0 with h0; subst h0
  obtain ⟨x1, h1, w1⟩ := opn76 H enc W sp hd _ _ _ g1
  obtain ⟨rfl, rfl, rfl, rfl, rfl⟩ : v1 = .bool x1.1 ∧ v2 = .bool x1.2.1 ∧ v3 = .int .i64 x1.2.2.1 ∧ v4 = .int .i64 x1.2.2.2.1 ∧ v5 = .int .i64 x1.2.2.2.2 := by have h := h1; simp only [traitsE] at h; simpa using h
  exact ⟨(x0, x1), rfl, ⟨w0, w1⟩⟩
theorem opn73 : Opn Tryd.prog 73 heldE (fun x => (((Lit.int .i64 x.1).wf = true) ∧ ((Lit.int .u64 x.2).wf = true))) := fun H enc W sp hd n cs x h => by
  obtain ⟨xs, m, _, _, hl, hxl, hf⟩ := DataW.trod_struct Tryd.underlying73 h
  rw [show Tryd.prog.cellsOf 73 = 2 by kernel_rfl] at hl
  replace hxl : xs.length = 2 := hxl
  obtain ⟨v0, v1, rfl⟩ := lenN2 hl
  obtain ⟨y0, y1, rfl⟩ := lenN2 hxl
  have g0 : DataW.trod enc Tryd.prog W 0 sp hd m 3 (([v0, v1].drop 0).take (Tryd.prog.cellsOf 3)) = some y0 := hf 0 _ rfl
  rw [show Tryd.prog.cellsOf 3 = 1 by kernel_rfl] at g0
  simp only [List.drop, List.take] at g0
  have g1 : DataW.trod enc Tryd.prog W 0 sp hd m 32 (([v0, v1].drop 1).take (Tryd.prog.cellsOf 32)) = some y1 := hf 1 _ rfl
  rw [show Tryd.prog.cellsOf 32 = 1 by kernel_rfl] at g1
  simp only [List.drop, List.take] at g1
  obtain ⟨x0, h0, _, w0⟩ := DataW.trod_int Tryd.underlying3 g0
  injection h0 with h0; subst h0
  obtain ⟨x1, h1, _, w1⟩ := DataW.trod_int Tryd.underlying32 g1
  injection h1 with h1; subst h1
  exact ⟨(x0, x1), rfl, ⟨w0, w1⟩⟩
theorem opn96 : Opn Tryd.prog 96 arr96E (fun x => ((∀ z ∈ x.1, (Lit.int .i64 z).wf = true) ∧ (∀ z ∈ x.2, (Lit.int .i64 z).wf = true))) := fun H enc W sp hd n cs x h => by
  obtain ⟨xs, m, _, _, hl, hxl, hf⟩ := DataW.trod_array Tryd.underlying96 h
  rw [show Tryd.prog.cellsOf 96 = 2 by kernel_rfl] at hl
  replace hxl : xs.length = 2 := hxl
  obtain ⟨v0, v1, rfl⟩ := lenN2 hl
  obtain ⟨y0, y1, rfl⟩ := lenN2 hxl
  have hc : Tryd.prog.cellsOf 23 = 1 := by kernel_rfl
  simp only [hc] at hf
  have g0 : DataW.trod enc Tryd.prog W 0 sp hd m 23 [v0] = some y0 := hf 0 (by decide)
  have g1 : DataW.trod enc Tryd.prog W 0 sp hd m 23 [v1] = some y1 := hf 1 (by decide)
  obtain ⟨x0, ⟨u0, h0, r0⟩, w0⟩ := (Opn.slice Tryd.underlying23 (by kernel_rfl) (Opn.int Tryd.underlying3) (by decide)) H enc W sp hd _ _ _ g0
  injection h0 with h0; subst h0
  obtain ⟨x1, ⟨u1, h1, r1⟩, w1⟩ := (Opn.slice Tryd.underlying23 (by kernel_rfl) (Opn.int Tryd.underlying3) (by decide)) H enc W sp hd _ _ _ g1
  injection h1 with h1; subst h1
  exact ⟨(x0, x1), ⟨_, _, rfl, r0, r1⟩, ⟨w0, w1⟩⟩

end Go.SX
namespace Go.Proofs.YtmhoclmjgjopfaaDoor
open Go.ChangeShapes Go.WideShapes Go.ChangeAt Go.RowKit Go.SX

theorem planMore_own : ownKnob Tryd.prog.godebug = none := by kernel_rfl
theorem planMore_laid : laidOutB Tryd.prog = true := by kernel_rfl
theorem planMore_met (os : Os) (args : Array Value) : laidMetH Tryd.prog Rows.planMoreRow.laid ((World.doorLaid Tryd.prog 400 os).forCall (fun _ _ => 0) ⟨#[], args, []⟩).memory :=
  laidMetH_of_parts3 (fuel := 12) (laidMet_of_run' 12 (by kernel_rfl) (by kernel_rfl)) (by kernel_rfl) (by kernel_rfl)
theorem planMore_dat_0_1 {W : World} {H : Type} {enc : TypeId × Value → H} {sp : Nat → Bool} {hh : Bool} {n : Nat} {cs : List Value} {x : DataW H × List MemPlace} (h : DataW.trod enc Tryd.prog W 0 sp hh n 76 cs = some x) (hd : x.1 = .agg [.lit (.bool true), .lit (.bool true), .lit (.int .i64 0), .lit (.int .i64 1), .lit (.int .i64 2)]) : cs = [.bool true, .bool true, .int .i64 0, .int .i64 1, .int .i64 2] := by
  obtain ⟨xs, m, _, hx1, hl, hxl, hf⟩ := DataW.trod_struct Tryd.underlying76 h
  rw [show Tryd.prog.cellsOf 76 = 5 by kernel_rfl] at hl
  replace hxl : xs.length = 5 := hxl
  obtain ⟨v0, v1, v2, v3, v4, rfl⟩ := lenN5 hl
  obtain ⟨y0, y1, y2, y3, y4, rfl⟩ := lenN5 hxl
  subst hx1
  simp only [List.map_cons, List.map_nil, DataW.agg.injEq, List.cons.injEq, and_true] at hd
  obtain ⟨e0, e1, e2, e3, e4⟩ := hd
  have g0 : DataW.trod enc Tryd.prog W 0 sp hh m 4 (([v0, v1, v2, v3, v4].drop 0).take (Tryd.prog.cellsOf 4)) = some y0 := hf 0 _ rfl
  rw [show Tryd.prog.cellsOf 4 = 1 by kernel_rfl] at g0
  have G0 : DataW.trod enc Tryd.prog W 0 sp hh m 4 [v0] = some y0 := g0
  clear g0
  have g1 : DataW.trod enc Tryd.prog W 0 sp hh m 4 (([v0, v1, v2, v3, v4].drop 1).take (Tryd.prog.cellsOf 4)) = some y1 := hf 1 _ rfl
  rw [show Tryd.prog.cellsOf 4 = 1 by kernel_rfl] at g1
  have G1 : DataW.trod enc Tryd.prog W 0 sp hh m 4 [v1] = some y1 := g1
  clear g1
  have g2 : DataW.trod enc Tryd.prog W 0 sp hh m 3 (([v0, v1, v2, v3, v4].drop 2).take (Tryd.prog.cellsOf 3)) = some y2 := hf 2 _ rfl
  rw [show Tryd.prog.cellsOf 3 = 1 by kernel_rfl] at g2
  have G2 : DataW.trod enc Tryd.prog W 0 sp hh m 3 [v2] = some y2 := g2
  clear g2
  have g3 : DataW.trod enc Tryd.prog W 0 sp hh m 3 (([v0, v1, v2, v3, v4].drop 3).take (Tryd.prog.cellsOf 3)) = some y3 := hf 3 _ rfl
  rw [show Tryd.prog.cellsOf 3 = 1 by kernel_rfl] at g3
  have G3 : DataW.trod enc Tryd.prog W 0 sp hh m 3 [v3] = some y3 := g3
  clear g3
  have g4 : DataW.trod enc Tryd.prog W 0 sp hh m 3 (([v0, v1, v2, v3, v4].drop 4).take (Tryd.prog.cellsOf 3)) = some y4 := hf 4 _ rfl
  rw [show Tryd.prog.cellsOf 3 = 1 by kernel_rfl] at g4
  have G4 : DataW.trod enc Tryd.prog W 0 sp hh m 3 [v4] = some y4 := g4
  clear g4
  clear hf h
  obtain ⟨a0, h0, k0⟩ := DataW.trod_bool Tryd.underlying4 G0
  subst k0
  injection h0 with h0; subst h0
  simp only [DataW.lit.injEq, Lit.int.injEq, Lit.bool.injEq, true_and] at e0; subst e0
  obtain ⟨a1, h1, k1⟩ := DataW.trod_bool Tryd.underlying4 G1
  subst k1
  injection h1 with h1; subst h1
  simp only [DataW.lit.injEq, Lit.int.injEq, Lit.bool.injEq, true_and] at e1; subst e1
  obtain ⟨a2, h2, k2, _⟩ := DataW.trod_int Tryd.underlying3 G2
  subst k2
  injection h2 with h2; subst h2
  simp only [DataW.lit.injEq, Lit.int.injEq, Lit.bool.injEq, true_and] at e2; subst e2
  obtain ⟨a3, h3, k3, _⟩ := DataW.trod_int Tryd.underlying3 G3
  subst k3
  injection h3 with h3; subst h3
  simp only [DataW.lit.injEq, Lit.int.injEq, Lit.bool.injEq, true_and] at e3; subst e3
  obtain ⟨a4, h4, k4, _⟩ := DataW.trod_int Tryd.underlying3 G4
  subst k4
  injection h4 with h4; subst h4
  simp only [DataW.lit.injEq, Lit.int.injEq, Lit.bool.injEq, true_and] at e4; subst e4
  rfl
theorem planMore_dat_0 {W : World} {H : Type} {enc : TypeId × Value → H} {sp : Nat → Bool} {hh : Bool} {n : Nat} {cs : List Value} {x : DataW H × List MemPlace} (h : DataW.trod enc Tryd.prog W 0 sp hh n 78 cs = some x) (hd : x.1 = .agg [.lit (.int .i64 1), .agg [.lit (.bool true), .lit (.bool true), .lit (.int .i64 0), .lit (.int .i64 1), .lit (.int .i64 2)]]) : cs = [.int .i64 1, .bool true, .bool true, .int .i64 0, .int .i64 1, .int .i64 2] := by
  obtain ⟨xs, m, _, hx1, hl, hxl, hf⟩ := DataW.trod_struct Tryd.underlying78 h
  rw [show Tryd.prog.cellsOf 78 = 6 by kernel_rfl] at hl
  replace hxl : xs.length = 2 := hxl
  obtain ⟨v0, v1, v2, v3, v4, v5, rfl⟩ := lenN6 hl
  obtain ⟨y0, y1, rfl⟩ := lenN2 hxl
  subst hx1
  simp only [List.map_cons, List.map_nil, DataW.agg.injEq, List.cons.injEq, and_true] at hd
  obtain ⟨e0, e1⟩ := hd
  have g0 : DataW.trod enc Tryd.prog W 0 sp hh m 3 (([v0, v1, v2, v3, v4, v5].drop 0).take (Tryd.prog.cellsOf 3)) = some y0 := hf 0 _ rfl
  rw [show Tryd.prog.cellsOf 3 = 1 by kernel_rfl] at g0
  have G0 : DataW.trod enc Tryd.prog W 0 sp hh m 3 [v0] = some y0 := g0
  clear g0
  have g1 : DataW.trod enc Tryd.prog W 0 sp hh m 76 (([v0, v1, v2, v3, v4, v5].drop 1).take (Tryd.prog.cellsOf 76)) = some y1 := hf 1 _ rfl
  rw [show Tryd.prog.cellsOf 76 = 5 by kernel_rfl] at g1
  have G1 : DataW.trod enc Tryd.prog W 0 sp hh m 76 [v1, v2, v3, v4, v5] = some y1 := g1
  clear g1
  clear hf h
  obtain ⟨a0, h0, k0, _⟩ := DataW.trod_int Tryd.underlying3 G0
  subst k0
  injection h0 with h0; subst h0
  simp only [DataW.lit.injEq, Lit.int.injEq, Lit.bool.injEq, true_and] at e0; subst e0
  have q1 := planMore_dat_0_1 G1 e1
  simp only [List.cons.injEq, and_true] at q1
  obtain ⟨rfl, rfl, rfl, rfl, rfl⟩ := q1
  rfl
theorem planMore_dat_1_1 {W : World} {H : Type} {enc : TypeId × Value → H} {sp : Nat → Bool} {hh : Bool} {n : Nat} {cs : List Value} {x : DataW H × List MemPlace} (h : DataW.trod enc Tryd.prog W 0 sp hh n 76 cs = some x) (hd : x.1 = .agg [.lit (.bool true), .lit (.bool false), .lit (.int .i64 0), .lit (.int .i64 0), .lit (.int .i64 2)]) : cs = [.bool true, .bool false, .int .i64 0, .int .i64 0, .int .i64 2] := by
  obtain ⟨xs, m, _, hx1, hl, hxl, hf⟩ := DataW.trod_struct Tryd.underlying76 h
  rw [show Tryd.prog.cellsOf 76 = 5 by kernel_rfl] at hl
  replace hxl : xs.length = 5 := hxl
  obtain ⟨v0, v1, v2, v3, v4, rfl⟩ := lenN5 hl
  obtain ⟨y0, y1, y2, y3, y4, rfl⟩ := lenN5 hxl
  subst hx1
  simp only [List.map_cons, List.map_nil, DataW.agg.injEq, List.cons.injEq, and_true] at hd
  obtain ⟨e0, e1, e2, e3, e4⟩ := hd
  have g0 : DataW.trod enc Tryd.prog W 0 sp hh m 4 (([v0, v1, v2, v3, v4].drop 0).take (Tryd.prog.cellsOf 4)) = some y0 := hf 0 _ rfl
  rw [show Tryd.prog.cellsOf 4 = 1 by kernel_rfl] at g0
  have G0 : DataW.trod enc Tryd.prog W 0 sp hh m 4 [v0] = some y0 := g0
  clear g0
  have g1 : DataW.trod enc Tryd.prog W 0 sp hh m 4 (([v0, v1, v2, v3, v4].drop 1).take (Tryd.prog.cellsOf 4)) = some y1 := hf 1 _ rfl
  rw [show Tryd.prog.cellsOf 4 = 1 by kernel_rfl] at g1
  have G1 : DataW.trod enc Tryd.prog W 0 sp hh m 4 [v1] = some y1 := g1
  clear g1
  have g2 : DataW.trod enc Tryd.prog W 0 sp hh m 3 (([v0, v1, v2, v3, v4].drop 2).take (Tryd.prog.cellsOf 3)) = some y2 := hf 2 _ rfl
  rw [show Tryd.prog.cellsOf 3 = 1 by kernel_rfl] at g2
  have G2 : DataW.trod enc Tryd.prog W 0 sp hh m 3 [v2] = some y2 := g2
  clear g2
  have g3 : DataW.trod enc Tryd.prog W 0 sp hh m 3 (([v0, v1, v2, v3, v4].drop 3).take (Tryd.prog.cellsOf 3)) = some y3 := hf 3 _ rfl
  rw [show Tryd.prog.cellsOf 3 = 1 by kernel_rfl] at g3
  have G3 : DataW.trod enc Tryd.prog W 0 sp hh m 3 [v3] = some y3 := g3
  clear g3
  have g4 : DataW.trod enc Tryd.prog W 0 sp hh m 3 (([v0, v1, v2, v3, v4].drop 4).take (Tryd.prog.cellsOf 3)) = some y4 := hf 4 _ rfl
  rw [show Tryd.prog.cellsOf 3 = 1 by kernel_rfl] at g4
  have G4 : DataW.trod enc Tryd.prog W 0 sp hh m 3 [v4] = some y4 := g4
  clear g4
  clear hf h
  obtain ⟨a0, h0, k0⟩ := DataW.trod_bool Tryd.underlying4 G0
  subst k0
  injection h0 with h0; subst h0
  simp only [DataW.lit.injEq, Lit.int.injEq, Lit.bool.injEq, true_and] at e0; subst e0
  obtain ⟨a1, h1, k1⟩ := DataW.trod_bool Tryd.underlying4 G1
  subst k1
  injection h1 with h1; subst h1
  simp only [DataW.lit.injEq, Lit.int.injEq, Lit.bool.injEq, true_and] at e1; subst e1
  obtain ⟨a2, h2, k2, _⟩ := DataW.trod_int Tryd.underlying3 G2
  subst k2
  injection h2 with h2; subst h2
  simp only [DataW.lit.injEq, Lit.int.injEq, Lit.bool.injEq, true_and] at e2; subst e2
  obtain ⟨a3, h3, k3, _⟩ := DataW.trod_int Tryd.underlying3 G3
  subst k3
  injection h3 with h3; subst h3
  simp only [DataW.lit.injEq, Lit.int.injEq, Lit.bool.injEq, true_and] at e3; subst e3
  obtain ⟨a4, h4, k4, _⟩ := DataW.trod_int Tryd.underlying3 G4
  subst k4
  injection h4 with h4; subst h4
  simp only [DataW.lit.injEq, Lit.int.injEq, Lit.bool.injEq, true_and] at e4; subst e4
  rfl
theorem planMore_dat_1 {W : World} {H : Type} {enc : TypeId × Value → H} {sp : Nat → Bool} {hh : Bool} {n : Nat} {cs : List Value} {x : DataW H × List MemPlace} (h : DataW.trod enc Tryd.prog W 0 sp hh n 78 cs = some x) (hd : x.1 = .agg [.lit (.int .i64 2), .agg [.lit (.bool true), .lit (.bool false), .lit (.int .i64 0), .lit (.int .i64 0), .lit (.int .i64 2)]]) : cs = [.int .i64 2, .bool true, .bool false, .int .i64 0, .int .i64 0, .int .i64 2] := by
  obtain ⟨xs, m, _, hx1, hl, hxl, hf⟩ := DataW.trod_struct Tryd.underlying78 h
  rw [show Tryd.prog.cellsOf 78 = 6 by kernel_rfl] at hl
  replace hxl : xs.length = 2 := hxl
  obtain ⟨v0, v1, v2, v3, v4, v5, rfl⟩ := lenN6 hl
  obtain ⟨y0, y1, rfl⟩ := lenN2 hxl
  subst hx1
  simp only [List.map_cons, List.map_nil, DataW.agg.injEq, List.cons.injEq, and_true] at hd
  obtain ⟨e0, e1⟩ := hd
  have g0 : DataW.trod enc Tryd.prog W 0 sp hh m 3 (([v0, v1, v2, v3, v4, v5].drop 0).take (Tryd.prog.cellsOf 3)) = some y0 := hf 0 _ rfl
  rw [show Tryd.prog.cellsOf 3 = 1 by kernel_rfl] at g0
  have G0 : DataW.trod enc Tryd.prog W 0 sp hh m 3 [v0] = some y0 := g0
  clear g0
  have g1 : DataW.trod enc Tryd.prog W 0 sp hh m 76 (([v0, v1, v2, v3, v4, v5].drop 1).take (Tryd.prog.cellsOf 76)) = some y1 := hf 1 _ rfl
  rw [show Tryd.prog.cellsOf 76 = 5 by kernel_rfl] at g1
  have G1 : DataW.trod enc Tryd.prog W 0 sp hh m 76 [v1, v2, v3, v4, v5] = some y1 := g1
  clear g1
  clear hf h
  obtain ⟨a0, h0, k0, _⟩ := DataW.trod_int Tryd.underlying3 G0
  subst k0
  injection h0 with h0; subst h0
  simp only [DataW.lit.injEq, Lit.int.injEq, Lit.bool.injEq, true_and] at e0; subst e0
  have q1 := planMore_dat_1_1 G1 e1
  simp only [List.cons.injEq, and_true] at q1
  obtain ⟨rfl, rfl, rfl, rfl, rfl⟩ := q1
  rfl
theorem planMore_dat {W : World} {H : Type} {enc : TypeId × Value → H} {sp : Nat → Bool} {hh : Bool} {n : Nat} {cs : List Value} {x : DataW H × List MemPlace} (h : DataW.trod enc Tryd.prog W 0 sp hh n 190 cs = some x) (hd : x.1 = .agg [.agg [.lit (.int .i64 1), .agg [.lit (.bool true), .lit (.bool true), .lit (.int .i64 0), .lit (.int .i64 1), .lit (.int .i64 2)]], .agg [.lit (.int .i64 2), .agg [.lit (.bool true), .lit (.bool false), .lit (.int .i64 0), .lit (.int .i64 0), .lit (.int .i64 2)]]]) : cs = [.int .i64 1, .bool true, .bool true, .int .i64 0, .int .i64 1, .int .i64 2, .int .i64 2, .bool true, .bool false, .int .i64 0, .int .i64 0, .int .i64 2] := by
  obtain ⟨xs, m, _, hx1, hl, hxl, hf⟩ := DataW.trod_array Tryd.underlying190 h
  rw [show Tryd.prog.cellsOf 190 = 12 by kernel_rfl] at hl
  replace hxl : xs.length = 2 := hxl
  obtain ⟨v0, v1, v2, v3, v4, v5, v6, v7, v8, v9, v10, v11, rfl⟩ := lenN12 hl
  obtain ⟨y0, y1, rfl⟩ := lenN2 hxl
  subst hx1
  simp only [List.map_cons, List.map_nil, DataW.agg.injEq, List.cons.injEq, and_true] at hd
  obtain ⟨e0, e1⟩ := hd
  have hc : Tryd.prog.cellsOf 78 = 6 := by kernel_rfl
  simp only [hc] at hf
  have g0 := hf 0 (by decide)
  have G0 : DataW.trod enc Tryd.prog W 0 sp hh m 78 [v0, v1, v2, v3, v4, v5] = some y0 := g0
  clear g0
  have g1 := hf 1 (by decide)
  have G1 : DataW.trod enc Tryd.prog W 0 sp hh m 78 [v6, v7, v8, v9, v10, v11] = some y1 := g1
  clear g1
  clear hf h
  have q0 := planMore_dat_0 G0 e0
  simp only [List.cons.injEq, and_true] at q0
  obtain ⟨rfl, rfl, rfl, rfl, rfl, rfl⟩ := q0
  have q1 := planMore_dat_1 G1 e1
  simp only [List.cons.injEq, and_true] at q1
  obtain ⟨rfl, rfl, rfl, rfl, rfl, rfl⟩ := q1
  rfl
theorem planMore_glob {W : World} (h : laidMetH Tryd.prog Rows.planMoreRow.laid W) : ∃ t, heapOf W 1 = some (.cells #[.int .i64 1, .bool true, .bool true, .int .i64 0, .int .i64 1, .int .i64 2, .int .i64 2, .bool true, .bool false, .int .i64 0, .int .i64 0, .int .i64 2] t) := by
  rw [MakeChecks.laidMetH_plain _ _ _ (by kernel_rfl)] at h
  obtain ⟨ps, ⟨g0, t0, cs0, f0, p0, q0, hg0, ht0, hv0, hd0, _, hps⟩, _, hrow⟩ := h
  obtain rfl := Option.some.inj ((show Tryd.prog.globalNamed "windrose/trait.first" = some 1 by kernel_rfl).symm.trans hg0)
  obtain rfl := Option.some.inj ((show (Tryd.prog.globals[1]?).map (·.type) = some 190 by kernel_rfl).symm.trans ht0)
  have hl := planMore_dat hd0 rfl
  have hcs : cs0 = #[.int .i64 1, .bool true, .bool true, .int .i64 0, .int .i64 1, .int .i64 2, .int .i64 2, .bool true, .bool false, .int .i64 0, .int .i64 0, .int .i64 2] := Array.toList_inj.1 hl
  subst hcs
  have hm : MemPlace.cell 1 0 ∈ ps := by rw [hps]; simp [MemPlace.row]
  obtain ⟨⟨c, t, hh⟩, _⟩ := hrow 1 0 hm
  have hv := hv0
  simp only [World.var?, hg0, Option.bind_some, hh] at hv
  injection hv with hv
  subst hv
  exact ⟨t, hh⟩

set_option maxRecDepth 100000 in
theorem planMore_lifted (os : Os) (started : os.Started) (H : Type) (enc : TypeId × Value → H) :
    ReturnsInHanded {} Tryd.checked os 12 .any (fun w args => (Rows.planMoreSpec.pre enc Tryd.prog Tryd.f12 [] false w args ∧ laidMetH Tryd.prog Rows.planMoreRow.laid w) ∧ sizedMet enc Tryd.prog Tryd.f12 (OpenSpec.ofChange Rows.planMoreSpec) false w args)
      (Rows.planMoreSpec.post enc Tryd.prog Tryd.f12 false true false false) := by
  refine returnsInHanded_of_change_and (C := Tryd.checked) (X := fun w _ => laidMetH Tryd.prog Rows.planMoreRow.laid w) (fun _ _ _ hh h => h.of_heap hh) planMore_own started (by kernel_rfl) Tryd.func12
    (ChangeSpec.witness_shaped (enc := enc) (C := Tryd.checked) (os := os) (X := fun w _ => laidMetH Tryd.prog Rows.planMoreRow.laid w) false (World.doorLaid Tryd.prog 400 os) #[.slice none 0 0, .slice none 0 0, .agg #[.slice none 0 0, .slice none 0 0]] 8 rfl (World.shaped_of_RefB (by kernel_rfl) (by kernel_rfl)) (by kernel_rfl) (by kernel_rfl) (by kernel_rfl) (planMore_met os _)) ?_
  intro W base args ds gs before hval0 hW _ _ hL _
  have hval : ∀ (j : Nat) t v, Tryd.f12.params[j]? = some t → args[j]? = some v → Value.okWide Tryd.prog W .any base t v := hval0
  have hW' := hW
  obtain ⟨p, q, hA0, hV, rfl, hfz, hnd⟩ := hW
  have hA : DataW.TrodAll enc Tryd.prog W 0 (fun _ => true) true Tryd.f12.params.toList args.toList ds p := hA0
  rw [Tryd.params12] at hA hval
  clear hA0 hval0
  obtain ⟨v0, vs0, d0, ds0, p0, q0, e0, rfl, rfl, h0, r0⟩ := trodAll_cons hA
  obtain ⟨v1, vs1, d1, ds1, p1, q1, e1, rfl, rfl, h1, r1⟩ := trodAll_cons r0
  subst e1
  obtain ⟨v2, vs2, d2, ds2, p2, q2, e2, rfl, rfl, h2, r2⟩ := trodAll_cons r1
  subst e2
  obtain ⟨e3, rfl, rfl⟩ := trodAll_nil r2
  subst e3
  obtain rfl : args = #[v0, v1, v2] := by cases args; simp_all
  obtain ⟨rfl, rfl⟩ := trodVars_none hV
  obtain ⟨xs0, hr0, hw0⟩ := open_sl Tryd.underlying59 (Opn.slice Tryd.underlying59 (by kernel_rfl) opn78 (by decide)) (hval 0 59 v0 rfl rfl) h0
  obtain ⟨xs1, hr1, hw1⟩ := open_sl Tryd.underlying60 (Opn.slice Tryd.underlying60 (by kernel_rfl) opn73 (by decide)) (hval 1 60 v1 rfl rfl) h1
  obtain ⟨cs2, x2, rfl, hx2, hw2⟩ := open_agg (.inr ⟨_, _, Tryd.underlying96⟩) opn96 (hval 2 96 v2 rfl rfl) h2
  obtain ⟨u2_0, u2_1, e2_, r2_0, r2_1⟩ := hx2
  obtain rfl : cs2 = #[u2_0, u2_1] := Array.toList_inj.1 e2_
  have hpar : ∀ t ∈ Tryd.f12.params.toList, Tryd.prog.readableRec t = true ∧ t < Tryd.prog.types.size := by
    intro t ht
    rw [Tryd.params12] at ht
    simp only [List.mem_cons, List.not_mem_nil, or_false] at ht
    rcases ht with rfl | rfl | rfl
    · exact ⟨by kernel_rfl, of_decide_eq_true (by kernel_rfl)⟩
    · exact ⟨by kernel_rfl, of_decide_eq_true (by kernel_rfl)⟩
    · exact ⟨by kernel_rfl, of_decide_eq_true (by kernel_rfl)⟩
  obtain ⟨tG, hG⟩ := planMore_glob hL
  refine (calls_of_Fv Tryd.func12 rfl (by kernel_rfl) (Fv.to (windroselaw20_PlanMore_c _ hG _ xs0 hr0 _ xs1 hr1 x2 _ r2_0 _ r2_1) (congrArg Value.bool (planMore_true _ _ _)))).mono fun e W' ⟨he, hb⟩ => ?_
  subst he
  exact ⟨_, rfl, post_true planMore_laid hW' rfl hpar rfl rfl Tryd.underlying4 hb⟩

theorem planMore_holds : Rows.PlanMoreSaid :=
  OpenClaim.holds_of_wide 12 Tryd.f12 rfl rfl rfl rfl rfl rfl rfl ⟨rfl, rfl, rfl, rfl, rfl⟩ rfl rfl rfl rfl rfl (by kernel_rfl) Tryd.func12 (by kernel_rfl)
    (of_decide_eq_true (by kernel_rfl)) (by unfold Func.isWrapper; first | (rw [if_pos (by decide +kernel)]; kernel_rfl) | (rw [if_neg (by decide +kernel)]; exact ⟨rfl, rfl⟩))
    (fun os started H enc _ => planMore_lifted os started H enc)

theorem planMore_card : Rows.PlanMoreCardSaid :=
  Claim7.holds_tied_plain_at .later [] [.widerDeep] true (true, "c812bd16461893b59ff1c9b11575473a3dd7f925cadaefe779c83152ab813434") false
    planMore_holds (fun _ h => by cases h) (by kernel_rfl) (fun _ h => by cases h) planMore_row_tie rfl ⟨rfl, rfl⟩ (by kernel_rfl) rfl
    (fun f fn hf hfn => by
      obtain rfl : f = 12 := Option.some.inj ((show Tryd.prog.funcNamed "windrose/windroselaw20.PlanMore" = some 12 by kernel_rfl).symm.trans hf) |>.symm
      obtain rfl : fn = Tryd.f12 := (Option.some.inj (Tryd.func12.symm.trans hfn)).symm
      exact ⟨by kernel_rfl, fun j t ht => by
        rw [Tryd.params12] at ht
        have hm : t ∈ [59, 60, 96] := by simpa using Array.mem_of_getElem? ht
        have hall : ([59, 60, 96].all fun u => !Tryd.prog.wantsStandIn u) = true := by kernel_rfl
        exact (show Tryd.prog.wantsStandIn t = false by simpa using List.all_eq_true.1 hall t hm)⟩)
    (by kernel_rfl)
end Go.Proofs.YtmhoclmjgjopfaaDoor
