/- 'PlanCloses' answers true, whatever it is handed, and what it is handed reads behind it as it did: the row, and its tied card. -/
import Derived.RangeFuncNested
import Derived.RangeFuncBound
import Derived.RangeFuncCalls
import Derived.RangeFuncLeaves
import Derived.Shelf.Abstract
import Derived.Laws.AppendOwn
import Derived.Laws.OwnMore
import Derived.KernelRfl
import Derived.IntWalk
import Derived.Laws.Append
import Derived.WideLaws
import Derived.Laws.Slices
import Derived.Laws.MakeOwn
import Derived.OrdersIn
import Derived.Laws.Cover3
import Derived.Test.YtmhoclmjgjopfaaDoorProg
import Derived.Laws.StructEq
import Derived.Shelf.Sort.Plain
import Derived.Sort.OwnSortedInts
import Derived.Shelf.Slices.In.SortNone
import Derived.Shelf.Slices.CompactI
import Derived.ProofKit
import Derived.ChangeSlices
import Derived.Carry
import Derived.Deep.Slices
import Derived.OpenShut
import Derived.Test.YtmhoclmjgjopfaaDoorCards
import Derived.Test.YtmhoclmjgjopfaaDoorTie
import Derived.LaidMore
import Derived.Stop.Joined
import Derived.MakeChecks
import Derived.Test.YtmhoclmjgjopfaaDoorKC4
set_option linter.unusedVariables false
set_option linter.unusedSimpArgs false
namespace Go.SX
open Go Go.ChangeShapes Go.WideShapes Go.ChangeAt Go.RowKit

/-- All that stands in a world's memory can be read. -/
def heapOf (W : World) : Heap := fun b => W.heap[b]?
theorem sat_heapOf (W : World) : Sat (heapOf W) [] W := ⟨fun _ _ h => h, fun p h => (by cases h), List.nodup_nil, fun p h => (by cases h)⟩

/-- A contract of a function that hands back v, at a world. -/
theorem calls_of_Fv {P : Program} {f : FuncId} {fn : Func} {c : Code} {vs : List Value} {v : Value} {W : World} (hf : P.funcs[f]? = some fn) (hb : fn.body = some c) (hname : (fn.name == "runtime.NumGoroutine") = false)
    (h : Fv P (fnv f) vs (heapOf W) v) : Calls P f vs.toArray W fun e W' => e = .returned v ∧ Below W.heap.size W W' := by
  obtain ⟨nx, w1, h1, h2⟩ := h W (sat_heapOf W)
  have he := Go.Proofs.enters_of (P := P) hf hname hb vs.toArray W
  have hrun : Sem.run P (do let d ← Deferred.ofValue (fnv f) vs.toArray; invoke d.target d.args) W = .ok (.enter f vs.toArray) W := by
    simp [Deferred.ofValue, invoke, he]
  rw [hrun] at h1
  injection h1 with h1 h3
  subst h1; subst h3
  refine callsIn_wide.1 (CallsIn.mono h2 ?_)
  rintro e w' ⟨u, H', L', rfl, hst, rfl, rfl⟩
  exact ⟨rfl, hst.chg.os, hst.chg.tape, hst.chg.output, hst.chg.size, fun b hb => hst.chg.same b hb (by simp [keys])⟩

section
variable {H : Type} {enc : TypeId × Value → H} {P : Program}

theorem trodAll_below (hl : laidOutB P = true) {W W' : World} (hb : Below W.heap.size W W') {sp : Nat → Bool} : ∀ {ts : List TypeId} {vs : List Value} {ds : List (DataW H)} {p : List MemPlace},
    (∀ t ∈ ts, P.readableRec t = true ∧ t < P.types.size) → DataW.TrodAll enc P W 0 (fun _ => true) true ts vs ds p → (∀ q ∈ p, q.block < W.heap.size ∧ sp q.block = true) → DataW.TrodAll enc P W' 0 sp true ts vs ds p
  | [], _, _, _, _, h, _ => by
    obtain ⟨rfl, rfl, rfl⟩ := trodAll_nil h
    exact trodAll_mk0
  | t :: ts, _, _, _, ht, h, hp => by
    obtain ⟨v, vs, d, ds, a, b, rfl, rfl, rfl, h1, h2⟩ := trodAll_cons h
    have h3 := WideElems.Trod_stays (sp' := sp) hl (ht t (List.mem_cons_self ..)).1 (ht t (List.mem_cons_self ..)).2 h1 (fun x hx => hb.same (hp x (List.mem_append_left _ hx)).1) (fun x hx => (hp x (List.mem_append_left _ hx)).2)
    exact ⟨a, b, h3, trodAll_below hl hb (fun t' h' => ht t' (List.mem_cons_of_mem _ h')) h2 (fun x hx => hp x (List.mem_append_right _ hx)), rfl⟩

/-- What is asked behind a call that turned nothing of what there was, and says true. -/
theorem post_true {f : Func} {s : ChangeSpec} {fresh handsOn again : Bool} {W W' : World} {args : Array Value} {ds gs : List (DataW H)} {before : List MemPlace} {tb : TypeId} (hl : laidOutB P = true)
    (hW : DataW.Whole enc P f.params.toList s.vars false W args.toList ds gs before) (hvars : s.vars = []) (hpar : ∀ t ∈ f.params.toList, P.readableRec t = true ∧ t < P.types.size)
    (hs : s.fn H (ds ++ gs) = { results := [.lit (.bool true)], args := ds }) (hrt : f.resultTypes = #[tb]) (htb : P.underlying tb = some .bool) (hb : Below W.heap.size W W') :
    s.post enc P f false fresh handsOn again W args (.bool true) W' := by
  have hlt := hW.lt
  have hW0 := hW
  obtain ⟨p, q, hA, hV, rfl, hfz, hnd⟩ := hW
  rw [hvars] at hV
  obtain ⟨rfl, rfl⟩ := trodVars_none hV
  rw [List.append_nil] at hfz hlt
  have hres : ∀ (b : Nat) (sp : Nat → Bool) (hd : Bool), DataW.TrodAll enc P W' b sp hd f.resultTypes.toList ((Value.bool true).resultList f.resultTypes.size) [.lit (.bool true)] [] := by
    intro b sp hd
    rw [hrt]
    exact trodAll_mk1 (shut_bool htb true)
  have hargs : ∀ sp : Nat → Bool, (∀ x ∈ p, sp x.block = true) → DataW.TrodAll enc P W' 0 sp true f.params.toList args.toList ds p := fun sp hsp =>
    trodAll_below hl hb hpar hA (fun x hx => ⟨hlt x hx, hsp x hx⟩)
  have hvr : ∀ sp : Nat → Bool, DataW.TrodVars enc P W' sp s.vars ([] : List (DataW H)) [] := fun sp => by rw [hvars]; rfl
  refine ⟨ds, [], p ++ [], [], p, [], hW0, ?_, ?_, ?_, World.keptBut_mono (fun x hx => ⟨hx, ?_⟩) (hb.frame (· ∈ p ++ [])), fun _ => ?_⟩
  · rw [hs]; exact hres _ _ _
  · rw [hs]; exact hargs _ (fun x hx => by simpa using hlt x hx)
  · rw [hs]; exact hvr _
  · exact Or.inr (by simpa using hx)
  · refine ⟨ok_one hrt rfl (okWide_bool_mk htb true), _, _, ([] ++ p) ++ [], ⟨[] ++ p, [], trodAll_append (hargs _ (fun _ _ => rfl)) (hres _ _ _), hvr _, rfl, ?_, fun h => by cases h⟩, ?_⟩
    · intro b off hp
      have hp' : MemPlace.cell b off ∈ p := by simpa using hp
      have := hb.frozen (p := ⟨b, off, none⟩) (hlt _ hp')
      rw [this]
      exact hfz b off hp'
    · intro x hx _
      simpa using hx

theorem cellAt_heapOf {W : World} {b o : Nat} {v : Value} (h : W.cell? ⟨b, o, none⟩ = some v) : cellAt (heapOf W) b o = some v := by
  unfold World.cell? at h
  unfold cellAt heapOf
  simp only at h
  revert h
  cases hb : W.heap[b]? with
  | none => intro h; simp at h
  | some ob => cases ob <;> intro h <;> simp_all

end
end Go.SX

set_option linter.unusedVariables false
set_option linter.unusedSimpArgs false
namespace Go.SX
open Go Go.ChangeShapes Go.WideShapes Go.ChangeAt Go.RowKit Go.Deep
/-- What can be read at the type stands as E says. -/
def Opn (P : Program) (t : TypeId) {α : Type} (E : ER α) (Q : α → Prop) : Prop :=
  ∀ (H : Type) (enc : TypeId × Value → H) (W : World) (sp : Nat → Bool) (hd : Bool) (n : Nat) (cs : List Value) (x : DataW H × List MemPlace), DataW.trod enc P W 0 sp hd n t cs = some x → ∃ a, E.R (heapOf W) cs a ∧ Q a
theorem Opn.int {P : Program} {t : TypeId} {k : IntKind} (ht : P.underlying t = some (.int k)) : Opn P t (intE k) (fun x => (Lit.int k x).wf = true) := fun H enc W sp hd n cs x h => by
  obtain ⟨n, rfl, _, hw⟩ := DataW.trod_int ht h
  exact ⟨n, rfl, hw⟩
theorem Opn.bool {P : Program} {t : TypeId} (ht : P.underlying t = some .bool) : Opn P t boolE (fun _ => True) := fun H enc W sp hd n cs x h => by
  obtain ⟨b, rfl, _⟩ := DataW.trod_bool ht h
  exact ⟨b, rfl, trivial⟩
theorem Opn.weak {P : Program} {t : TypeId} {α : Type} {E : ER α} {Q Q' : α → Prop} (h : Opn P t E Q) (hq : ∀ a, Q a → Q' a) : Opn P t E Q' := fun H enc W sp hd n cs x hx => by
  obtain ⟨a, h1, h2⟩ := h H enc W sp hd n cs x hx
  exact ⟨a, h1, hq a h2⟩
/-- A struct of two ints. -/
theorem Opn.pair {P : Program} {t i : TypeId} {f0 f1 : Field} (ht : P.underlying t = some (.struct #[f0, f1])) (ct : P.cellsOf t = 2) (o0 : f0.offset = 0) (o1 : f1.offset = 1) (t0 : f0.type = i) (t1 : f1.type = i)
    (hi : P.underlying i = some (.int .i64)) (ci : P.cellsOf i = 1) : Opn P t pairE (fun _ => True) := fun H enc W sp hd n cs x h => by
  obtain ⟨xs, m, _, _, hl, hxl, hf⟩ := DataW.trod_struct ht h
  rw [ct] at hl
  match cs, hl, xs, hxl with
  | [v0, v1], _, [y0, y1], _ =>
    have g0 := hf 0 f0 rfl
    have g1 := hf 1 f1 rfl
    rw [o0, t0, ci] at g0
    rw [o1, t1, ci] at g1
    simp at g0 g1
    obtain ⟨a, ha, _⟩ := DataW.trod_int hi g0
    obtain ⟨b, hb, _⟩ := DataW.trod_int hi g1
    simp at ha hb
    subst ha; subst hb
    exact ⟨(a, b), rfl, trivial⟩
/-- An array of two ints. -/
theorem Opn.two {P : Program} {t i : TypeId} (ht : P.underlying t = some (.array 2 i)) (ct : P.cellsOf t = 2) (hi : P.underlying i = some (.int .i64)) (ci : P.cellsOf i = 1) : Opn P t pairE (fun _ => True) := fun H enc W sp hd n cs x h => by
  obtain ⟨xs, m, _, _, hl, hxl, hf⟩ := DataW.trod_array ht h
  rw [ct] at hl
  match cs, hl, xs, hxl with
  | [v0, v1], _, [y0, y1], _ =>
    have g0 := hf 0 (by omega)
    have g1 := hf 1 (by omega)
    rw [ci] at g0 g1
    simp at g0 g1
    obtain ⟨a, ha, _⟩ := DataW.trod_int hi g0
    obtain ⟨b, hb, _⟩ := DataW.trod_int hi g1
    simp at ha hb
    subst ha; subst hb
    exact ⟨(a, b), rfl, trivial⟩
/-- A slice. -/
theorem Opn.slice {P : Program} {t e : TypeId} {α : Type} {E : ER α} {Q : α → Prop} (ht : P.underlying t = some (.slice e)) (hc : P.cellsOf e = E.size) (he : Opn P e E Q) (hs : 0 < E.size) : Opn P t (slE E) (fun xs => ∀ x ∈ xs, Q x) := fun H enc W sp hd n cs x h => by
  rcases open_slice ht h with ⟨rfl, _⟩ | ⟨a, len, cap, m, n', D, Pl, rfl, _, hl, hm, hmm, _, hx⟩
  · exact ⟨[], ⟨_, rfl, RdS.nil⟩, fun x hx => by simp at hx⟩
  · have key : ∀ i, i < len → ∃ x, (∃ b o, a = ⟨b, o, none⟩ ∧ ElemAt E (heapOf W) b (o + i * E.size) x) ∧ Q x := fun i hi => by
      obtain ⟨cs', h1, h2⟩ := hx i (by rw [hmm]; split <;> omega)
      obtain ⟨x, h3, h4⟩ := he H enc W sp hd n' cs' _ h2
      refine ⟨x, ?_, h4⟩
      rw [hc] at h1
      obtain ⟨_, hlen, hcell⟩ := World.cells?_some h1
      obtain ⟨ab, ao, asp⟩ := a
      cases asp with
      | none =>
        refine ⟨ab, ao, rfl, cs', h3, fun j u hj => ?_⟩
        have hjl : j < E.size := by rw [← hlen]; exact (List.getElem?_eq_some_iff.1 hj).1
        have h5 := hcell j hjl
        rw [hj, add_add, Addr.add_lit] at h5
        have := cellAt_heapOf h5
        rw [show ao + i * E.size + j = ao + (i * E.size + j) by omega]
        exact this
      | some s =>
        exfalso
        obtain ⟨cs0, k1, _⟩ := hx 0 (by rw [hmm]; split <;> omega)
        rw [hc, Nat.zero_mul, Addr.add_zero'] at k1
        obtain ⟨_, klen, kcell⟩ := World.cells?_some k1
        have h5 := kcell 0 hs
        rw [Addr.add_zero'] at h5
        obtain ⟨u, hu⟩ : ∃ u, cs0[0]? = some u := ⟨cs0[0], List.getElem?_eq_getElem (by omega)⟩
        rw [hu] at h5
        unfold World.cell? at h5
        revert h5
        cases hb : W.heap[ab]? with
        | none => intro h; simp [hb] at h
        | some ob => cases ob <;> intro h <;> simp [hb] at h
    obtain ⟨f, hf⟩ : ∃ f : Nat → Option α, ∀ i, i < len → ∃ x, f i = some x ∧ (∃ b o, a = ⟨b, o, none⟩ ∧ ElemAt E (heapOf W) b (o + i * E.size) x) ∧ Q x := by
      classical
      refine ⟨fun i => if hi : i < len then some (Classical.choose (key i hi)) else none, fun i hi => ?_⟩
      exact ⟨_, dif_pos hi, Classical.choose_spec (key i hi)⟩
    have hxs : ∀ n, n ≤ len → ∃ xs : List α, xs.length = n ∧ ∀ i, i < n → xs[i]? = f i := fun n => by
      induction n with
      | zero => exact fun _ => ⟨[], rfl, fun i hi => absurd hi (Nat.not_lt_zero _)⟩
      | succ n ih =>
        intro hn
        obtain ⟨xs, h1, h2⟩ := ih (by omega)
        obtain ⟨x, h3, _⟩ := hf n (by omega)
        refine ⟨xs ++ [x], by simp [h1], fun i hi => ?_⟩
        by_cases h : i < n
        · rw [List.getElem?_append_left (by omega)]; exact h2 i h
        · obtain rfl : i = n := by omega
          rw [List.getElem?_append_right (by omega), h1, Nat.sub_self, h3]; rfl
    obtain ⟨xs, h1, h2⟩ := hxs len (Nat.le_refl _)
    subst h1
    refine ⟨xs, ⟨_, rfl, some a, cap, rfl, hl, hm, fun i x hx => ?_⟩, fun x hx => ?_⟩
    · have hi : i < xs.length := (List.getElem?_eq_some_iff.1 hx).1
      obtain ⟨y, h3, ⟨b, o, h4, h5⟩, _⟩ := hf i hi
      rw [h2 i hi, h3] at hx
      injection hx with hx
      subst hx
      exact ⟨b, o, by rw [h4], h5⟩
    · obtain ⟨i, hi, rfl⟩ := List.mem_iff_getElem.1 hx
      obtain ⟨y, h3, _, h4⟩ := hf i hi
      have := h2 i hi
      rw [h3, List.getElem?_eq_getElem hi] at this
      injection this with this
      rw [this]; exact h4
section
variable {P : Program} {H : Type} {enc : TypeId × Value → H} {W : World} {r : Reach} {b0 : Nat} {t : TypeId} {v : Value} {d : DataW H} {p : List MemPlace} {α : Type} {E : ER α} {Q : α → Prop}
/-- A slice that is handed in. -/
theorem open_sl {e : TypeId} (ht : P.underlying t = some (.slice e)) (ho : Opn P t (slE E) (fun xs => ∀ x ∈ xs, Q x)) (hval : Value.okWide P W r b0 t v) (h : DataW.Trod enc P W 0 (fun _ => true) true t v d p) :
    ∃ xs : List α, RdS E (heapOf W) v xs ∧ ∀ x ∈ xs, Q x := by
  obtain ⟨a0, len, cap, rfl⟩ := okWide_slice ht hval
  obtain ⟨n, hn⟩ := h
  obtain ⟨xs, ⟨u, h1, h2⟩, h3⟩ := ho H enc W _ _ n _ _ hn
  have : Value.slice a0 len cap = u := by simpa [Value.cells] using h1
  rw [this]
  exact ⟨xs, h2, h3⟩
end
end Go.SX

set_option linter.unusedVariables false
set_option linter.unusedSimpArgs false
namespace Go.SX
open Go Go.ChangeShapes Go.WideShapes Go.ChangeAt Go.RowKit Go.Proofs
def traitsE : ER (Bool × Bool × Int × Int × Int) where
  size := 5
  R := fun _ cs x => cs = [.bool x.1, .bool x.2.1, .int .i64 x.2.2.1, .int .i64 x.2.2.2.1, .int .i64 x.2.2.2.2]
  len := fun h => by subst h; rfl
  mono := fun _ h => h
  one := fun h v hv => by subst h; simp only [List.mem_cons, List.not_mem_nil, or_false] at hv; rcases hv with rfl | rfl | rfl | rfl | rfl <;> rfl

theorem lenN2 {α : Type} {l : List α} (h : l.length = 2) : ∃ v0 v1, l = [v0, v1] := by
  match l, h with
  | [v0, v1], _ => exact ⟨v0, v1, rfl⟩
theorem lenN5 {α : Type} {l : List α} (h : l.length = 5) : ∃ v0 v1 v2 v3 v4, l = [v0, v1, v2, v3, v4] := by
  match l, h with
  | [v0, v1, v2, v3, v4], _ => exact ⟨v0, v1, v2, v3, v4, rfl⟩
theorem lenN6 {α : Type} {l : List α} (h : l.length = 6) : ∃ v0 v1 v2 v3 v4 v5, l = [v0, v1, v2, v3, v4, v5] := by
  match l, h with
  | [v0, v1, v2, v3, v4, v5], _ => exact ⟨v0, v1, v2, v3, v4, v5, rfl⟩
theorem lenN12 {α : Type} {l : List α} (h : l.length = 12) : ∃ v0 v1 v2 v3 v4 v5 v6 v7 v8 v9 v10 v11, l = [v0, v1, v2, v3, v4, v5, v6, v7, v8, v9, v10, v11] := by
  match l, h with
  | [v0, v1, v2, v3, v4, v5, v6, v7, v8, v9, v10, v11], _ => exact ⟨v0, v1, v2, v3, v4, v5, v6, v7, v8, v9, v10, v11, rfl⟩
theorem opn76 : Opn Tryd.prog 76 traitsE (fun x => ((True) ∧ (True) ∧ ((Lit.int .i64 x.2.2.1).wf = true) ∧ ((Lit.int .i64 x.2.2.2.1).wf = true) ∧ ((Lit.int .i64 x.2.2.2.2).wf = true))) := fun H enc W sp hd n cs x h => by
  obtain ⟨xs, m, _, _, hl, hxl, hf⟩ := DataW.trod_struct Tryd.underlying76 h
  rw [show Tryd.prog.cellsOf 76 = 5 by kernel_rfl] at hl
  replace hxl : xs.length = 5 := hxl
  obtain ⟨v0, v1, v2, v3, v4, rfl⟩ := lenN5 hl
  obtain ⟨y0, y1, y2, y3, y4, rfl⟩ := lenN5 hxl
  have g0 : DataW.trod enc Tryd.prog W 0 sp hd m 4 (([v0, v1, v2, v3, v4].drop 0).take (Tryd.prog.cellsOf 4)) = some y0 := hf 0 _ rfl
  rw [show Tryd.prog.cellsOf 4 = 1 by kernel_rfl] at g0
  simp only [List.drop, List.take] at g0
  have g1 : DataW.trod enc Tryd.prog W 0 sp hd m 4 (([v0, v1, v2, v3, v4].drop 1).take (Tryd.prog.cellsOf 4)) = some y1 := hf 1 _ rfl
  rw [show Tryd.prog.cellsOf 4 = 1 by kernel_rfl] at g1
  simp only [List.drop, List.take] at g1
  have g2 : DataW.trod enc Tryd.prog W 0 sp hd m 3 (([v0, v1, v2, v3, v4].drop 2).take (Tryd.prog.cellsOf 3)) = some y2 := hf 2 _ rfl
  rw [show Tryd.prog.cellsOf 3 = 1 by kernel_rfl] at g2
  simp only [List.drop, List.take] at g2
  have g3 : DataW.trod enc Tryd.prog W 0 sp hd m 3 (([v0, v1, v2, v3, v4].drop 3).take (Tryd.prog.cellsOf 3)) = some y3 := hf 3 _ rfl
  rw [show Tryd.prog.cellsOf 3 = 1 by kernel_rfl] at g3
  simp only [List.drop, List.take] at g3
  have g4 : DataW.trod enc Tryd.prog W 0 sp hd m 3 (([v0, v1, v2, v3, v4].drop 4).take (Tryd.prog.cellsOf 3)) = some y4 := hf 4 _ rfl
  rw [show Tryd.prog.cellsOf 3 = 1 by kernel_rfl] at g4
  simp only [List.drop, List.take] at g4
  obtain ⟨x0, h0, _⟩ := DataW.trod_bool Tryd.underlying4 g0
  injection h0 with h0; subst h0
  obtain ⟨x1, h1, _⟩ := DataW.trod_bool Tryd.underlying4 g1
  injection h1 with h1; subst h1
  obtain ⟨x2, h2, _, w2⟩ := DataW.trod_int Tryd.underlying3 g2
  injection h2 with h2; subst h2
  obtain ⟨x3, h3, _, w3⟩ := DataW.trod_int Tryd.underlying3 g3
  injection h3 with h3; subst h3
  obtain ⟨x4, h4, _, w4⟩ := DataW.trod_int Tryd.underlying3 g4
  injection h4 with h4; subst h4
  exact ⟨(x0, x1, x2, x3, x4), rfl, ⟨trivial, trivial, w2, w3, w4⟩⟩
theorem opn78 : Opn Tryd.prog 78 relationE (fun x => (((Lit.int .i64 x.1).wf = true) ∧ (((True) ∧ (True) ∧ ((Lit.int .i64 x.2.2.2.1).wf = true) ∧ ((Lit.int .i64 x.2.2.2.2.1).wf = true) ∧ ((Lit.int .i64 x.2.2.2.2.2).wf = true))))) := fun H enc W sp hd n cs x h => by
  obtain ⟨xs, m, _, _, hl, hxl, hf⟩ := DataW.trod_struct Tryd.underlying78 h
  rw [show Tryd.prog.cellsOf 78 = 6 by kernel_rfl] at hl
  replace hxl : xs.length = 2 := hxl
  obtain ⟨v0, v1, v2, v3, v4, v5, rfl⟩ := lenN6 hl
  obtain ⟨y0, y1, rfl⟩ := lenN2 hxl
  have g0 : DataW.trod enc Tryd.prog W 0 sp hd m 3 (([v0, v1, v2, v3, v4, v5].drop 0).take (Tryd.prog.cellsOf 3)) = some y0 := hf 0 _ rfl
  rw [show Tryd.prog.cellsOf 3 = 1 by kernel_rfl] at g0
  simp only [List.drop, List.take] at g0
  have g1 : DataW.trod enc Tryd.prog W 0 sp hd m 76 (([v0, v1, v2, v3, v4, v5].drop 1).take (Tryd.prog.cellsOf 76)) = some y1 := hf 1 _ rfl
  rw [show Tryd.prog.cellsOf 76 = 5 by kernel_rfl] at g1
  simp only [List.drop, List.take] at g1
  obtain ⟨x0, h0, _, w0⟩ := DataW.trod_int Tryd.underlying3 g0
  injection h0 with h0; subst h0
  obtain ⟨x1, h1, w1⟩ := opn76 H enc W sp hd _ _ _ g1
  obtain ⟨rfl, rfl, rfl, rfl, rfl⟩ : v1 = .bool x1.1 ∧ v2 = .bool x1.2.1 ∧ v3 = .int .i64 x1.2.2.1 ∧ v4 = .int .i64 x1.2.2.2.1 ∧ v5 = .int .i64 x1.2.2.2.2 := by have h := h1; simp only [traitsE] at h; simpa using h
  exact ⟨(x0, x1), rfl, ⟨w0, w1⟩⟩
theorem opn73 : Opn Tryd.prog 73 heldE (fun x => (((Lit.int .i64 x.1).wf = true) ∧ ((Lit.int .u64 x.2).wf = true))) := fun H enc W sp hd n cs x h => by
  obtain ⟨xs, m, _, _, hl, hxl, hf⟩ := DataW.trod_struct Tryd.underlying73 h
  rw [show Tryd.prog.cellsOf 73 = 2 by kernel_rfl] at hl
  replace hxl : xs.length = 2 := hxl
  obtain ⟨v0, v1, rfl⟩ := lenN2 hl
  obtain ⟨y0, y1, rfl⟩ := lenN2 hxl
  have g0 : DataW.trod enc Tryd.prog W 0 sp hd m 3 (([v0, v1].drop 0).take (Tryd.prog.cellsOf 3)) = some y0 := hf 0 _ rfl
  rw [show Tryd.prog.cellsOf 3 = 1 by kernel_rfl] at g0
  simp only [List.drop, List.take] at g0
  have g1 : DataW.trod enc Tryd.prog W 0 sp hd m 32 (([v0, v1].drop 1).take (Tryd.prog.cellsOf 32)) = some y1 := hf 1 _ rfl
  rw [show Tryd.prog.cellsOf 32 = 1 by kernel_rfl] at g1
  simp only [List.drop, List.take] at g1
  obtain ⟨x0, h0, _, w0⟩ := DataW.trod_int Tryd.underlying3 g0
  injection h0 with h0; subst h0
  obtain ⟨x1, h1, _, w1⟩ := DataW.trod_int Tryd.underlying32 g1
  injection h1 with h1; subst h1
  exact ⟨(x0, x1), rfl, ⟨w0, w1⟩⟩

end Go.SX
namespace Go.Proofs.YtmhoclmjgjopfaaDoor
open Go.ChangeShapes Go.WideShapes Go.ChangeAt Go.RowKit Go.SX

theorem planCloses_own : ownKnob Tryd.prog.godebug = none := by kernel_rfl
theorem planCloses_laid : laidOutB Tryd.prog = true := by kernel_rfl
theorem planCloses_met (os : Os) (args : Array Value) : laidMetH Tryd.prog Rows.planClosesRow.laid ((World.doorLaid Tryd.prog 400 os).forCall (fun _ _ => 0) ⟨#[], args, []⟩).memory :=
  laidMetH_of_parts3 (fuel := 12) (laidMet_of_run' 12 (by kernel_rfl) (by kernel_rfl)) (by kernel_rfl) (by kernel_rfl)
theorem planCloses_dat_0_1 {W : World} {H : Type} {enc : TypeId × Value → H} {sp : Nat → Bool} {hh : Bool} {n : Nat} {cs : List Value} {x : DataW H × List MemPlace} (h : DataW.trod enc Tryd.prog W 0 sp hh n 76 cs = some x) (hd : x.1 = .agg [.lit (.bool true), .lit (.bool true), .lit (.int .i64 0), .lit (.int .i64 1), .lit (.int .i64 2)]) : cs = [.bool true, .bool true, .int .i64 0, .int .i64 1, .int .i64 2] := by
  obtain ⟨xs, m, _, hx1, hl, hxl, hf⟩ := DataW.trod_struct Tryd.underlying76 h
  rw [show Tryd.prog.cellsOf 76 = 5 by kernel_rfl] at hl
  replace hxl : xs.length = 5 := hxl
  obtain ⟨v0, v1, v2, v3, v4, rfl⟩ := lenN5 hl
  obtain ⟨y0, y1, y2, y3, y4, rfl⟩ := lenN5 hxl
  subst hx1
  simp only [List.map_cons, List.map_nil, DataW.agg.injEq, List.cons.injEq, and_true] at hd
  obtain ⟨e0, e1, e2, e3, e4⟩ := hd
  have g0 : DataW.trod enc Tryd.prog W 0 sp hh m 4 (([v0, v1, v2, v3, v4].drop 0).take (Tryd.prog.cellsOf 4)) = some y0 := hf 0 _ rfl
  rw [show Tryd.prog.cellsOf 4 = 1 by kernel_rfl] at g0
  have G0 : DataW.trod enc Tryd.prog W 0 sp hh m 4 [v0] = some y0 := g0
  clear g0
  have g1 : DataW.trod enc Tryd.prog W 0 sp hh m 4 (([v0, v1, v2, v3, v4].drop 1).take (Tryd.prog.cellsOf 4)) = some y1 := hf 1 _ rfl
  rw [show Tryd.prog.cellsOf 4 = 1 by kernel_rfl] at g1
  have G1 : DataW.trod enc Tryd.prog W 0 sp hh m 4 [v1] = some y1 := g1
  clear g1
  have g2 : DataW.trod enc Tryd.prog W 0 sp hh m 3 (([v0, v1, v2, v3, v4].drop 2).take (Tryd.prog.cellsOf 3)) = some y2 := hf 2 _ rfl
  rw [show Tryd.prog.cellsOf 3 = 1 by kernel_rfl] at g2
  have G2 : DataW.trod enc Tryd.prog W 0 sp hh m 3 [v2] = some y2 := g2
  clear g2
  have g3 : DataW.trod enc Tryd.prog W 0 sp hh m 3 (([v0, v1, v2, v3, v4].drop 3).take (Tryd.prog.cellsOf 3)) = some y3 := hf 3 _ rfl
  rw [show Tryd.prog.cellsOf 3 = 1 by kernel_rfl] at g3
  have G3 : DataW.trod enc Tryd.prog W 0 sp hh m 3 [v3] = some y3 := g3
  clear g3
  have g4 : DataW.trod enc Tryd.prog W 0 sp hh m 3 (([v0, v1, v2, v3, v4].drop 4).take (Tryd.prog.cellsOf 3)) = some y4 := hf 4 _ rfl
  rw [show Tryd.prog.cellsOf 3 = 1 by kernel_rfl] at g4
  have G4 : DataW.trod enc Tryd.prog W 0 sp hh m 3 [v4] = some y4 := g4
  clear g4
  clear hf h
  obtain ⟨a0, h0, k0⟩ := DataW.trod_bool Tryd.underlying4 G0
  subst k0
  injection h0 with h0; subst h0
  simp only [DataW.lit.injEq, Lit.int.injEq, Lit.bool.injEq, true_and] at e0; subst e0
  obtain ⟨a1, h1, k1⟩ := DataW.trod_bool Tryd.underlying4 G1
  subst k1
  injection h1 with h1; subst h1
  simp only [DataW.lit.injEq, Lit.int.injEq, Lit.bool.injEq, true_and] at e1; subst e1
  obtain ⟨a2, h2, k2, _⟩ := DataW.trod_int Tryd.underlying3 G2
  subst k2
  injection h2 with h2; subst h2
  simp only [DataW.lit.injEq, Lit.int.injEq, Lit.bool.injEq, true_and] at e2; subst e2
  obtain ⟨a3, h3, k3, _⟩ := DataW.trod_int Tryd.underlying3 G3
  subst k3
  injection h3 with h3; subst h3
  simp only [DataW.lit.injEq, Lit.int.injEq, Lit.bool.injEq, true_and] at e3; subst e3
  obtain ⟨a4, h4, k4, _⟩ := DataW.trod_int Tryd.underlying3 G4
  subst k4
  injection h4 with h4; subst h4
  simp only [DataW.lit.injEq, Lit.int.injEq, Lit.bool.injEq, true_and] at e4; subst e4
  rfl
theorem planCloses_dat_0 {W : World} {H : Type} {enc : TypeId × Value → H} {sp : Nat → Bool} {hh : Bool} {n : Nat} {cs : List Value} {x : DataW H × List MemPlace} (h : DataW.trod enc Tryd.prog W 0 sp hh n 78 cs = some x) (hd : x.1 = .agg [.lit (.int .i64 1), .agg [.lit (.bool true), .lit (.bool true), .lit (.int .i64 0), .lit (.int .i64 1), .lit (.int .i64 2)]]) : cs = [.int .i64 1, .bool true, .bool true, .int .i64 0, .int .i64 1, .int .i64 2] := by
  obtain ⟨xs, m, _, hx1, hl, hxl, hf⟩ := DataW.trod_struct Tryd.underlying78 h
  rw [show Tryd.prog.cellsOf 78 = 6 by kernel_rfl] at hl
  replace hxl : xs.length = 2 := hxl
  obtain ⟨v0, v1, v2, v3, v4, v5, rfl⟩ := lenN6 hl
  obtain ⟨y0, y1, rfl⟩ := lenN2 hxl
  subst hx1
  simp only [List.map_cons, List.map_nil, DataW.agg.injEq, List.cons.injEq, and_true] at hd
  obtain ⟨e0, e1⟩ := hd
  have g0 : DataW.trod enc Tryd.prog W 0 sp hh m 3 (([v0, v1, v2, v3, v4, v5].drop 0).take (Tryd.prog.cellsOf 3)) = some y0 := hf 0 _ rfl
  rw [show Tryd.prog.cellsOf 3 = 1 by kernel_rfl] at g0
  have G0 : DataW.trod enc Tryd.prog W 0 sp hh m 3 [v0] = some y0 := g0
  clear g0
  have g1 : DataW.trod enc Tryd.prog W 0 sp hh m 76 (([v0, v1, v2, v3, v4, v5].drop 1).take (Tryd.prog.cellsOf 76)) = some y1 := hf 1 _ rfl
  rw [show Tryd.prog.cellsOf 76 = 5 by kernel_rfl] at g1
  have G1 : DataW.trod enc Tryd.prog W 0 sp hh m 76 [v1, v2, v3, v4, v5] = some y1 := g1
  clear g1
  clear hf h
  obtain ⟨a0, h0, k0, _⟩ := DataW.trod_int Tryd.underlying3 G0
  subst k0
  injection h0 with h0; subst h0
  simp only [DataW.lit.injEq, Lit.int.injEq, Lit.bool.injEq, true_and] at e0; subst e0
  have q1 := planCloses_dat_0_1 G1 e1
  simp only [List.cons.injEq, and_true] at q1
  obtain ⟨rfl, rfl, rfl, rfl, rfl⟩ := q1
  rfl
theorem planCloses_dat_1_1 {W : World} {H : Type} {enc : TypeId × Value → H} {sp : Nat → Bool} {hh : Bool} {n : Nat} {cs : List Value} {x : DataW H × List MemPlace} (h : DataW.trod enc Tryd.prog W 0 sp hh n 76 cs = some x) (hd : x.1 = .agg [.lit (.bool true), .lit (.bool false), .lit (.int .i64 0), .lit (.int .i64 0), .lit (.int .i64 2)]) : cs = [.bool true, .bool false, .int .i64 0, .int .i64 0, .int .i64 2] := by
  obtain ⟨xs, m, _, hx1, hl, hxl, hf⟩ := DataW.trod_struct Tryd.underlying76 h
  rw [show Tryd.prog.cellsOf 76 = 5 by kernel_rfl] at hl
  replace hxl : xs.length = 5 := hxl
  obtain ⟨v0, v1, v2, v3, v4, rfl⟩ := lenN5 hl
  obtain ⟨y0, y1, y2, y3, y4, rfl⟩ := lenN5 hxl
  subst hx1
  simp only [List.map_cons, List.map_nil, DataW.agg.injEq, List.cons.injEq, and_true] at hd
  obtain ⟨e0, e1, e2, e3, e4⟩ := hd
  have g0 : DataW.trod enc Tryd.prog W 0 sp hh m 4 (([v0, v1, v2, v3, v4].drop 0).take (Tryd.prog.cellsOf 4)) = some y0 := hf 0 _ rfl
  rw [show Tryd.prog.cellsOf 4 = 1 by kernel_rfl] at g0
  have G0 : DataW.trod enc Tryd.prog W 0 sp hh m 4 [v0] = some y0 := g0
  clear g0
  have g1 : DataW.trod enc Tryd.prog W 0 sp hh m 4 (([v0, v1, v2, v3, v4].drop 1).take (Tryd.prog.cellsOf 4)) = some y1 := hf 1 _ rfl
  rw [show Tryd.prog.cellsOf 4 = 1 by kernel_rfl] at g1
  have G1 : DataW.trod enc Tryd.prog W 0 sp hh m 4 [v1] = some y1 := g1
  clear g1
  have g2 : DataW.trod enc Tryd.prog W 0 sp hh m 3 (([v0, v1, v2, v3, v4].drop 2).take (Tryd.prog.cellsOf 3)) = some y2 := hf 2 _ rfl
  rw [show Tryd.prog.cellsOf 3 = 1 by kernel_rfl] at g2
  have G2 : DataW.trod enc Tryd.prog W 0 sp hh m 3 [v2] = some y2 := g2
  clear g2
  have g3 : DataW.trod enc Tryd.prog W 0 sp hh m 3 (([v0, v1, v2, v3, v4].drop 3).take (Tryd.prog.cellsOf 3)) = some y3 := hf 3 _ rfl
  rw [show Tryd.prog.cellsOf 3 = 1 by kernel_rfl] at g3
  have G3 : DataW.trod enc Tryd.prog W 0 sp hh m 3 [v3] = some y3 := g3
  clear g3
  have g4 : DataW.trod enc Tryd.prog W 0 sp hh m 3 (([v0, v1, v2, v3, v4].drop 4).take (Tryd.prog.cellsOf 3)) = some y4 := hf 4 _ rfl
  rw [show Tryd.prog.cellsOf 3 = 1 by kernel_rfl] at g4
  have G4 : DataW.trod enc Tryd.prog W 0 sp hh m 3 [v4] = some y4 := g4
  clear g4
  clear hf h
  obtain ⟨a0, h0, k0⟩ := DataW.trod_bool Tryd.underlying4 G0
  subst k0
  injection h0 with h0; subst h0
  simp only [DataW.lit.injEq, Lit.int.injEq, Lit.bool.injEq, true_and] at e0; subst e0
  obtain ⟨a1, h1, k1⟩ := DataW.trod_bool Tryd.underlying4 G1
  subst k1
  injection h1 with h1; subst h1
  simp only [DataW.lit.injEq, Lit.int.injEq, Lit.bool.injEq, true_and] at e1; subst e1
  obtain ⟨a2, h2, k2, _⟩ := DataW.trod_int Tryd.underlying3 G2
  subst k2
  injection h2 with h2; subst h2
  simp only [DataW.lit.injEq, Lit.int.injEq, Lit.bool.injEq, true_and] at e2; subst e2
  obtain ⟨a3, h3, k3, _⟩ := DataW.trod_int Tryd.underlying3 G3
  subst k3
  injection h3 with h3; subst h3
  simp only [DataW.lit.injEq, Lit.int.injEq, Lit.bool.injEq, true_and] at e3; subst e3
  obtain ⟨a4, h4, k4, _⟩ := DataW.trod_int Tryd.underlying3 G4
  subst k4
  injection h4 with h4; subst h4
  simp only [DataW.lit.injEq, Lit.int.injEq, Lit.bool.injEq, true_and] at e4; subst e4
  rfl
theorem planCloses_dat_1 {W : World} {H : Type} {enc : TypeId × Value → H} {sp : Nat → Bool} {hh : Bool} {n : Nat} {cs : List Value} {x : DataW H × List MemPlace} (h : DataW.trod enc Tryd.prog W 0 sp hh n 78 cs = some x) (hd : x.1 = .agg [.lit (.int .i64 2), .agg [.lit (.bool true), .lit (.bool false), .lit (.int .i64 0), .lit (.int .i64 0), .lit (.int .i64 2)]]) : cs = [.int .i64 2, .bool true, .bool false, .int .i64 0, .int .i64 0, .int .i64 2] := by
  obtain ⟨xs, m, _, hx1, hl, hxl, hf⟩ := DataW.trod_struct Tryd.underlying78 h
  rw [show Tryd.prog.cellsOf 78 = 6 by kernel_rfl] at hl
  replace hxl : xs.length = 2 := hxl
  obtain ⟨v0, v1, v2, v3, v4, v5, rfl⟩ := lenN6 hl
  obtain ⟨y0, y1, rfl⟩ := lenN2 hxl
  subst hx1
  simp only [List.map_cons, List.map_nil, DataW.agg.injEq, List.cons.injEq, and_true] at hd
  obtain ⟨e0, e1⟩ := hd
  have g0 : DataW.trod enc Tryd.prog W 0 sp hh m 3 (([v0, v1, v2, v3, v4, v5].drop 0).take (Tryd.prog.cellsOf 3)) = some y0 := hf 0 _ rfl
  rw [show Tryd.prog.cellsOf 3 = 1 by kernel_rfl] at g0
  have G0 : DataW.trod enc Tryd.prog W 0 sp hh m 3 [v0] = some y0 := g0
  clear g0
  have g1 : DataW.trod enc Tryd.prog W 0 sp hh m 76 (([v0, v1, v2, v3, v4, v5].drop 1).take (Tryd.prog.cellsOf 76)) = some y1 := hf 1 _ rfl
  rw [show Tryd.prog.cellsOf 76 = 5 by kernel_rfl] at g1
  have G1 : DataW.trod enc Tryd.prog W 0 sp hh m 76 [v1, v2, v3, v4, v5] = some y1 := g1
  clear g1
  clear hf h
  obtain ⟨a0, h0, k0, _⟩ := DataW.trod_int Tryd.underlying3 G0
  subst k0
  injection h0 with h0; subst h0
  simp only [DataW.lit.injEq, Lit.int.injEq, Lit.bool.injEq, true_and] at e0; subst e0
  have q1 := planCloses_dat_1_1 G1 e1
  simp only [List.cons.injEq, and_true] at q1
  obtain ⟨rfl, rfl, rfl, rfl, rfl⟩ := q1
  rfl
theorem planCloses_dat {W : World} {H : Type} {enc : TypeId × Value → H} {sp : Nat → Bool} {hh : Bool} {n : Nat} {cs : List Value} {x : DataW H × List MemPlace} (h : DataW.trod enc Tryd.prog W 0 sp hh n 190 cs = some x) (hd : x.1 = .agg [.agg [.lit (.int .i64 1), .agg [.lit (.bool true), .lit (.bool true), .lit (.int .i64 0), .lit (.int .i64 1), .lit (.int .i64 2)]], .agg [.lit (.int .i64 2), .agg [.lit (.bool true), .lit (.bool false), .lit (.int .i64 0), .lit (.int .i64 0), .lit (.int .i64 2)]]]) : cs = [.int .i64 1, .bool true, .bool true, .int .i64 0, .int .i64 1, .int .i64 2, .int .i64 2, .bool true, .bool false, .int .i64 0, .int .i64 0, .int .i64 2] := by
  obtain ⟨xs, m, _, hx1, hl, hxl, hf⟩ := DataW.trod_array Tryd.underlying190 h
  rw [show Tryd.prog.cellsOf 190 = 12 by kernel_rfl] at hl
  replace hxl : xs.length = 2 := hxl
  obtain ⟨v0, v1, v2, v3, v4, v5, v6, v7, v8, v9, v10, v11, rfl⟩ := lenN12 hl
  obtain ⟨y0, y1, rfl⟩ := lenN2 hxl
  subst hx1
  simp only [List.map_cons, List.map_nil, DataW.agg.injEq, List.cons.injEq, and_true] at hd
  obtain ⟨e0, e1⟩ := hd
  have hc : Tryd.prog.cellsOf 78 = 6 := by kernel_rfl
  simp only [hc] at hf
  have g0 := hf 0 (by decide)
  have G0 : DataW.trod enc Tryd.prog W 0 sp hh m 78 [v0, v1, v2, v3, v4, v5] = some y0 := g0
  clear g0
  have g1 := hf 1 (by decide)
  have G1 : DataW.trod enc Tryd.prog W 0 sp hh m 78 [v6, v7, v8, v9, v10, v11] = some y1 := g1
  clear g1
  clear hf h
  have q0 := planCloses_dat_0 G0 e0
  simp only [List.cons.injEq, and_true] at q0
  obtain ⟨rfl, rfl, rfl, rfl, rfl, rfl⟩ := q0
  have q1 := planCloses_dat_1 G1 e1
  simp only [List.cons.injEq, and_true] at q1
  obtain ⟨rfl, rfl, rfl, rfl, rfl, rfl⟩ := q1
  rfl
theorem planCloses_glob {W : World} (h : laidMetH Tryd.prog Rows.planClosesRow.laid W) : ∃ t, heapOf W 1 = some (.cells #[.int .i64 1, .bool true, .bool true, .int .i64 0, .int .i64 1, .int .i64 2, .int .i64 2, .bool true, .bool false, .int .i64 0, .int .i64 0, .int .i64 2] t) := by
  rw [MakeChecks.laidMetH_plain _ _ _ (by kernel_rfl)] at h
  obtain ⟨ps, ⟨g0, t0, cs0, f0, p0, q0, hg0, ht0, hv0, hd0, _, hps⟩, _, hrow⟩ := h
  obtain rfl := Option.some.inj ((show Tryd.prog.globalNamed "windrose/trait.first" = some 1 by kernel_rfl).symm.trans hg0)
  obtain rfl := Option.some.inj ((show (Tryd.prog.globals[1]?).map (·.type) = some 190 by kernel_rfl).symm.trans ht0)
  have hl := planCloses_dat hd0 rfl
  have hcs : cs0 = #[.int .i64 1, .bool true, .bool true, .int .i64 0, .int .i64 1, .int .i64 2, .int .i64 2, .bool true, .bool false, .int .i64 0, .int .i64 0, .int .i64 2] := Array.toList_inj.1 hl
  subst hcs
  have hm : MemPlace.cell 1 0 ∈ ps := by rw [hps]; simp [MemPlace.row]
  obtain ⟨⟨c, t, hh⟩, _⟩ := hrow 1 0 hm
  have hv := hv0
  simp only [World.var?, hg0, Option.bind_some, hh] at hv
  injection hv with hv
  subst hv
  exact ⟨t, hh⟩

set_option maxRecDepth 100000 in
theorem planCloses_lifted (os : Os) (started : os.Started) (H : Type) (enc : TypeId × Value → H) :
    ReturnsInHanded {} Tryd.checked os 11 .any (fun w args => (Rows.planClosesSpec.pre enc Tryd.prog Tryd.f11 [] false w args ∧ laidMetH Tryd.prog Rows.planClosesRow.laid w) ∧ sizedMet enc Tryd.prog Tryd.f11 (OpenSpec.ofChange Rows.planClosesSpec) false w args)
      (Rows.planClosesSpec.post enc Tryd.prog Tryd.f11 false true false false) := by
  refine returnsInHanded_of_change_and (C := Tryd.checked) (X := fun w _ => laidMetH Tryd.prog Rows.planClosesRow.laid w) (fun _ _ _ hh h => h.of_heap hh) planCloses_own started (by kernel_rfl) Tryd.func11
    (ChangeSpec.witness_shaped (enc := enc) (C := Tryd.checked) (os := os) (X := fun w _ => laidMetH Tryd.prog Rows.planClosesRow.laid w) false (World.doorLaid Tryd.prog 400 os) #[.slice none 0 0, .slice none 0 0, .slice none 0 0] 8 rfl (World.shaped_of_RefB (by kernel_rfl) (by kernel_rfl)) (by kernel_rfl) (by kernel_rfl) (by kernel_rfl) (planCloses_met os _)) ?_
  intro W base args ds gs before hval0 hW _ _ hL _
  have hval : ∀ (j : Nat) t v, Tryd.f11.params[j]? = some t → args[j]? = some v → Value.okWide Tryd.prog W .any base t v := hval0
  have hW' := hW
  obtain ⟨p, q, hA0, hV, rfl, hfz, hnd⟩ := hW
  have hA : DataW.TrodAll enc Tryd.prog W 0 (fun _ => true) true Tryd.f11.params.toList args.toList ds p := hA0
  rw [Tryd.params11] at hA hval
  clear hA0 hval0
  obtain ⟨v0, vs0, d0, ds0, p0, q0, e0, rfl, rfl, h0, r0⟩ := trodAll_cons hA
  obtain ⟨v1, vs1, d1, ds1, p1, q1, e1, rfl, rfl, h1, r1⟩ := trodAll_cons r0
  subst e1
  obtain ⟨v2, vs2, d2, ds2, p2, q2, e2, rfl, rfl, h2, r2⟩ := trodAll_cons r1
  subst e2
  obtain ⟨e3, rfl, rfl⟩ := trodAll_nil r2
  subst e3
  obtain rfl : args = #[v0, v1, v2] := by cases args; simp_all
  obtain ⟨rfl, rfl⟩ := trodVars_none hV
  obtain ⟨xs0, hr0, hw0⟩ := open_sl Tryd.underlying59 (Opn.slice Tryd.underlying59 (by kernel_rfl) opn78 (by decide)) (hval 0 59 v0 rfl rfl) h0
  obtain ⟨xs1, hr1, hw1⟩ := open_sl Tryd.underlying60 (Opn.slice Tryd.underlying60 (by kernel_rfl) opn73 (by decide)) (hval 1 60 v1 rfl rfl) h1
  obtain ⟨xs2, hr2, hw2⟩ := open_sl Tryd.underlying23 (Opn.slice Tryd.underlying23 (by kernel_rfl) (Opn.int Tryd.underlying3) (by decide)) (hval 2 23 v2 rfl rfl) h2
  have hpar : ∀ t ∈ Tryd.f11.params.toList, Tryd.prog.readableRec t = true ∧ t < Tryd.prog.types.size := by
    intro t ht
    rw [Tryd.params11] at ht
    simp only [List.mem_cons, List.not_mem_nil, or_false] at ht
    rcases ht with rfl | rfl | rfl
    · exact ⟨by kernel_rfl, of_decide_eq_true (by kernel_rfl)⟩
    · exact ⟨by kernel_rfl, of_decide_eq_true (by kernel_rfl)⟩
    · exact ⟨by kernel_rfl, of_decide_eq_true (by kernel_rfl)⟩
  obtain ⟨tG, hG⟩ := planCloses_glob hL
  refine (calls_of_Fv Tryd.func11 rfl (by kernel_rfl) (Fv.to (windroselaw20_PlanCloses_c _ hG _ xs0 hr0 _ xs1 hr1 _ xs2 hr2) (congrArg Value.bool (planCloses_true _ _ _)))).mono fun e W' ⟨he, hb⟩ => ?_
  subst he
  exact ⟨_, rfl, post_true planCloses_laid hW' rfl hpar rfl rfl Tryd.underlying4 hb⟩

theorem planCloses_holds : Rows.PlanClosesSaid :=
  OpenClaim.holds_of_wide 11 Tryd.f11 rfl rfl rfl rfl rfl rfl rfl ⟨rfl, rfl, rfl, rfl, rfl⟩ rfl rfl rfl rfl rfl (by kernel_rfl) Tryd.func11 (by kernel_rfl)
    (of_decide_eq_true (by kernel_rfl)) (by unfold Func.isWrapper; first | (rw [if_pos (by decide +kernel)]; kernel_rfl) | (rw [if_neg (by decide +kernel)]; exact ⟨rfl, rfl⟩))
    (fun os started H enc _ => planCloses_lifted os started H enc)

theorem planCloses_card : Rows.PlanClosesCardSaid :=
  Claim7.holds_tied_plain_at .later [] [.widerDeep] true (true, "c812bd16461893b59ff1c9b11575473a3dd7f925cadaefe779c83152ab813434") false
    planCloses_holds (fun _ h => by cases h) (by kernel_rfl) (fun _ h => by cases h) planCloses_row_tie rfl ⟨rfl, rfl⟩ (by kernel_rfl) rfl
    (fun f fn hf hfn => by
      obtain rfl : f = 11 := Option.some.inj ((show Tryd.prog.funcNamed "windrose/windroselaw20.PlanCloses" = some 11 by kernel_rfl).symm.trans hf) |>.symm
      obtain rfl : fn = Tryd.f11 := (Option.some.inj (Tryd.func11.symm.trans hfn)).symm
      exact ⟨by kernel_rfl, fun j t ht => by
        rw [Tryd.params11] at ht
        have hm : t ∈ [59, 60, 23] := by simpa using Array.mem_of_getElem? ht
        have hall : ([59, 60, 23].all fun u => !Tryd.prog.wantsStandIn u) = true := by kernel_rfl
        exact (show Tryd.prog.wantsStandIn t = false by simpa using List.all_eq_true.1 hall t hm)⟩)
    (by kernel_rfl)
end Go.Proofs.YtmhoclmjgjopfaaDoor
