/- 'IndexBack' answers true, whatever it is handed, and what it is handed reads behind it as it did. -/
import Derived.RangeFuncNested
import Derived.RangeFuncBound
import Derived.RangeFuncCalls
import Derived.RangeFuncLeaves
import Derived.Shelf.Abstract
import Derived.Laws.AppendOwn
import Derived.Laws.OwnMore
import Derived.KernelRfl
import Derived.IntWalk
import Derived.Laws.Append
import Derived.WideLaws
import Derived.Laws.Slices
import Derived.Laws.MakeOwn
import Derived.OrdersIn
import Derived.Laws.Cover3
import Derived.Test.YtmigaagkfglabaaProg
import Derived.Laws.StructEq
import Derived.Shelf.Sort.Plain
import Derived.Sort.OwnSortedInts
import Derived.Shelf.Slices.In.SortNone
import Derived.Maps.RangeRun
import Derived.Lib.AppendZeros
import Derived.Sort.AssemblyPlain
import Derived.Shelf.Small.Bits
import Derived.Sort.Walk7a
import Derived.Laws.Bits64
import Derived.Laws.Bits64b
import Derived.Shelf.Spec.SlicesInsert
import Derived.Shelf.Spec.SlicesInsertGrow
import Derived.ProofKit
import Derived.ChangeSlices
import Derived.Carry
import Derived.Deep.Slices
import Derived.OpenShut
import Derived.Test.YtmigaagkfglabaaRows
import Derived.Test.YtmigaagkfglabaaKB5
set_option linter.unusedVariables false
set_option linter.unusedSimpArgs false
namespace Go.SX
open Go
theorem eqF_l1 (b : Ix) (p : Int × List Int → Int × List Int → Bool) : ∀ (xs : Ix) (k : Nat), (∀ i r, xs[i]? = some r → p r (b.getD (k + i) (0, [])) = true) → slices_EqualFunc_Listed_l1 b p xs k () = .go ()
  | [], _, _ => rfl
  | y :: ys, k, h => by
    have h0 := h 0 y rfl
    rw [Nat.add_zero] at h0
    rw [slices_EqualFunc_Listed_l1, h0, Bool.not_true, if_neg Bool.false_ne_true]
    exact eqF_l1 b p ys (k + 1) (fun i r hr => by
      have := h (i + 1) r (by simpa using hr)
      rw [show k + (i + 1) = k + 1 + i by omega] at this; exact this)
theorem same_self (x : Ix) : index_Same_m x x = true := by
  unfold index_Same_m
  rw [LR.seq_go]
  unfold slices_EqualFunc_Listed_m
  rw [if_neg (fun q => q rfl), eqF_l1 x _ x 0 (fun i r hr => ?_), LR.on_go]
  rw [Nat.zero_add, List.getD_eq_getElem?_getD, hr, Option.getD_some]
  unfold index_Same_1_m
  rw [if_pos rfl]; exact decide_eq_true rfl
theorem ib_l2 (n : Int) (K : List Int) : ∀ (l : Ix), (∀ r ∈ l, n ∈ r.2 ↔ r.1 ∈ K) → windroselaw14_IndexBack_l2 n K l () = .go ()
  | [], _ => rfl
  | r :: l, h => by
    rw [windroselaw14_IndexBack_l2, decide_eq_decide.2 (h r (List.mem_cons_self ..)), if_neg (by cases decide (r.1 ∈ K) <;> decide)]
    exact ib_l2 n K l (fun q hq => h q (List.mem_cons_of_mem _ hq))
theorem keys_nil {l : List Int} (hc : types_Check_m l = 0) (hu : ∀ y ∈ l, U y) : index_Keys_m l = [] ↔ l = [] := by
  constructor
  · intro e
    rw [← bare_keys hc hu, e]; rfl
  · intro e
    refine List.eq_nil_iff_forall_not_mem.2 (fun x hx => ?_)
    obtain ⟨y, hy, _⟩ := (Keys_mem hc hu x).1 hx
    rw [e] at hy; cases hy
theorem put_m {x : Ix} {n : Int} {l : List Int} (h : (index_Put_m x n l).2 = 0) : RightI x ∧ (1 ≤ n ∧ n ≤ 1048576) ∧ types_Check_m l = 0 ∧ inA x n = [] ∧ (index_Put_m x n l).1 = index_turned_m x (index_Keys_m l) (fun z => index_Put_1_m n z) := by
  unfold index_Put_m at h ⊢
  simp only [LR.seq_go] at h ⊢
  by_cases h1 : index_Check_m x = 0
  rotate_left
  · rw [if_pos h1] at h; cases h
  rw [if_neg (fun q => q h1)] at h ⊢
  cases h2 : index_table_m n with
  | false => rw [h2] at h; cases h
  | true =>
    rw [h2, Bool.not_true, if_neg Bool.false_ne_true] at h
    rw [Bool.not_true, if_neg Bool.false_ne_true]
    by_cases h3 : types_Check_m l = 0
    rotate_left
    · rw [if_pos h3] at h; cases h
    rw [if_neg (fun q => q h3)] at h ⊢
    by_cases h4 : (0 : Int) < ((index_in_m x n).length : Int)
    · rw [if_pos h4] at h; cases h
    rw [if_neg h4]
    refine ⟨(check_iff x).1.1 h1, (table_iff n).1 h2, h3, ?_, rfl⟩
    rw [in_m] at h4
    exact List.eq_nil_of_length_eq_zero (by unfold inA; omega)
theorem put_no {x : Ix} {n : Int} {l : List Int} (h : (index_Put_m x n l).2 ≠ 0) : (index_Put_m x n l).1 = [] := by
  unfold index_Put_m at h ⊢
  simp only [LR.seq_go] at h ⊢
  by_cases h1 : index_Check_m x ≠ 0
  · rw [if_pos h1]
  rw [if_neg h1] at h ⊢
  cases h2 : index_table_m n with
  | false => rfl
  | true =>
    rw [h2, Bool.not_true, if_neg Bool.false_ne_true] at h
    rw [Bool.not_true, if_neg Bool.false_ne_true]
    by_cases h3 : types_Check_m l ≠ 0
    · rw [if_pos h3]
    rw [if_neg h3] at h ⊢
    by_cases h4 : (0 : Int) < ((index_in_m x n).length : Int)
    · rw [if_pos h4]
    · rw [if_neg h4] at h; exact absurd rfl h
theorem put_ok {x : Ix} (h : RightI x) {n : Int} (hn : 1 ≤ n ∧ n ≤ 1048576) {l : List Int} (hc : types_Check_m l = 0) (hin : inA x n = []) : index_Put_m x n l = (index_turned_m x (index_Keys_m l) (fun z => index_Put_1_m n z), 0) := by
  unfold index_Put_m
  simp only [LR.seq_go]
  rw [if_neg (fun q => q ((check_iff x).1.2 h)), (table_iff n).2 hn, Bool.not_true, if_neg Bool.false_ne_true, if_neg (fun q => q hc), if_neg]
  rw [in_m]
  show ¬ (0 : Int) < ((inA x n).length : Int)
  rw [hin]; decide
theorem drop_ok {x : Ix} (h : RightI x) {n : Int} (hin : inA x n ≠ []) : index_Drop_m x n = (index_turned_m x (inA x n) (fun z => index_Drop_1_m n z), 0) := by
  unfold index_Drop_m
  simp only [LR.seq_go]
  rw [if_neg (fun q => q ((check_iff x).1.2 h)), in_m]
  show (if ((inA x n).length : Int) = 0 then _ else _) = _
  rw [if_neg (fun q => hin (List.eq_nil_of_length_eq_zero (by omega)))]
  rfl
theorem drop_m {x : Ix} {n : Int} (h : (index_Drop_m x n).2 = 0) : RightI x ∧ inA x n ≠ [] := by
  unfold index_Drop_m at h
  simp only [LR.seq_go] at h
  by_cases h1 : index_Check_m x = 0
  rotate_left
  · rw [if_pos h1] at h; exact absurd h h1
  rw [if_neg (fun q => q h1), in_m] at h
  refine ⟨(check_iff x).1.1 h1, fun e => ?_⟩
  have h' : (if ((inA x n).length : Int) = 0 then (([] : Ix), (4 : Int)) else (index_turned_m x (inA x n) (fun z => index_Drop_1_m n z), 0)).2 = 0 := h
  rw [e, if_pos (show (([] : List Int).length : Int) = 0 from rfl)] at h'
  exact absurd h' (by decide)
theorem indexBack_true (a0 : Ix) (a1 : Int) (a2 : List Int) (hu0 : ∀ r ∈ a0, U r.1) (hu2 : ∀ x ∈ a2, U x) : windroselaw14_IndexBack_m a0 a1 a2 = true := by
  unfold windroselaw14_IndexBack_m
  rw [w14_true, Bool.not_true, if_neg Bool.false_ne_true]
  simp only [LR.seq_go]
  have hu := own14_U hu0
  have hlen := (own_len a0 _ rfl).1
  have hul : ∀ x ∈ windroselaw14_few_m a2, U x := fun x hx => hu2 x (by simp only [windroselaw14_few_m] at hx; exact List.mem_of_mem_take hx)
  generalize windroselaw14_own_m a0 = x at *
  generalize windroselaw14_few_m a2 = l at *
  by_cases hp : (index_Put_m x a1 l).2 = 0
  · rw [if_pos hp]
    obtain ⟨h, hn, hc, hin, e⟩ := put_m hp
    have hplen := (put_len x a1 l _ rfl).1
    rw [e] at hplen ⊢
    obtain ⟨hr, hinn⟩ := put_right h (by omega) hn hc hul hin
    obtain ⟨p, hpe⟩ : ∃ p, p = index_turned_m x (index_Keys_m l) (fun z => index_Put_1_m a1 z) := ⟨_, rfl⟩
    rw [← hpe] at hr hinn hplen ⊢
    rw [if_neg (show ¬ ((if index_Check_m p ≠ 0 then true else decide (¬ (index_Type_m p a1 = l))) = true) by
      rw [if_neg (fun q => q ((check_iff p).1.2 hr)), type_eq hr, hinn, bare_keys hc hul]; simp)]
    rw [ib_l2 a1 (index_Keys_m l) p (fun r hr' => by rw [← hinn, inA_row hr.up hr' a1]), LR.on_go]
    by_cases hz : (l.length : Int) = 0
    · rw [if_pos hz]
      have hl0 : l = [] := List.eq_nil_of_length_eq_zero (by omega)
      have hk0 := (keys_nil hc hul).2 hl0
      have : p = x := by
        rw [hpe, hk0]
        refine Tidy.ext (Tidy.turned h.up (by omega) _ _) (Tidy.of h) (fun i => ?_)
        rw [findA_turned h.up (by omega), if_neg (fun q => by cases q)]
      rw [this]; exact same_self x
    · rw [if_neg hz]
      have hne : inA p a1 ≠ [] := by
        rw [hinn]; intro q
        exact hz (by rw [(keys_nil hc hul).1 q]; rfl)
      rw [drop_ok hr hne, hinn, if_pos rfl, drop_put h (by omega) hin hpe (by omega)]
      exact same_self x
  · rw [if_neg hp, put_no hp]
    by_cases hd : (index_Drop_m x a1).2 = 0
    · rw [if_neg (fun q => q hd)]
      obtain ⟨h, hne⟩ := drop_m hd
      have hdl := (dropx_len x a1 _ rfl).1
      rw [drop_ok h hne] at hdl ⊢
      obtain ⟨d, hde⟩ : ∃ d, d = index_turned_m x (inA x a1) (fun z => index_Drop_1_m a1 z) := ⟨_, rfl⟩
      simp only [← hde] at hdl ⊢
      obtain ⟨hr, hinn⟩ := drop_right h (by omega) a1
      rw [← hde] at hr hinn
      have hn : 1 ≤ a1 ∧ a1 ≤ 1048576 := by
        obtain ⟨i, hi⟩ := List.exists_mem_of_ne_nil _ hne
        obtain ⟨r, hr', hm, _⟩ := inA_mem.1 hi
        exact (h.rows r hr').rng a1 hm
      rw [type_eq h, put_ok hr hn (h.tabs a1).1 hinn, (h.tabs a1).2, if_pos rfl, put_drop h (by omega) hde (by omega), same_self, if_pos rfl, type_eq hr, hinn]
      rw [show bareA [] = [] from rfl, if_pos (show (([] : List Int).length : Int) = 0 from rfl)]
      exact decide_eq_true ((check_iff d).1.2 hr)
    · rw [if_pos hd]
      have ht : index_Type_m x a1 = [] := by
        by_cases h : RightI x
        · rw [type_eq h]
          by_cases e : inA x a1 = []
          · rw [e]; rfl
          · rw [drop_ok h e] at hd; exact absurd rfl hd
        · exact type_none h a1
      rw [ht]; rfl
end Go.SX

set_option linter.unusedVariables false
set_option linter.unusedSimpArgs false
namespace Go.SX
open Go Go.ChangeShapes Go.WideShapes Go.ChangeAt Go.RowKit

/-- All that stands in a world's memory can be read. -/
def heapOf (W : World) : Heap := fun b => W.heap[b]?
theorem sat_heapOf (W : World) : Sat (heapOf W) [] W := ⟨fun _ _ h => h, fun p h => (by cases h), List.nodup_nil, fun p h => (by cases h)⟩

/-- A contract of a function that hands back v, at a world. -/
theorem calls_of_Fv {P : Program} {f : FuncId} {fn : Func} {c : Code} {vs : List Value} {v : Value} {W : World} (hf : P.funcs[f]? = some fn) (hb : fn.body = some c) (hname : (fn.name == "runtime.NumGoroutine") = false)
    (h : Fv P (fnv f) vs (heapOf W) v) : Calls P f vs.toArray W fun e W' => e = .returned v ∧ Below W.heap.size W W' := by
  obtain ⟨nx, w1, h1, h2⟩ := h W (sat_heapOf W)
  have he := Go.Proofs.enters_of (P := P) hf hname hb vs.toArray W
  have hrun : Sem.run P (do let d ← Deferred.ofValue (fnv f) vs.toArray; invoke d.target d.args) W = .ok (.enter f vs.toArray) W := by
    simp [Deferred.ofValue, invoke, he]
  rw [hrun] at h1
  injection h1 with h1 h3
  subst h1; subst h3
  refine callsIn_wide.1 (CallsIn.mono h2 ?_)
  rintro e w' ⟨u, H', L', rfl, hst, rfl, rfl⟩
  exact ⟨rfl, hst.chg.os, hst.chg.tape, hst.chg.output, hst.chg.size, fun b hb => hst.chg.same b hb (by simp [keys])⟩

section
variable {H : Type} {enc : TypeId × Value → H} {P : Program}

theorem trodAll_below (hl : laidOutB P = true) {W W' : World} (hb : Below W.heap.size W W') {sp : Nat → Bool} : ∀ {ts : List TypeId} {vs : List Value} {ds : List (DataW H)} {p : List MemPlace},
    (∀ t ∈ ts, P.readableRec t = true ∧ t < P.types.size) → DataW.TrodAll enc P W 0 (fun _ => true) true ts vs ds p → (∀ q ∈ p, q.block < W.heap.size ∧ sp q.block = true) → DataW.TrodAll enc P W' 0 sp true ts vs ds p
  | [], _, _, _, _, h, _ => by
    obtain ⟨rfl, rfl, rfl⟩ := trodAll_nil h
    exact trodAll_mk0
  | t :: ts, _, _, _, ht, h, hp => by
    obtain ⟨v, vs, d, ds, a, b, rfl, rfl, rfl, h1, h2⟩ := trodAll_cons h
    have h3 := WideElems.Trod_stays (sp' := sp) hl (ht t (List.mem_cons_self ..)).1 (ht t (List.mem_cons_self ..)).2 h1 (fun x hx => hb.same (hp x (List.mem_append_left _ hx)).1) (fun x hx => (hp x (List.mem_append_left _ hx)).2)
    exact ⟨a, b, h3, trodAll_below hl hb (fun t' h' => ht t' (List.mem_cons_of_mem _ h')) h2 (fun x hx => hp x (List.mem_append_right _ hx)), rfl⟩

/-- What is asked behind a call that turned nothing of what there was, and says true. -/
theorem post_true {f : Func} {s : ChangeSpec} {fresh handsOn again : Bool} {W W' : World} {args : Array Value} {ds gs : List (DataW H)} {before : List MemPlace} {tb : TypeId} (hl : laidOutB P = true)
    (hW : DataW.Whole enc P f.params.toList s.vars false W args.toList ds gs before) (hvars : s.vars = []) (hpar : ∀ t ∈ f.params.toList, P.readableRec t = true ∧ t < P.types.size)
    (hs : s.fn H (ds ++ gs) = { results := [.lit (.bool true)], args := ds }) (hrt : f.resultTypes = #[tb]) (htb : P.underlying tb = some .bool) (hb : Below W.heap.size W W') :
    s.post enc P f false fresh handsOn again W args (.bool true) W' := by
  have hlt := hW.lt
  have hW0 := hW
  obtain ⟨p, q, hA, hV, rfl, hfz, hnd⟩ := hW
  rw [hvars] at hV
  obtain ⟨rfl, rfl⟩ := trodVars_none hV
  rw [List.append_nil] at hfz hlt
  have hres : ∀ (b : Nat) (sp : Nat → Bool) (hd : Bool), DataW.TrodAll enc P W' b sp hd f.resultTypes.toList ((Value.bool true).resultList f.resultTypes.size) [.lit (.bool true)] [] := by
    intro b sp hd
    rw [hrt]
    exact trodAll_mk1 (shut_bool htb true)
  have hargs : ∀ sp : Nat → Bool, (∀ x ∈ p, sp x.block = true) → DataW.TrodAll enc P W' 0 sp true f.params.toList args.toList ds p := fun sp hsp =>
    trodAll_below hl hb hpar hA (fun x hx => ⟨hlt x hx, hsp x hx⟩)
  have hvr : ∀ sp : Nat → Bool, DataW.TrodVars enc P W' sp s.vars ([] : List (DataW H)) [] := fun sp => by rw [hvars]; rfl
  refine ⟨ds, [], p ++ [], [], p, [], hW0, ?_, ?_, ?_, World.keptBut_mono (fun x hx => ⟨hx, ?_⟩) (hb.frame (· ∈ p ++ [])), fun _ => ?_⟩
  · rw [hs]; exact hres _ _ _
  · rw [hs]; exact hargs _ (fun x hx => by simpa using hlt x hx)
  · rw [hs]; exact hvr _
  · exact Or.inr (by simpa using hx)
  · refine ⟨ok_one hrt rfl (okWide_bool_mk htb true), _, _, ([] ++ p) ++ [], ⟨[] ++ p, [], trodAll_append (hargs _ (fun _ _ => rfl)) (hres _ _ _), hvr _, rfl, ?_, fun h => by cases h⟩, ?_⟩
    · intro b off hp
      have hp' : MemPlace.cell b off ∈ p := by simpa using hp
      have := hb.frozen (p := ⟨b, off, none⟩) (hlt _ hp')
      rw [this]
      exact hfz b off hp'
    · intro x hx _
      simpa using hx

theorem cellAt_heapOf {W : World} {b o : Nat} {v : Value} (h : W.cell? ⟨b, o, none⟩ = some v) : cellAt (heapOf W) b o = some v := by
  unfold World.cell? at h
  unfold cellAt heapOf
  simp only at h
  revert h
  cases hb : W.heap[b]? with
  | none => intro h; simp at h
  | some ob => cases ob <;> intro h <;> simp_all

end
theorem u_of_wf {x : Int} (h : (Lit.int .u64 x).wf = true) : 0 ≤ x ∧ x < 18446744073709551616 := by
  simp [Lit.wf, IntKind.min, IntKind.max, IntKind.signed, IntKind.bits] at h; omega
end Go.SX

set_option linter.unusedVariables false
set_option linter.unusedSimpArgs false
namespace Go.SX
open Go Go.ChangeShapes Go.WideShapes Go.ChangeAt Go.RowKit Go.Deep
/-- What can be read at the type stands as E says. -/
def Opn (P : Program) (t : TypeId) {α : Type} (E : ER α) (Q : α → Prop) : Prop :=
  ∀ (H : Type) (enc : TypeId × Value → H) (W : World) (sp : Nat → Bool) (hd : Bool) (n : Nat) (cs : List Value) (x : DataW H × List MemPlace), DataW.trod enc P W 0 sp hd n t cs = some x → ∃ a, E.R (heapOf W) cs a ∧ Q a
theorem Opn.int {P : Program} {t : TypeId} {k : IntKind} (ht : P.underlying t = some (.int k)) : Opn P t (intE k) (fun x => (Lit.int k x).wf = true) := fun H enc W sp hd n cs x h => by
  obtain ⟨n, rfl, _, hw⟩ := DataW.trod_int ht h
  exact ⟨n, rfl, hw⟩
theorem Opn.bool {P : Program} {t : TypeId} (ht : P.underlying t = some .bool) : Opn P t boolE (fun _ => True) := fun H enc W sp hd n cs x h => by
  obtain ⟨b, rfl, _⟩ := DataW.trod_bool ht h
  exact ⟨b, rfl, trivial⟩
theorem Opn.weak {P : Program} {t : TypeId} {α : Type} {E : ER α} {Q Q' : α → Prop} (h : Opn P t E Q) (hq : ∀ a, Q a → Q' a) : Opn P t E Q' := fun H enc W sp hd n cs x hx => by
  obtain ⟨a, h1, h2⟩ := h H enc W sp hd n cs x hx
  exact ⟨a, h1, hq a h2⟩
/-- A struct of two ints. -/
theorem Opn.pair {P : Program} {t i : TypeId} {f0 f1 : Field} (ht : P.underlying t = some (.struct #[f0, f1])) (ct : P.cellsOf t = 2) (o0 : f0.offset = 0) (o1 : f1.offset = 1) (t0 : f0.type = i) (t1 : f1.type = i)
    (hi : P.underlying i = some (.int .i64)) (ci : P.cellsOf i = 1) : Opn P t pairE (fun _ => True) := fun H enc W sp hd n cs x h => by
  obtain ⟨xs, m, _, _, hl, hxl, hf⟩ := DataW.trod_struct ht h
  rw [ct] at hl
  match cs, hl, xs, hxl with
  | [v0, v1], _, [y0, y1], _ =>
    have g0 := hf 0 f0 rfl
    have g1 := hf 1 f1 rfl
    rw [o0, t0, ci] at g0
    rw [o1, t1, ci] at g1
    simp at g0 g1
    obtain ⟨a, ha, _⟩ := DataW.trod_int hi g0
    obtain ⟨b, hb, _⟩ := DataW.trod_int hi g1
    simp at ha hb
    subst ha; subst hb
    exact ⟨(a, b), rfl, trivial⟩
/-- An array of two ints. -/
theorem Opn.two {P : Program} {t i : TypeId} (ht : P.underlying t = some (.array 2 i)) (ct : P.cellsOf t = 2) (hi : P.underlying i = some (.int .i64)) (ci : P.cellsOf i = 1) : Opn P t pairE (fun _ => True) := fun H enc W sp hd n cs x h => by
  obtain ⟨xs, m, _, _, hl, hxl, hf⟩ := DataW.trod_array ht h
  rw [ct] at hl
  match cs, hl, xs, hxl with
  | [v0, v1], _, [y0, y1], _ =>
    have g0 := hf 0 (by omega)
    have g1 := hf 1 (by omega)
    rw [ci] at g0 g1
    simp at g0 g1
    obtain ⟨a, ha, _⟩ := DataW.trod_int hi g0
    obtain ⟨b, hb, _⟩ := DataW.trod_int hi g1
    simp at ha hb
    subst ha; subst hb
    exact ⟨(a, b), rfl, trivial⟩
/-- A slice. -/
theorem Opn.slice {P : Program} {t e : TypeId} {α : Type} {E : ER α} {Q : α → Prop} (ht : P.underlying t = some (.slice e)) (hc : P.cellsOf e = E.size) (he : Opn P e E Q) (hs : 0 < E.size) : Opn P t (slE E) (fun xs => ∀ x ∈ xs, Q x) := fun H enc W sp hd n cs x h => by
  rcases open_slice ht h with ⟨rfl, _⟩ | ⟨a, len, cap, m, n', D, Pl, rfl, _, hl, hm, hmm, _, hx⟩
  · exact ⟨[], ⟨_, rfl, RdS.nil⟩, fun x hx => by simp at hx⟩
  · have key : ∀ i, i < len → ∃ x, (∃ b o, a = ⟨b, o, none⟩ ∧ ElemAt E (heapOf W) b (o + i * E.size) x) ∧ Q x := fun i hi => by
      obtain ⟨cs', h1, h2⟩ := hx i (by rw [hmm]; split <;> omega)
      obtain ⟨x, h3, h4⟩ := he H enc W sp hd n' cs' _ h2
      refine ⟨x, ?_, h4⟩
      rw [hc] at h1
      obtain ⟨_, hlen, hcell⟩ := World.cells?_some h1
      obtain ⟨ab, ao, asp⟩ := a
      cases asp with
      | none =>
        refine ⟨ab, ao, rfl, cs', h3, fun j u hj => ?_⟩
        have hjl : j < E.size := by rw [← hlen]; exact (List.getElem?_eq_some_iff.1 hj).1
        have h5 := hcell j hjl
        rw [hj, add_add, Addr.add_lit] at h5
        have := cellAt_heapOf h5
        rw [show ao + i * E.size + j = ao + (i * E.size + j) by omega]
        exact this
      | some s =>
        exfalso
        obtain ⟨cs0, k1, _⟩ := hx 0 (by rw [hmm]; split <;> omega)
        rw [hc, Nat.zero_mul, Addr.add_zero'] at k1
        obtain ⟨_, klen, kcell⟩ := World.cells?_some k1
        have h5 := kcell 0 hs
        rw [Addr.add_zero'] at h5
        obtain ⟨u, hu⟩ : ∃ u, cs0[0]? = some u := ⟨cs0[0], List.getElem?_eq_getElem (by omega)⟩
        rw [hu] at h5
        unfold World.cell? at h5
        revert h5
        cases hb : W.heap[ab]? with
        | none => intro h; simp [hb] at h
        | some ob => cases ob <;> intro h <;> simp [hb] at h
    obtain ⟨f, hf⟩ : ∃ f : Nat → Option α, ∀ i, i < len → ∃ x, f i = some x ∧ (∃ b o, a = ⟨b, o, none⟩ ∧ ElemAt E (heapOf W) b (o + i * E.size) x) ∧ Q x := by
      classical
      refine ⟨fun i => if hi : i < len then some (Classical.choose (key i hi)) else none, fun i hi => ?_⟩
      exact ⟨_, dif_pos hi, Classical.choose_spec (key i hi)⟩
    have hxs : ∀ n, n ≤ len → ∃ xs : List α, xs.length = n ∧ ∀ i, i < n → xs[i]? = f i := fun n => by
      induction n with
      | zero => exact fun _ => ⟨[], rfl, fun i hi => absurd hi (Nat.not_lt_zero _)⟩
      | succ n ih =>
        intro hn
        obtain ⟨xs, h1, h2⟩ := ih (by omega)
        obtain ⟨x, h3, _⟩ := hf n (by omega)
        refine ⟨xs ++ [x], by simp [h1], fun i hi => ?_⟩
        by_cases h : i < n
        · rw [List.getElem?_append_left (by omega)]; exact h2 i h
        · obtain rfl : i = n := by omega
          rw [List.getElem?_append_right (by omega), h1, Nat.sub_self, h3]; rfl
    obtain ⟨xs, h1, h2⟩ := hxs len (Nat.le_refl _)
    subst h1
    refine ⟨xs, ⟨_, rfl, some a, cap, rfl, hl, hm, fun i x hx => ?_⟩, fun x hx => ?_⟩
    · have hi : i < xs.length := (List.getElem?_eq_some_iff.1 hx).1
      obtain ⟨y, h3, ⟨b, o, h4, h5⟩, _⟩ := hf i hi
      rw [h2 i hi, h3] at hx
      injection hx with hx
      subst hx
      exact ⟨b, o, by rw [h4], h5⟩
    · obtain ⟨i, hi, rfl⟩ := List.mem_iff_getElem.1 hx
      obtain ⟨y, h3, _, h4⟩ := hf i hi
      have := h2 i hi
      rw [h3, List.getElem?_eq_getElem hi] at this
      injection this with this
      rw [this]; exact h4
section
variable {P : Program} {H : Type} {enc : TypeId × Value → H} {W : World} {r : Reach} {b0 : Nat} {t : TypeId} {v : Value} {d : DataW H} {p : List MemPlace} {α : Type} {E : ER α} {Q : α → Prop}
/-- A slice that is handed in. -/
theorem open_sl {e : TypeId} (ht : P.underlying t = some (.slice e)) (ho : Opn P t (slE E) (fun xs => ∀ x ∈ xs, Q x)) (hval : Value.okWide P W r b0 t v) (h : DataW.Trod enc P W 0 (fun _ => true) true t v d p) :
    ∃ xs : List α, RdS E (heapOf W) v xs ∧ ∀ x ∈ xs, Q x := by
  obtain ⟨a0, len, cap, rfl⟩ := okWide_slice ht hval
  obtain ⟨n, hn⟩ := h
  obtain ⟨xs, ⟨u, h1, h2⟩, h3⟩ := ho H enc W _ _ n _ _ hn
  have : Value.slice a0 len cap = u := by simpa [Value.cells] using h1
  rw [this]
  exact ⟨xs, h2, h3⟩
/-- A struct, or an array, that is handed in. -/
theorem open_agg (hu : (∃ fs, P.underlying t = some (.struct fs)) ∨ ∃ n e, P.underlying t = some (.array n e)) (ho : Opn P t E Q) (hval : Value.okWide P W r b0 t v) (h : DataW.Trod enc P W 0 (fun _ => true) true t v d p) :
    ∃ cs a, v = .agg cs ∧ E.R (heapOf W) cs.toList a ∧ Q a := by
  have hv : ∃ cs, v = .agg cs := by
    unfold Value.okWide at hval
    rcases hu with ⟨fs, hu⟩ | ⟨n, e, hu⟩
    · rw [hu] at hval; obtain ⟨cs, h1, _⟩ := hval; exact ⟨cs, h1⟩
    · rw [hu] at hval; obtain ⟨cs, h1, _⟩ := hval; exact ⟨cs, h1⟩
  obtain ⟨cs, rfl⟩ := hv
  obtain ⟨n, hn⟩ := h
  obtain ⟨a, h1, h2⟩ := ho H enc W _ _ n _ _ hn
  exact ⟨cs, a, rfl, h1, h2⟩
end
end Go.SX

set_option linter.unusedVariables false
set_option linter.unusedSimpArgs false
namespace Go.SX
open Go Go.ChangeShapes Go.WideShapes Go.ChangeAt Go.RowKit Go.Deep
/-- A struct of one thing stands as that does. -/
theorem Opn.st1 {P : Program} {t i : TypeId} {f0 : Field} {α : Type} {E : ER α} {Q : α → Prop} (ht : P.underlying t = some (.struct #[f0])) (ct : P.cellsOf t = E.size) (o0 : f0.offset = 0) (t0 : f0.type = i)
    (hi : Opn P i E Q) (ci : P.cellsOf i = E.size) : Opn P t E Q := fun H enc W sp hd n cs x h => by
  obtain ⟨xs, m, _, _, hl, hxl, hf⟩ := DataW.trod_struct ht h
  rw [ct] at hl
  have hx1 : xs.length = 1 := hxl
  match xs, hx1 with
  | [y0], _ =>
    have g0 := hf 0 f0 rfl
    rw [o0, t0, ci] at g0
    have e : (cs.drop 0).take E.size = cs := by rw [List.drop_zero, List.take_of_length_le (by omega)]
    simp only [List.drop_zero] at g0
    rw [List.take_of_length_le (by omega)] at g0
    exact hi H enc W _ _ _ _ _ g0
/-- A struct of two things that are one cell each. -/
theorem Opn.st2 {P : Program} {t i j : TypeId} {f0 f1 : Field} {α β : Type} {E0 : ER α} {E1 : ER β} {Q0 : α → Prop} {Q1 : β → Prop} (E : ER (α × β)) (ht : P.underlying t = some (.struct #[f0, f1])) (ct : P.cellsOf t = 2) (o0 : f0.offset = 0) (o1 : f1.offset = 1) (t0 : f0.type = i) (t1 : f1.type = j)
    (hi : Opn P i E0 Q0) (ci : P.cellsOf i = 1) (hj : Opn P j E1 Q1) (cj : P.cellsOf j = 1) (hE : ∀ H v0 v1 a b, E0.R H [v0] a → E1.R H [v1] b → E.R H [v0, v1] (a, b)) : Opn P t E (fun x => Q0 x.1 ∧ Q1 x.2) := fun H enc W sp hd n cs x h => by
  obtain ⟨xs, m, _, _, hl, hxl, hf⟩ := DataW.trod_struct ht h
  rw [ct] at hl
  match cs, hl, xs, hxl with
  | [v0, v1], _, [y0, y1], _ =>
    have g0 := hf 0 f0 rfl
    have g1 := hf 1 f1 rfl
    rw [o0, t0, ci] at g0
    rw [o1, t1, cj] at g1
    simp at g0 g1
    obtain ⟨a, ha, qa⟩ := hi H enc W _ _ _ _ _ g0
    obtain ⟨b, hb, qb⟩ := hj H enc W _ _ _ _ _ g1
    exact ⟨(a, b), hE _ _ _ _ _ ha hb, qa, qb⟩
theorem agg_one {α : Type} {E : ER α} {cs : Array Value} {xs : List α} {H : Heap} (h : (slE E).R H cs.toList xs) : ∃ v, cs = #[v] ∧ RdS E H v xs := by
  obtain ⟨v, h1, h2⟩ := h
  exact ⟨v, Array.toList_inj.1 h1, h2⟩
end Go.SX

set_option linter.unusedVariables false
namespace Go.Proofs.Ytmigaagkfglabaa
open Go.ChangeShapes Go.WideShapes Go.ChangeAt Go.RowKit Go.SX

theorem indexBack_own : ownKnob Try.prog.godebug = none := by kernel_rfl
theorem indexBack_laid : laidOutB Try.prog = true := by kernel_rfl

set_option maxRecDepth 100000 in
theorem indexBack_lifted (os : Os) (started : os.Started) (H : Type) (enc : TypeId × Value → H) :
    ReturnsInHanded {} Try.checked os 7 .any (Rows.indexBackSpec.pre6 enc Try.prog Try.f7 Rows.indexBackRow.domain false) (Rows.indexBackSpec.post enc Try.prog Try.f7 false true false false) := by
  refine returnsInHanded_of_change (C := Try.checked) indexBack_own started (by kernel_rfl) Try.func7
    (ChangeSpec.witness6 (enc := enc) (C := Try.checked) false ⟨#[], #[.agg #[.slice none 0 0], .int .i64 0, .slice none 0 0], []⟩ 8 (by kernel_rfl) (by kernel_rfl) (by kernel_rfl) (by kernel_rfl)) ?_
  intro W base args ds gs before hval0 hW hcnd _
  have hval : ∀ (j : Nat) t v, Try.f7.params[j]? = some t → args[j]? = some v → Value.okWide Try.prog W .any base t v := hval0
  have hW' := hW
  obtain ⟨p, q, hA0, hV, rfl, hfz, hnd⟩ := hW
  have hA : DataW.TrodAll enc Try.prog W 0 (fun _ => true) true Try.f7.params.toList args.toList ds p := hA0
  rw [Try.params7] at hA hval
  clear hA0 hval0
  obtain ⟨v0, vs0, d0, ds0, p0, q0, e0, rfl, rfl, h0, r0⟩ := trodAll_cons hA
  obtain ⟨v1, vs1, d1, ds1, p1, q1, e1, rfl, rfl, h1, r1⟩ := trodAll_cons r0
  subst e1
  obtain ⟨v2, vs2, d2, ds2, p2, q2, e2, rfl, rfl, h2, r2⟩ := trodAll_cons r1
  subst e2
  obtain ⟨e3, rfl, rfl⟩ := trodAll_nil r2
  subst e3
  obtain rfl : args = #[v0, v1, v2] := by cases args; simp_all
  obtain ⟨rfl, rfl⟩ := trodVars_none hV
  obtain ⟨cs0, xs0, rfl, hx0, hw0⟩ := open_agg (.inl ⟨_, Try.underlying46⟩) (Opn.st1 Try.underlying46 (by kernel_rfl) rfl rfl (Opn.slice Try.underlying44 (by kernel_rfl) (Opn.st2 listedE Try.underlying55 (by kernel_rfl) rfl rfl rfl rfl (Opn.int Try.underlying26) (by kernel_rfl) (Opn.slice Try.underlying37 (by kernel_rfl) (Opn.int Try.underlying3) (by decide)) (by kernel_rfl) (fun H v0 v1 a b h0 h1 => by cases (show [v0] = [.int .u64 a] from h0); obtain ⟨w1, hw1, hr1⟩ := h1; cases hw1; exact ⟨_, rfl, hr1⟩)) (by decide)) (by kernel_rfl)) (hval 0 46 v0 rfl rfl) h0
  obtain ⟨u0, rfl, hr0⟩ := agg_one hx0
  obtain ⟨x1, rfl, rfl, rfl, hw1⟩ := open_int Try.underlying3 (hval 1 3 v1 rfl rfl) h1
  obtain ⟨xs2, hr2, hw2⟩ := open_sl Try.underlying22 (Opn.slice Try.underlying22 (by kernel_rfl) (Opn.int Try.underlying26) (by decide)) (hval 2 22 v2 rfl rfl) h2
  have hpar : ∀ t ∈ Try.f7.params.toList, Try.prog.readableRec t = true ∧ t < Try.prog.types.size := by
    intro t ht
    rw [Try.params7] at ht
    simp only [List.mem_cons, List.not_mem_nil, or_false] at ht
    rcases ht with rfl | rfl | rfl
    · exact ⟨by kernel_rfl, of_decide_eq_true (by kernel_rfl)⟩
    · exact ⟨by kernel_rfl, of_decide_eq_true (by kernel_rfl)⟩
    · exact ⟨by kernel_rfl, of_decide_eq_true (by kernel_rfl)⟩
  refine (calls_of_Fv Try.func7 rfl (by kernel_rfl) (Fv.to (windroselaw14_IndexBack_c _ xs0 _ hr0 x1 _ xs2 hr2) (congrArg Value.bool (indexBack_true xs0 x1 xs2 (fun r hr => u_of_wf (hw0 r hr).1) (fun x hx => u_of_wf (hw2 x hx)))))).mono fun e W' ⟨he, hb⟩ => ?_
  subst he
  exact ⟨_, rfl, post_true indexBack_laid hW' rfl hpar rfl rfl Try.underlying4 hb⟩

theorem indexBack_holds : Rows.IndexBackSaid :=
  OpenClaim.holds_of_wide 7 Try.f7 rfl rfl rfl rfl rfl rfl rfl ⟨rfl, rfl, rfl, rfl, rfl⟩ rfl rfl rfl rfl rfl (by kernel_rfl) Try.func7 (by kernel_rfl)
    (of_decide_eq_true (by kernel_rfl)) (by unfold Func.isWrapper; first | (rw [if_pos (by decide +kernel)]; kernel_rfl) | (rw [if_neg (by decide +kernel)]; exact ⟨rfl, rfl⟩))
    (fun os started H enc _ => indexBack_lifted os started H enc)
end Go.Proofs.Ytmigaagkfglabaa
