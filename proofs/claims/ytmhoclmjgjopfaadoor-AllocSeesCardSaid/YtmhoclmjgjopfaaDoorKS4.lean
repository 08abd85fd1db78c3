/- 'AllocSees' answers true, whatever it is handed, and what it is handed reads behind it as it did: the row, and its tied card. -/
import Derived.RangeFuncNested
import Derived.RangeFuncBound
import Derived.RangeFuncCalls
import Derived.RangeFuncLeaves
import Derived.Shelf.Abstract
import Derived.Laws.AppendOwn
import Derived.Laws.OwnMore
import Derived.KernelRfl
import Derived.IntWalk
import Derived.Laws.Append
import Derived.WideLaws
import Derived.Laws.Slices
import Derived.Laws.MakeOwn
import Derived.OrdersIn
import Derived.Laws.Cover3
import Derived.Test.YtmhoclmjgjopfaaDoorProg
import Derived.Laws.StructEq
import Derived.Shelf.Sort.Plain
import Derived.Sort.OwnSortedInts
import Derived.Shelf.Slices.In.SortNone
import Derived.ProofKit
import Derived.ChangeSlices
import Derived.Carry
import Derived.Deep.Slices
import Derived.OpenShut
import Derived.Test.YtmhoclmjgjopfaaDoorCards
import Derived.Test.YtmhoclmjgjopfaaDoorTie
import Derived.LaidMore
import Derived.Stop.Joined
import Derived.MakeChecks
import Derived.Test.YtmhoclmjgjopfaaDoorKS3
set_option linter.unusedVariables false
set_option linter.unusedSimpArgs false
namespace Go.SX
open Go
def roomI (a : Al) : Int := min (a.1 - ((aliveN a.2.1 : Int) - 2)) ((a.2.2.length : Int) + a.1 + 2 - a.2.1.length)
theorem room_rt {a : Al} (h : Rt a) : alloc_Room_m a = roomI a := by
  have h1 := h.n2
  have h2 := h.m2
  have h3 := h.flen
  have h4 := h.m1
  have h5 := h.n1
  have h6 := aliveN_le a.2.1
  unfold alloc_Room_m
  rw [if_neg (fun k => k ((check_iff (by omega)).1.2 h)), many_eq (by omega)]
  rw [wrap_i64 (x := a.1 - ((aliveN a.2.1 : Int) - 2)) (by omega) (by omega)]
  try rw [wrap_i64 (x := (a.2.2.length : Int) + a.1) (by omega) (by omega)]
  try rw [wrap_i64 (x := (a.2.2.length : Int) + a.1 + 2) (by omega) (by omega)]
  try rw [wrap_i64 (x := (a.2.2.length : Int) + a.1 + 2 - a.2.1.length) (by omega) (by omega)]
  unfold roomI
  split <;> omega
theorem room_not {a : Al} (hs : a.2.1.length ≤ 2000000) (h : ¬ Rt a) : alloc_Room_m a = 0 := by
  unfold alloc_Room_m
  rw [if_pos (fun k => h ((check_iff hs).1.1 k))]
theorem room_ref {a : Al} (h : Rt a) : windroseref02_Room_m a = roomI a := by
  have h1 := h.n2
  have h2 := h.m2
  have h3 := h.flen
  have h4 := h.m1
  have h5 := h.n1
  have h6 := aliveN_le a.2.1
  unfold windroseref02_Room_m
  rw [alive_ref (by omega)]
  try rw [wrap_i64 (x := a.1 - ((aliveN a.2.1 : Int) - 2)) (by omega) (by omega)]
  try rw [wrap_i64 (x := (a.2.2.length : Int) + a.1) (by omega) (by omega)]
  try rw [wrap_i64 (x := (a.2.2.length : Int) + a.1 + 2) (by omega) (by omega)]
  try rw [wrap_i64 (x := (a.2.2.length : Int) + a.1 + 2 - a.2.1.length) (by omega) (by omega)]
  unfold roomI
  split <;> omega
/-- What a Take that goes well does. -/
structure Tk (a b : Al) (x : Int) : Prop where
  most : b.1 = a.1
  at_ : ∃ (j : Nat) (g : Int), 2 ≤ j ∧ b.2.1[j]? = some (g, true) ∧ x = entI ((j : Int) + 1) g ∧ (∀ i, i ≠ j → b.2.1[i]? = a.2.1[i]?) ∧ ((a.2.1[j]? = none ∧ g = 0) ∨ (a.2.1[j]? = some (g - 1, false)))
  alive : aliveN b.2.1 = aliveN a.2.1 + 1
  room : roomI b = roomI a - 1
theorem Alive_rt {a : Al} (h : Rt a) (x : Int) : alloc_Alive_m a x = alloc_alive_m a x := by
  have h1 := h.n2
  have h2 := h.m2
  unfold alloc_Alive_m
  rw [if_pos ((check_iff (by omega)).1.2 h)]
theorem entI_tmod {i g : Int} (h : 1 ≤ i ∧ i ≤ 1048578) (hg : 0 ≤ g ∧ g ≤ 7) : Int.tmod (entI i g) 4294967296 = i := by
  unfold entI
  rw [Int.tmod_eq_emod_of_nonneg (by omega)]
  omega
end Go.SX

set_option linter.unusedVariables false
set_option linter.unusedSimpArgs false
namespace Go.SX
open Go Go.Proofs

def windroselaw02_AllocRoom_l2  : Nat → Nat → (Int × (List (Int × Bool)) × (List Int)) → LR (Bool) (Int × (List (Int × Bool)) × (List Int))
  | 0, kl2, sl2 => .go ((sl2.1, sl2.2.1, sl2.2.2))
  | ml2 + 1, kl2, sl2 => LR.seq (alloc_Take_m ((sl2.1, sl2.2.1, sl2.2.2))) (fun r43 => LR.seq (if r43.2.2 ≠ 0 then true else (if (alloc_Alive_m ((sl2.1, sl2.2.1, sl2.2.2)) r43.2.1) = true then true else ((!(alloc_Alive_m r43.1 r43.2.1)))) : Bool) (fun sc3 => if sc3 = true then (.ret false) else (windroselaw02_AllocRoom_l2 ml2 (kl2 + 1) ((r43.1.1, r43.1.2.1, r43.1.2.2)))))
def windroselaw02_AllocRoom_m (a0 : Int × (List (Int × Bool)) × (List Int)) : Bool :=
  if (!windroselaw02_wakes_m) = true then false else (LR.seq (windroselaw02_own_m a0) (fun r14 => if ((alloc_Check_m r14) : Int) ≠ 0 then (if ((alloc_Room_m r14) : Int) = 0 then (LR.seq (alloc_All_m r14) (fun r23 => (decide ((r23.length : Int) = 0)))) else false) else (LR.seq (if (60 : Int) < r14.1 then (((if ((r14.2.1.length : Int) - 2) < 1 then 1 else ((r14.2.1.length : Int) - 2)), r14.2.1, r14.2.2)) else ((r14.1, r14.2.1, r14.2.2)) : Int × (List (Int × Bool)) × (List Int)) (fun sc1 => LR.on (windroselaw02_AllocRoom_l2 ((((alloc_Room_m ((sc1.1, sc1.2.1, sc1.2.2)))).toNat) - 0) 0 ((sc1.1, sc1.2.1, sc1.2.2))) (fun r => r) (fun ol2 => LR.seq (alloc_Take_m ((ol2.1, ol2.2.1, ol2.2.2))) (fun r64 => if r64.2.2 = 6 then true else (if r64.2.2 = 121 then (LR.seq (alloc_All_m ((ol2.1, ol2.2.1, ol2.2.2))) (fun r75 => (decide ((r75.length : Int) < (IntKind.i64.wrap (ol2.1 + 2)))))) else false)))))))
end Go.SX

set_option linter.unusedVariables false
set_option linter.unusedSimpArgs false
namespace Go.SX
open Go
theorem at_some {a : Al} (h : Rt a) {i : Nat} {g : Int} (hi : a.2.1[i]? = some (g, true)) : alloc_At_m a ((i : Int) + 1) = (entI ((i : Int) + 1) g, true) := by
  have hn := h.n2
  have hm := h.m2
  have hl := (List.getElem?_eq_some_iff.1 hi).1
  have r := h.rng hi
  simp only at r
  have e : a.2.1.getD (((i : Int) + 1 - 1)).toNat ((0 : Int), false) = (g, true) := by
    rw [show ((i : Int) + 1 - 1).toNat = i by omega, List.getD_eq_getElem?_getD, hi]; rfl
  unfold alloc_At_m
  rw [e, (check_iff (by omega)).1.2 h, if_neg (by decide), if_neg (by omega), if_neg (by omega), LR.seq_go, Bool.not_true, if_neg Bool.false_ne_true, LR.seq_go, entity_ok r.1 r.2]
  rfl
theorem at_none {a : Al} (h : Rt a) {m : Int} (hno : ∀ (i : Nat) (g : Int), a.2.1[i]? = some (g, true) → m ≠ (i : Int) + 1) : alloc_At_m a m = (0, false) := by
  have hn := h.n2
  have hm := h.m2
  unfold alloc_At_m
  rw [(check_iff (by omega)).1.2 h, if_neg (by decide), LR.seq_go]
  by_cases h1 : m < 1
  · rw [if_pos h1, if_pos rfl]
  rw [if_neg h1]
  by_cases h2 : (a.2.1.length : Int) < m
  · rw [if_pos h2, if_pos rfl]
  rw [if_neg h2]
  have hk : (m - 1).toNat < a.2.1.length := by omega
  cases e : (a.2.1.getD (m - 1).toNat ((0 : Int), false)).2 with
  | false => rw [Bool.not_false, if_pos rfl]
  | true =>
    exfalso
    rw [List.getD_eq_getElem?_getD, List.getElem?_eq_getElem hk] at e
    refine hno (m - 1).toNat (a.2.1[(m - 1).toNat]).1 ?_ (by omega)
    rw [List.getElem?_eq_getElem hk]
    refine congrArg some ?_
    exact Prod.ext rfl e
theorem at_not {a : Al} (hs : a.2.1.length ≤ 2000000) (h : ¬ Rt a) (m : Int) : alloc_At_m a m = (0, false) := by
  unfold alloc_At_m
  rw [if_pos (fun k => h ((check_iff hs).1.1 k)), LR.seq_go, if_pos rfl]
theorem l6_none (y : Int) : ∀ (l : List Int) (st : Int × Bool), (∀ e ∈ l, IntKind.i64.wrap (Int.tmod e 4294967296) ≠ IntKind.i64.wrap (IntKind.i64.wrap (Int.tmod y 64) - 2)) → windroselaw02_AllocSees_l6 y l st = st
  | [], st, _ => rfl
  | e :: l, st, h => by
    rw [windroselaw02_AllocSees_l6, if_neg (h e (List.mem_cons_self ..))]
    exact l6_none y l _ (fun x hx => h x (List.mem_cons_of_mem _ hx))
theorem l6_some (y e0 : Int) : ∀ (l : List Int) (st : Int × Bool), (∀ e ∈ l, IntKind.i64.wrap (Int.tmod e 4294967296) = IntKind.i64.wrap (IntKind.i64.wrap (Int.tmod y 64) - 2) → e = e0) → ((∃ e ∈ l, IntKind.i64.wrap (Int.tmod e 4294967296) = IntKind.i64.wrap (IntKind.i64.wrap (Int.tmod y 64) - 2)) ∨ st = (e0, true)) → windroselaw02_AllocSees_l6 y l st = (e0, true)
  | [], st, _, h => by
    rcases h with ⟨e, he, _⟩ | h
    · cases he
    · exact h
  | e :: l, st, hu, h => by
    rw [windroselaw02_AllocSees_l6]
    have hu' : ∀ x ∈ l, IntKind.i64.wrap (Int.tmod x 4294967296) = IntKind.i64.wrap (IntKind.i64.wrap (Int.tmod y 64) - 2) → x = e0 := fun x hx => hu x (List.mem_cons_of_mem _ hx)
    by_cases c : IntKind.i64.wrap (Int.tmod e 4294967296) = IntKind.i64.wrap (IntKind.i64.wrap (Int.tmod y 64) - 2)
    · rw [if_pos c]
      exact l6_some y e0 l _ hu' (.inr (by rw [hu e (List.mem_cons_self ..) c]))
    · rw [if_neg c]
      refine l6_some y e0 l _ hu' ?_
      rcases h with ⟨x, hx, h⟩ | h
      · rcases List.mem_cons.1 hx with rfl | hx
        · exact absurd h c
        · exact .inl ⟨x, hx, h⟩
      · exact .inr h
theorem wrap_idx {i g : Int} (h : 1 ≤ i ∧ i ≤ 1048578) (hg : 0 ≤ g ∧ g ≤ 7) : IntKind.i64.wrap (Int.tmod (entI i g) 4294967296) = i := by
  rw [entI_tmod h hg]; exact wrap_i64 (by omega) (by omega)
theorem sees_at {a : Al} (h : Rt a) (y : Int) : alloc_At_m a (IntKind.i64.wrap (IntKind.i64.wrap (Int.tmod y 64) - 2)) = windroselaw02_AllocSees_l6 y (allL a.2.1 0) (0, false) := by
  by_cases c : ∃ (i : Nat) (g : Int), a.2.1[i]? = some (g, true) ∧ IntKind.i64.wrap (IntKind.i64.wrap (Int.tmod y 64) - 2) = (i : Int) + 1
  · obtain ⟨i, g, h1, h2⟩ := c
    have r := h.rng h1
    simp only at r
    rw [h2, at_some h h1]
    refine (l6_some y (entI ((i : Int) + 1) g) _ _ ?_ (.inl ⟨entI ((i : Int) + 1) g, (all_mem _).2 ⟨i, g, h1, rfl⟩, by rw [wrap_idx r.1 r.2, h2]⟩)).symm
    intro e he hm
    obtain ⟨j, g', h3, h4⟩ := (all_mem _).1 he
    have r2 := h.rng h3
    simp only at r2
    rw [h4, wrap_idx r2.1 r2.2, h2] at hm
    have : j = i := by omega
    subst this
    rw [h1] at h3; injection h3 with h3; injection h3 with h3
    rw [h4, h3]
  · rw [at_none h (fun i g h1 h2 => c ⟨i, g, h1, h2⟩), l6_none]
    intro e he hm
    obtain ⟨j, g', h3, h4⟩ := (all_mem _).1 he
    have r2 := h.rng h3
    simp only at r2
    rw [h4, wrap_idx r2.1 r2.2] at hm
    exact c ⟨j, g', h3, hm.symm⟩
theorem sees_l4 {a : Al} {all : List Int} (h1 : ∀ y, (if windroseref02_Right_m a = true then (alloc_Alive_m a y != windroseref02_Is_m a y) else (alloc_Alive_m a y != false)) = false)
    (h2 : ∀ y, alloc_At_m a (IntKind.i64.wrap (IntKind.i64.wrap (Int.tmod y 64) - 2)) = windroselaw02_AllocSees_l6 y all (0, false)) : ∀ (l : List Int) (k : Nat), windroselaw02_AllocSees_l4 a all l k () = .go ()
  | [], k => rfl
  | y :: ys, k => by
    rw [windroselaw02_AllocSees_l4]
    split
    · rfl
    · rw [h1 y, LR.seq_go, if_neg Bool.false_ne_true, LR.seq_go, LR.seq_go, h2 y, LR.seq_go]
      simp only [ne_eq, not_true_eq_false, if_false, bne_self_eq_false, Bool.false_eq_true]
      exact sees_l4 h1 h2 ys (k + 1)
theorem allocSees_true (a0 : Al) (a1 : List Int) : windroselaw02_AllocSees_m a0 a1 = true := by
  obtain ⟨k1, k2⟩ := own_len a0
  unfold windroselaw02_AllocSees_m
  rw [wakes_true, Bool.not_true, if_neg Bool.false_ne_true, LR.seq_go]
  have hsame : windroseref02_Same_m (windroselaw02_own_m a0) (windroselaw02_own_m a0) = true := by rw [same_ref]; exact decide_eq_true rfl
  generalize windroselaw02_own_m a0 = a at *
  have hc := check_iff (a := a) (by omega)
  have hr := right_ref (a := a) (by omega) (by omega)
  by_cases h : Rt a
  · have hR := hr.2 h
    have h1 : ∀ y, (if windroseref02_Right_m a = true then (alloc_Alive_m a y != windroseref02_Is_m a y) else (alloc_Alive_m a y != false)) = false := fun y => by
      rw [if_pos hR, Alive_rt h, is_alive h, bne_self_eq_false]
    rw [if_pos hR, LR.seq_go, LR.seq_go, LR.seq_go, all_rt h, ref_all h, room_rt h, room_ref h, LR.seq_go]
    simp only [ne_eq, not_true_eq_false, if_false, decide_false, Bool.false_eq_true]
    rw [sees_l4 h1 (sees_at h)]
    exact hsame
  · have hR : windroseref02_Right_m a = false := by
      cases e : windroseref02_Right_m a with
      | false => rfl
      | true => exact absurd (hr.1 e) h
    have hA : ∀ y, alloc_Alive_m a y = false := fun y => by
      cases e : alloc_Alive_m a y with
      | false => rfl
      | true => exact absurd ((alive_m_iff (by omega) y).1 e).1 h
    have h1 : ∀ y, (if windroseref02_Right_m a = true then (alloc_Alive_m a y != windroseref02_Is_m a y) else (alloc_Alive_m a y != false)) = false := fun y => by
      rw [if_neg (by rw [hR]; exact Bool.false_ne_true), hA y]; rfl
    rw [if_neg (by rw [hR]; exact Bool.false_ne_true), LR.seq_go, LR.seq_go, LR.seq_go, all_not (by omega) h, room_not (by omega) h]
    simp only [ne_eq, not_true_eq_false, if_false, decide_false, Bool.false_eq_true]
    rw [sees_l4 h1 (fun y => by rw [at_not (by omega) h]; rfl)]
    exact hsame
/-! AllocGives -/
end Go.SX

set_option linter.unusedVariables false
set_option linter.unusedSimpArgs false
namespace Go.SX
open Go Go.ChangeShapes Go.WideShapes Go.ChangeAt Go.RowKit

/-- All that stands in a world's memory can be read. -/
def heapOf (W : World) : Heap := fun b => W.heap[b]?
theorem sat_heapOf (W : World) : Sat (heapOf W) [] W := ⟨fun _ _ h => h, fun p h => (by cases h), List.nodup_nil, fun p h => (by cases h)⟩

/-- A contract of a function that hands back v, at a world. -/
theorem calls_of_Fv {P : Program} {f : FuncId} {fn : Func} {c : Code} {vs : List Value} {v : Value} {W : World} (hf : P.funcs[f]? = some fn) (hb : fn.body = some c) (hname : (fn.name == "runtime.NumGoroutine") = false)
    (h : Fv P (fnv f) vs (heapOf W) v) : Calls P f vs.toArray W fun e W' => e = .returned v ∧ Below W.heap.size W W' := by
  obtain ⟨nx, w1, h1, h2⟩ := h W (sat_heapOf W)
  have he := Go.Proofs.enters_of (P := P) hf hname hb vs.toArray W
  have hrun : Sem.run P (do let d ← Deferred.ofValue (fnv f) vs.toArray; invoke d.target d.args) W = .ok (.enter f vs.toArray) W := by
    simp [Deferred.ofValue, invoke, he]
  rw [hrun] at h1
  injection h1 with h1 h3
  subst h1; subst h3
  refine callsIn_wide.1 (CallsIn.mono h2 ?_)
  rintro e w' ⟨u, H', L', rfl, hst, rfl, rfl⟩
  exact ⟨rfl, hst.chg.os, hst.chg.tape, hst.chg.output, hst.chg.size, fun b hb => hst.chg.same b hb (by simp [keys])⟩

section
variable {H : Type} {enc : TypeId × Value → H} {P : Program}

theorem trodAll_below (hl : laidOutB P = true) {W W' : World} (hb : Below W.heap.size W W') {sp : Nat → Bool} : ∀ {ts : List TypeId} {vs : List Value} {ds : List (DataW H)} {p : List MemPlace},
    (∀ t ∈ ts, P.readableRec t = true ∧ t < P.types.size) → DataW.TrodAll enc P W 0 (fun _ => true) true ts vs ds p → (∀ q ∈ p, q.block < W.heap.size ∧ sp q.block = true) → DataW.TrodAll enc P W' 0 sp true ts vs ds p
  | [], _, _, _, _, h, _ => by
    obtain ⟨rfl, rfl, rfl⟩ := trodAll_nil h
    exact trodAll_mk0
  | t :: ts, _, _, _, ht, h, hp => by
    obtain ⟨v, vs, d, ds, a, b, rfl, rfl, rfl, h1, h2⟩ := trodAll_cons h
    have h3 := WideElems.Trod_stays (sp' := sp) hl (ht t (List.mem_cons_self ..)).1 (ht t (List.mem_cons_self ..)).2 h1 (fun x hx => hb.same (hp x (List.mem_append_left _ hx)).1) (fun x hx => (hp x (List.mem_append_left _ hx)).2)
    exact ⟨a, b, h3, trodAll_below hl hb (fun t' h' => ht t' (List.mem_cons_of_mem _ h')) h2 (fun x hx => hp x (List.mem_append_right _ hx)), rfl⟩

/-- What is asked behind a call that turned nothing of what there was, and says true. -/
theorem post_true {f : Func} {s : ChangeSpec} {fresh handsOn again : Bool} {W W' : World} {args : Array Value} {ds gs : List (DataW H)} {before : List MemPlace} {tb : TypeId} (hl : laidOutB P = true)
    (hW : DataW.Whole enc P f.params.toList s.vars false W args.toList ds gs before) (hvars : s.vars = []) (hpar : ∀ t ∈ f.params.toList, P.readableRec t = true ∧ t < P.types.size)
    (hs : s.fn H (ds ++ gs) = { results := [.lit (.bool true)], args := ds }) (hrt : f.resultTypes = #[tb]) (htb : P.underlying tb = some .bool) (hb : Below W.heap.size W W') :
    s.post enc P f false fresh handsOn again W args (.bool true) W' := by
  have hlt := hW.lt
  have hW0 := hW
  obtain ⟨p, q, hA, hV, rfl, hfz, hnd⟩ := hW
  rw [hvars] at hV
  obtain ⟨rfl, rfl⟩ := trodVars_none hV
  rw [List.append_nil] at hfz hlt
  have hres : ∀ (b : Nat) (sp : Nat → Bool) (hd : Bool), DataW.TrodAll enc P W' b sp hd f.resultTypes.toList ((Value.bool true).resultList f.resultTypes.size) [.lit (.bool true)] [] := by
    intro b sp hd
    rw [hrt]
    exact trodAll_mk1 (shut_bool htb true)
  have hargs : ∀ sp : Nat → Bool, (∀ x ∈ p, sp x.block = true) → DataW.TrodAll enc P W' 0 sp true f.params.toList args.toList ds p := fun sp hsp =>
    trodAll_below hl hb hpar hA (fun x hx => ⟨hlt x hx, hsp x hx⟩)
  have hvr : ∀ sp : Nat → Bool, DataW.TrodVars enc P W' sp s.vars ([] : List (DataW H)) [] := fun sp => by rw [hvars]; rfl
  refine ⟨ds, [], p ++ [], [], p, [], hW0, ?_, ?_, ?_, World.keptBut_mono (fun x hx => ⟨hx, ?_⟩) (hb.frame (· ∈ p ++ [])), fun _ => ?_⟩
  · rw [hs]; exact hres _ _ _
  · rw [hs]; exact hargs _ (fun x hx => by simpa using hlt x hx)
  · rw [hs]; exact hvr _
  · exact Or.inr (by simpa using hx)
  · refine ⟨ok_one hrt rfl (okWide_bool_mk htb true), _, _, ([] ++ p) ++ [], ⟨[] ++ p, [], trodAll_append (hargs _ (fun _ _ => rfl)) (hres _ _ _), hvr _, rfl, ?_, fun h => by cases h⟩, ?_⟩
    · intro b off hp
      have hp' : MemPlace.cell b off ∈ p := by simpa using hp
      have := hb.frozen (p := ⟨b, off, none⟩) (hlt _ hp')
      rw [this]
      exact hfz b off hp'
    · intro x hx _
      simpa using hx

theorem cellAt_heapOf {W : World} {b o : Nat} {v : Value} (h : W.cell? ⟨b, o, none⟩ = some v) : cellAt (heapOf W) b o = some v := by
  unfold World.cell? at h
  unfold cellAt heapOf
  simp only at h
  revert h
  cases hb : W.heap[b]? with
  | none => intro h; simp at h
  | some ob => cases ob <;> intro h <;> simp_all

end
end Go.SX

set_option linter.unusedVariables false
set_option linter.unusedSimpArgs false
namespace Go.SX
open Go Go.ChangeShapes Go.WideShapes Go.ChangeAt Go.RowKit Go.Deep
/-- What can be read at the type stands as E says. -/
def Opn (P : Program) (t : TypeId) {α : Type} (E : ER α) (Q : α → Prop) : Prop :=
  ∀ (H : Type) (enc : TypeId × Value → H) (W : World) (sp : Nat → Bool) (hd : Bool) (n : Nat) (cs : List Value) (x : DataW H × List MemPlace), DataW.trod enc P W 0 sp hd n t cs = some x → ∃ a, E.R (heapOf W) cs a ∧ Q a
theorem Opn.int {P : Program} {t : TypeId} {k : IntKind} (ht : P.underlying t = some (.int k)) : Opn P t (intE k) (fun x => (Lit.int k x).wf = true) := fun H enc W sp hd n cs x h => by
  obtain ⟨n, rfl, _, hw⟩ := DataW.trod_int ht h
  exact ⟨n, rfl, hw⟩
theorem Opn.bool {P : Program} {t : TypeId} (ht : P.underlying t = some .bool) : Opn P t boolE (fun _ => True) := fun H enc W sp hd n cs x h => by
  obtain ⟨b, rfl, _⟩ := DataW.trod_bool ht h
  exact ⟨b, rfl, trivial⟩
theorem Opn.weak {P : Program} {t : TypeId} {α : Type} {E : ER α} {Q Q' : α → Prop} (h : Opn P t E Q) (hq : ∀ a, Q a → Q' a) : Opn P t E Q' := fun H enc W sp hd n cs x hx => by
  obtain ⟨a, h1, h2⟩ := h H enc W sp hd n cs x hx
  exact ⟨a, h1, hq a h2⟩
/-- An array of two ints. -/
theorem Opn.two {P : Program} {t i : TypeId} (ht : P.underlying t = some (.array 2 i)) (ct : P.cellsOf t = 2) (hi : P.underlying i = some (.int .i64)) (ci : P.cellsOf i = 1) : Opn P t pairE (fun _ => True) := fun H enc W sp hd n cs x h => by
  obtain ⟨xs, m, _, _, hl, hxl, hf⟩ := DataW.trod_array ht h
  rw [ct] at hl
  match cs, hl, xs, hxl with
  | [v0, v1], _, [y0, y1], _ =>
    have g0 := hf 0 (by omega)
    have g1 := hf 1 (by omega)
    rw [ci] at g0 g1
    simp at g0 g1
    obtain ⟨a, ha, _⟩ := DataW.trod_int hi g0
    obtain ⟨b, hb, _⟩ := DataW.trod_int hi g1
    simp at ha hb
    subst ha; subst hb
    exact ⟨(a, b), rfl, trivial⟩
/-- A slice. -/
theorem Opn.slice {P : Program} {t e : TypeId} {α : Type} {E : ER α} {Q : α → Prop} (ht : P.underlying t = some (.slice e)) (hc : P.cellsOf e = E.size) (he : Opn P e E Q) (hs : 0 < E.size) : Opn P t (slE E) (fun xs => ∀ x ∈ xs, Q x) := fun H enc W sp hd n cs x h => by
  rcases open_slice ht h with ⟨rfl, _⟩ | ⟨a, len, cap, m, n', D, Pl, rfl, _, hl, hm, hmm, _, hx⟩
  · exact ⟨[], ⟨_, rfl, RdS.nil⟩, fun x hx => by simp at hx⟩
  · have key : ∀ i, i < len → ∃ x, (∃ b o, a = ⟨b, o, none⟩ ∧ ElemAt E (heapOf W) b (o + i * E.size) x) ∧ Q x := fun i hi => by
      obtain ⟨cs', h1, h2⟩ := hx i (by rw [hmm]; split <;> omega)
      obtain ⟨x, h3, h4⟩ := he H enc W sp hd n' cs' _ h2
      refine ⟨x, ?_, h4⟩
      rw [hc] at h1
      obtain ⟨_, hlen, hcell⟩ := World.cells?_some h1
      obtain ⟨ab, ao, asp⟩ := a
      cases asp with
      | none =>
        refine ⟨ab, ao, rfl, cs', h3, fun j u hj => ?_⟩
        have hjl : j < E.size := by rw [← hlen]; exact (List.getElem?_eq_some_iff.1 hj).1
        have h5 := hcell j hjl
        rw [hj, add_add, Addr.add_lit] at h5
        have := cellAt_heapOf h5
        rw [show ao + i * E.size + j = ao + (i * E.size + j) by omega]
        exact this
      | some s =>
        exfalso
        obtain ⟨cs0, k1, _⟩ := hx 0 (by rw [hmm]; split <;> omega)
        rw [hc, Nat.zero_mul, Addr.add_zero'] at k1
        obtain ⟨_, klen, kcell⟩ := World.cells?_some k1
        have h5 := kcell 0 hs
        rw [Addr.add_zero'] at h5
        obtain ⟨u, hu⟩ : ∃ u, cs0[0]? = some u := ⟨cs0[0], List.getElem?_eq_getElem (by omega)⟩
        rw [hu] at h5
        unfold World.cell? at h5
        revert h5
        cases hb : W.heap[ab]? with
        | none => intro h; simp [hb] at h
        | some ob => cases ob <;> intro h <;> simp [hb] at h
    obtain ⟨f, hf⟩ : ∃ f : Nat → Option α, ∀ i, i < len → ∃ x, f i = some x ∧ (∃ b o, a = ⟨b, o, none⟩ ∧ ElemAt E (heapOf W) b (o + i * E.size) x) ∧ Q x := by
      classical
      refine ⟨fun i => if hi : i < len then some (Classical.choose (key i hi)) else none, fun i hi => ?_⟩
      exact ⟨_, dif_pos hi, Classical.choose_spec (key i hi)⟩
    have hxs : ∀ n, n ≤ len → ∃ xs : List α, xs.length = n ∧ ∀ i, i < n → xs[i]? = f i := fun n => by
      induction n with
      | zero => exact fun _ => ⟨[], rfl, fun i hi => absurd hi (Nat.not_lt_zero _)⟩
      | succ n ih =>
        intro hn
        obtain ⟨xs, h1, h2⟩ := ih (by omega)
        obtain ⟨x, h3, _⟩ := hf n (by omega)
        refine ⟨xs ++ [x], by simp [h1], fun i hi => ?_⟩
        by_cases h : i < n
        · rw [List.getElem?_append_left (by omega)]; exact h2 i h
        · obtain rfl : i = n := by omega
          rw [List.getElem?_append_right (by omega), h1, Nat.sub_self, h3]; rfl
    obtain ⟨xs, h1, h2⟩ := hxs len (Nat.le_refl _)
    subst h1
    refine ⟨xs, ⟨_, rfl, some a, cap, rfl, hl, hm, fun i x hx => ?_⟩, fun x hx => ?_⟩
    · have hi : i < xs.length := (List.getElem?_eq_some_iff.1 hx).1
      obtain ⟨y, h3, ⟨b, o, h4, h5⟩, _⟩ := hf i hi
      rw [h2 i hi, h3] at hx
      injection hx with hx
      subst hx
      exact ⟨b, o, by rw [h4], h5⟩
    · obtain ⟨i, hi, rfl⟩ := List.mem_iff_getElem.1 hx
      obtain ⟨y, h3, _, h4⟩ := hf i hi
      have := h2 i hi
      rw [h3, List.getElem?_eq_getElem hi] at this
      injection this with this
      rw [this]; exact h4
section
variable {P : Program} {H : Type} {enc : TypeId × Value → H} {W : World} {r : Reach} {b0 : Nat} {t : TypeId} {v : Value} {d : DataW H} {p : List MemPlace} {α : Type} {E : ER α} {Q : α → Prop}
/-- A slice that is handed in. -/
theorem open_sl {e : TypeId} (ht : P.underlying t = some (.slice e)) (ho : Opn P t (slE E) (fun xs => ∀ x ∈ xs, Q x)) (hval : Value.okWide P W r b0 t v) (h : DataW.Trod enc P W 0 (fun _ => true) true t v d p) :
    ∃ xs : List α, RdS E (heapOf W) v xs ∧ ∀ x ∈ xs, Q x := by
  obtain ⟨a0, len, cap, rfl⟩ := okWide_slice ht hval
  obtain ⟨n, hn⟩ := h
  obtain ⟨xs, ⟨u, h1, h2⟩, h3⟩ := ho H enc W _ _ n _ _ hn
  have : Value.slice a0 len cap = u := by simpa [Value.cells] using h1
  rw [this]
  exact ⟨xs, h2, h3⟩
/-- A struct, or an array, that is handed in. -/
theorem open_agg (hu : (∃ fs, P.underlying t = some (.struct fs)) ∨ ∃ n e, P.underlying t = some (.array n e)) (ho : Opn P t E Q) (hval : Value.okWide P W r b0 t v) (h : DataW.Trod enc P W 0 (fun _ => true) true t v d p) :
    ∃ cs a, v = .agg cs ∧ E.R (heapOf W) cs.toList a ∧ Q a := by
  have hv : ∃ cs, v = .agg cs := by
    unfold Value.okWide at hval
    rcases hu with ⟨fs, hu⟩ | ⟨n, e, hu⟩
    · rw [hu] at hval; obtain ⟨cs, h1, _⟩ := hval; exact ⟨cs, h1⟩
    · rw [hu] at hval; obtain ⟨cs, h1, _⟩ := hval; exact ⟨cs, h1⟩
  obtain ⟨cs, rfl⟩ := hv
  obtain ⟨n, hn⟩ := h
  obtain ⟨a, h1, h2⟩ := ho H enc W _ _ n _ _ hn
  exact ⟨cs, a, rfl, h1, h2⟩
end
end Go.SX

set_option linter.unusedVariables false
namespace Go.SX
open Go Go.ChangeShapes Go.WideShapes Go.ChangeAt Go.RowKit Go.Proofs
def allocE : ER (Int × (List (Int × Bool)) × (List Int)) where
  size := 3
  R := fun H cs x => ∃ v1 v2, cs = [.int .i64 x.1, v1, v2] ∧ RdS slotE H v1 x.2.1 ∧ RdS (intE .i64) H v2 x.2.2
  len := fun h => by obtain ⟨v1, v2, rfl, _⟩ := h; rfl
  mono := fun hl h => by obtain ⟨v1, v2, rfl, h0, h1⟩ := h; exact ⟨v1, v2, rfl, h0.mono hl, h1.mono hl⟩
  one := fun h v hv => by
    obtain ⟨v1, v2, rfl, h0, h1⟩ := h
    simp only [List.mem_cons, List.not_mem_nil, or_false] at hv
    rcases hv with rfl | rfl | rfl <;> first | rfl | exact RdS.one (by assumption)

theorem lenN2 {α : Type} {l : List α} (h : l.length = 2) : ∃ v0 v1, l = [v0, v1] := by
  match l, h with
  | [v0, v1], _ => exact ⟨v0, v1, rfl⟩
theorem lenN3 {α : Type} {l : List α} (h : l.length = 3) : ∃ v0 v1 v2, l = [v0, v1, v2] := by
  match l, h with
  | [v0, v1, v2], _ => exact ⟨v0, v1, v2, rfl⟩
theorem opn101 : Opn Tryd.prog 101 slotE (fun x => (((Lit.int .i64 x.1).wf = true) ∧ (True))) := fun H enc W sp hd n cs x h => by
  obtain ⟨xs, m, _, _, hl, hxl, hf⟩ := DataW.trod_struct Tryd.underlying101 h
  rw [show Tryd.prog.cellsOf 101 = 2 by kernel_rfl] at hl
  replace hxl : xs.length = 2 := hxl
  obtain ⟨v0, v1, rfl⟩ := lenN2 hl
  obtain ⟨y0, y1, rfl⟩ := lenN2 hxl
  have g0 : DataW.trod enc Tryd.prog W 0 sp hd m 3 (([v0, v1].drop 0).take (Tryd.prog.cellsOf 3)) = some y0 := hf 0 _ rfl
  rw [show Tryd.prog.cellsOf 3 = 1 by kernel_rfl] at g0
  simp only [List.drop, List.take] at g0
  have g1 : DataW.trod enc Tryd.prog W 0 sp hd m 4 (([v0, v1].drop 1).take (Tryd.prog.cellsOf 4)) = some y1 := hf 1 _ rfl
  rw [show Tryd.prog.cellsOf 4 = 1 by kernel_rfl] at g1
  simp only [List.drop, List.take] at g1
  obtain ⟨x0, h0, _, w0⟩ := DataW.trod_int Tryd.underlying3 g0
  injection h0 with h0; subst h0
  obtain ⟨x1, h1, _⟩ := DataW.trod_bool Tryd.underlying4 g1
  injection h1 with h1; subst h1
  exact ⟨(x0, x1), rfl, ⟨w0, trivial⟩⟩
theorem opn25 : Opn Tryd.prog 25 allocE (fun x => (((Lit.int .i64 x.1).wf = true) ∧ (∀ z ∈ x.2.1, (((Lit.int .i64 z.1).wf = true) ∧ (True))) ∧ (∀ z ∈ x.2.2, (Lit.int .i64 z).wf = true))) := fun H enc W sp hd n cs x h => by
  obtain ⟨xs, m, _, _, hl, hxl, hf⟩ := DataW.trod_struct Tryd.underlying25 h
  rw [show Tryd.prog.cellsOf 25 = 3 by kernel_rfl] at hl
  replace hxl : xs.length = 3 := hxl
  obtain ⟨v0, v1, v2, rfl⟩ := lenN3 hl
  obtain ⟨y0, y1, y2, rfl⟩ := lenN3 hxl
  have g0 : DataW.trod enc Tryd.prog W 0 sp hd m 3 (([v0, v1, v2].drop 0).take (Tryd.prog.cellsOf 3)) = some y0 := hf 0 _ rfl
  rw [show Tryd.prog.cellsOf 3 = 1 by kernel_rfl] at g0
  simp only [List.drop, List.take] at g0
  have g1 : DataW.trod enc Tryd.prog W 0 sp hd m 22 (([v0, v1, v2].drop 1).take (Tryd.prog.cellsOf 22)) = some y1 := hf 1 _ rfl
  rw [show Tryd.prog.cellsOf 22 = 1 by kernel_rfl] at g1
  simp only [List.drop, List.take] at g1
  have g2 : DataW.trod enc Tryd.prog W 0 sp hd m 23 (([v0, v1, v2].drop 2).take (Tryd.prog.cellsOf 23)) = some y2 := hf 2 _ rfl
  rw [show Tryd.prog.cellsOf 23 = 1 by kernel_rfl] at g2
  simp only [List.drop, List.take] at g2
  obtain ⟨x0, h0, _, w0⟩ := DataW.trod_int Tryd.underlying3 g0
  injection h0 with h0; subst h0
  obtain ⟨x1, ⟨u1, h1, r1⟩, w1⟩ := (Opn.slice Tryd.underlying22 (by kernel_rfl) opn101 (by decide)) H enc W sp hd _ _ _ g1
  injection h1 with h1; subst h1
  obtain ⟨x2, ⟨u2, h2, r2⟩, w2⟩ := (Opn.slice Tryd.underlying23 (by kernel_rfl) (Opn.int Tryd.underlying3) (by decide)) H enc W sp hd _ _ _ g2
  injection h2 with h2; subst h2
  exact ⟨(x0, x1, x2), ⟨_, _, rfl, r1, r2⟩, ⟨w0, w1, w2⟩⟩

end Go.SX
namespace Go.Proofs.YtmhoclmjgjopfaaDoor
open Go.ChangeShapes Go.WideShapes Go.ChangeAt Go.RowKit Go.SX

theorem allocSees_own : ownKnob Tryd.prog.godebug = none := by kernel_rfl
theorem allocSees_laid : laidOutB Tryd.prog = true := by kernel_rfl
theorem allocSees_met (os : Os) (args : Array Value) : laidMetH Tryd.prog Rows.allocSeesRow.laid ((World.doorLaid Tryd.prog 400 os).forCall (fun _ _ => 0) ⟨#[], args, []⟩).memory :=
  laidMetH_of_parts3 (fuel := 12) (laidMet_of_run' 12 (by kernel_rfl) (by kernel_rfl)) (by kernel_rfl) (by kernel_rfl)
theorem allocSees_datum {W : World} {H : Type} {enc : TypeId × Value → H} {sp : Nat → Bool} {hd : Bool} {n : Nat} {cs : List Value} {p : List MemPlace} (h : DataW.trod enc Tryd.prog W 0 sp hd n 101 cs = some (.agg [.lit (.int .i64 0), .lit (.bool true)], p)) : cs = [.int .i64 0, .bool true] := by
  obtain ⟨xs, m, _, hx1, hl, hxl, hf⟩ := DataW.trod_struct Tryd.underlying101 h
  rw [show Tryd.prog.cellsOf 101 = 2 by kernel_rfl] at hl
  replace hxl : xs.length = 2 := hxl
  obtain ⟨v0, v1, rfl⟩ := lenN2 hl
  obtain ⟨y0, y1, rfl⟩ := lenN2 hxl
  have g0 : DataW.trod enc Tryd.prog W 0 sp hd m 3 (([v0, v1].drop 0).take (Tryd.prog.cellsOf 3)) = some y0 := hf 0 _ rfl
  have g1 : DataW.trod enc Tryd.prog W 0 sp hd m 4 (([v0, v1].drop 1).take (Tryd.prog.cellsOf 4)) = some y1 := hf 1 _ rfl
  rw [show Tryd.prog.cellsOf 3 = 1 by kernel_rfl] at g0
  rw [show Tryd.prog.cellsOf 4 = 1 by kernel_rfl] at g1
  simp only [List.drop, List.take] at g0 g1
  obtain ⟨a, h0, h1, _⟩ := DataW.trod_int Tryd.underlying3 g0
  obtain ⟨b, h2, h3⟩ := DataW.trod_bool Tryd.underlying4 g1
  injection h0 with h0
  injection h2 with h2
  subst h0
  subst h2
  simp only [Prod.mk.injEq] at hx1
  have h4 := hx1.1
  simp only [List.map_cons, List.map_nil, h1, h3, DataW.agg.injEq, List.cons.injEq, DataW.lit.injEq, Lit.int.injEq, Lit.bool.injEq, true_and, and_true] at h4
  obtain ⟨h5, h6⟩ := h4
  subst h5; subst h6; rfl
theorem allocSees_glob {W : World} (h : laidMetH Tryd.prog Rows.allocSeesRow.laid W) : ∃ t, heapOf W 0 = some (.cells #[.int .i64 0, .bool true] t) := by
  rw [MakeChecks.laidMetH_plain _ _ _ (by kernel_rfl)] at h
  obtain ⟨ps, ⟨g0, t0, cs0, f0, p0, q0, hg0, ht0, hv0, hd0, _, hps⟩, _, hrow⟩ := h
  obtain rfl := Option.some.inj ((show Tryd.prog.globalNamed "windrose/alloc.always" = some 0 by kernel_rfl).symm.trans hg0)
  obtain rfl := Option.some.inj ((show (Tryd.prog.globals[0]?).map (·.type) = some 101 by kernel_rfl).symm.trans ht0)
  have hl := allocSees_datum hd0
  have hcs : cs0 = #[.int .i64 0, .bool true] := Array.toList_inj.1 hl
  subst hcs
  have hm : MemPlace.cell 0 0 ∈ ps := by rw [hps]; simp [MemPlace.row]
  obtain ⟨⟨c, t, hh⟩, _⟩ := hrow 0 0 hm
  have hv := hv0
  simp only [World.var?, hg0, Option.bind_some, hh] at hv
  injection hv with hv
  subst hv
  exact ⟨t, hh⟩

set_option maxRecDepth 100000 in
theorem allocSees_lifted (os : Os) (started : os.Started) (H : Type) (enc : TypeId × Value → H) :
    ReturnsInHanded {} Tryd.checked os 7 .any (fun w args => (Rows.allocSeesSpec.pre enc Tryd.prog Tryd.f7 [] false w args ∧ laidMetH Tryd.prog Rows.allocSeesRow.laid w) ∧ sizedMet enc Tryd.prog Tryd.f7 (OpenSpec.ofChange Rows.allocSeesSpec) false w args)
      (Rows.allocSeesSpec.post enc Tryd.prog Tryd.f7 false true false false) := by
  refine returnsInHanded_of_change_and (C := Tryd.checked) (X := fun w _ => laidMetH Tryd.prog Rows.allocSeesRow.laid w) (fun _ _ _ hh h => h.of_heap hh) allocSees_own started (by kernel_rfl) Tryd.func7
    (ChangeSpec.witness_shaped (enc := enc) (C := Tryd.checked) (os := os) (X := fun w _ => laidMetH Tryd.prog Rows.allocSeesRow.laid w) false (World.doorLaid Tryd.prog 400 os) #[.agg #[.int .i64 0, .slice none 0 0, .slice none 0 0], .slice none 0 0] 8 rfl (World.shaped_of_RefB (by kernel_rfl) (by kernel_rfl)) (by kernel_rfl) (by kernel_rfl) (by kernel_rfl) (allocSees_met os _)) ?_
  intro W base args ds gs before hval0 hW _ _ hL _
  have hval : ∀ (j : Nat) t v, Tryd.f7.params[j]? = some t → args[j]? = some v → Value.okWide Tryd.prog W .any base t v := hval0
  have hW' := hW
  obtain ⟨p, q, hA0, hV, rfl, hfz, hnd⟩ := hW
  have hA : DataW.TrodAll enc Tryd.prog W 0 (fun _ => true) true Tryd.f7.params.toList args.toList ds p := hA0
  rw [Tryd.params7] at hA hval
  clear hA0 hval0
  obtain ⟨v0, vs0, d0, ds0, p0, q0, e0, rfl, rfl, h0, r0⟩ := trodAll_cons hA
  obtain ⟨v1, vs1, d1, ds1, p1, q1, e1, rfl, rfl, h1, r1⟩ := trodAll_cons r0
  subst e1
  obtain ⟨e2, rfl, rfl⟩ := trodAll_nil r1
  subst e2
  obtain rfl : args = #[v0, v1] := by cases args; simp_all
  obtain ⟨rfl, rfl⟩ := trodVars_none hV
  obtain ⟨cs0, x0, rfl, hx0, hw0⟩ := open_agg (.inl ⟨_, Tryd.underlying25⟩) opn25 (hval 0 25 v0 rfl rfl) h0
  obtain ⟨u0_1, u0_2, e0_, r0_1, r0_2⟩ := hx0
  obtain rfl : cs0 = #[.int .i64 x0.1, u0_1, u0_2] := Array.toList_inj.1 e0_
  obtain ⟨xs1, hr1, hw1⟩ := open_sl Tryd.underlying29 (Opn.slice Tryd.underlying29 (by kernel_rfl) (Opn.int Tryd.underlying32) (by decide)) (hval 1 29 v1 rfl rfl) h1
  have hpar : ∀ t ∈ Tryd.f7.params.toList, Tryd.prog.readableRec t = true ∧ t < Tryd.prog.types.size := by
    intro t ht
    rw [Tryd.params7] at ht
    simp only [List.mem_cons, List.not_mem_nil, or_false] at ht
    rcases ht with rfl | rfl
    · exact ⟨by kernel_rfl, of_decide_eq_true (by kernel_rfl)⟩
    · exact ⟨by kernel_rfl, of_decide_eq_true (by kernel_rfl)⟩
  obtain ⟨tG, hG⟩ := allocSees_glob hL
  refine (calls_of_Fv Tryd.func7 rfl (by kernel_rfl) (Fv.to (windroselaw02_AllocSees_c _ hG x0 _ r0_1 _ r0_2 _ xs1 hr1) (congrArg Value.bool (allocSees_true _ _)))).mono fun e W' ⟨he, hb⟩ => ?_
  subst he
  exact ⟨_, rfl, post_true allocSees_laid hW' rfl hpar rfl rfl Tryd.underlying4 hb⟩

theorem allocSees_holds : Rows.AllocSeesSaid :=
  OpenClaim.holds_of_wide 7 Tryd.f7 rfl rfl rfl rfl rfl rfl rfl ⟨rfl, rfl, rfl, rfl, rfl⟩ rfl rfl rfl rfl rfl (by kernel_rfl) Tryd.func7 (by kernel_rfl)
    (of_decide_eq_true (by kernel_rfl)) (by unfold Func.isWrapper; first | (rw [if_pos (by decide +kernel)]; kernel_rfl) | (rw [if_neg (by decide +kernel)]; exact ⟨rfl, rfl⟩))
    (fun os started H enc _ => allocSees_lifted os started H enc)

theorem allocSees_card : Rows.AllocSeesCardSaid :=
  Claim7.holds_tied_plain_at .later [] [.data] true (true, "c812bd16461893b59ff1c9b11575473a3dd7f925cadaefe779c83152ab813434") false
    allocSees_holds (fun _ h => by cases h) (by kernel_rfl) (fun _ h => by cases h) allocSees_row_tie rfl ⟨rfl, rfl⟩ (by kernel_rfl) rfl
    (fun f fn hf hfn => by
      obtain rfl : f = 7 := Option.some.inj ((show Tryd.prog.funcNamed "windrose/windroselaw02.AllocSees" = some 7 by kernel_rfl).symm.trans hf) |>.symm
      obtain rfl : fn = Tryd.f7 := (Option.some.inj (Tryd.func7.symm.trans hfn)).symm
      exact ⟨by kernel_rfl, fun j t ht => by
        rw [Tryd.params7] at ht
        have hm : t ∈ [25, 29] := by simpa using Array.mem_of_getElem? ht
        have hall : ([25, 29].all fun u => !Tryd.prog.wantsStandIn u) = true := by kernel_rfl
        exact (show Tryd.prog.wantsStandIn t = false by simpa using List.all_eq_true.1 hall t hm)⟩)
    (by kernel_rfl)
end Go.Proofs.YtmhoclmjgjopfaaDoor
