/- 'AllocLives' answers true, whatever it is handed, and what it is handed reads behind it as it did: the row, and its tied card. -/
import Derived.RangeFuncNested
import Derived.RangeFuncBound
import Derived.RangeFuncCalls
import Derived.RangeFuncLeaves
import Derived.Shelf.Abstract
import Derived.Laws.AppendOwn
import Derived.Laws.OwnMore
import Derived.KernelRfl
import Derived.IntWalk
import Derived.Laws.Append
import Derived.WideLaws
import Derived.Laws.Slices
import Derived.Laws.MakeOwn
import Derived.OrdersIn
import Derived.Laws.Cover3
import Derived.Test.YtmhoclmjgjopfaaDoorProg
import Derived.Laws.StructEq
import Derived.Shelf.Sort.Plain
import Derived.Sort.OwnSortedInts
import Derived.Shelf.Slices.In.SortNone
import Derived.ProofKit
import Derived.ChangeSlices
import Derived.Carry
import Derived.Deep.Slices
import Derived.OpenShut
import Derived.Test.YtmhoclmjgjopfaaDoorCards
import Derived.Test.YtmhoclmjgjopfaaDoorTie
import Derived.LaidMore
import Derived.Stop.Joined
import Derived.MakeChecks
import Derived.Test.YtmhoclmjgjopfaaDoorKL3
set_option linter.unusedVariables false
set_option linter.unusedSimpArgs false
namespace Go.SX
open Go
theorem eta5 {α β γ δ ε : Type} (p : α × β × γ × δ × ε) : (p.2.2.1, p.2.2.2.1, p.2.2.2.2) = p.2.2 := rfl
theorem lives_l2 : ∀ (l : List Int) (k : Nat) (s : (List (Int × Int)) × (List (Int × Bool)) × Al), LV s.2.2 s.2.1 s.1 → ∃ b, Rt b ∧ windroselaw02_AllocLives_l2 l k s = .go b
  | [], k, s, h => ⟨s.2.2, h.rt, rfl⟩
  | y :: ys, k, s, h => by
    have ha := h.rt
    have hln := ha.lens
    rw [windroselaw02_AllocLives_l2]
    simp only [eta5]
    by_cases hk : (k : Int) = 120
    · rw [if_pos hk]; exact ⟨s.2.2, ha, rfl⟩
    rw [if_neg hk, LR.seq_go]
    have ih := lives_l2 ys (k + 1)
    by_cases hy : (0 : Int) ≤ y
    · rw [if_pos hy, LR.seq_go, take_rt ha, room_rt ha]
      obtain ⟨q1, q2, q3⟩ := take_room ha
      have e1 : (decide ((takeP s.2.2).2.2 = 0) != decide ((0 : Int) < roomI s.2.2)) = false := by
        have : decide ((takeP s.2.2).2.2 = 0) = decide ((0 : Int) < roomI s.2.2) := by rw [decide_eq_decide]; exact q2
        rw [this, bne_self_eq_false]
      rw [e1, if_neg Bool.false_ne_true]
      by_cases h0 : (takeP s.2.2).2.2 = 0
      rotate_left
      · have e2 : (if (takeP s.2.2).2.2 ≠ 0 then (if (takeP s.2.2).2.2 ≠ 6 then decide ((takeP s.2.2).2.2 ≠ 121) else false) else false) = false := by
          rw [if_pos h0]
          rcases q3 with q | q | ⟨q, _⟩
          · exact absurd q h0
          · rw [q]; rfl
          · rw [q]; rfl
        rw [e2, LR.seq_go, if_neg Bool.false_ne_true, if_pos h0]
        exact ih s h
      rw [if_neg (fun q => q h0), LR.seq_go, if_neg Bool.false_ne_true, if_neg (fun q => q h0)]
      have t := take_ok ha h0
      have hb := take_keeps ha h0
      obtain ⟨m1, m2, m3, hL⟩ := h.take t hb
      have hbl := hb.lens
      generalize takeP s.2.2 = r at *
      have ew : IntKind.i64.wrap ((mlk s.1 (Int.tmod r.2.1 4294967296)).getD (0 : Int) + 1) = (mlk s.1 (Int.tmod r.2.1 4294967296)).getD (0 : Int) + 1 := wrap_i64 (by omega) (by omega)
      have hal := aliveN_le s.2.2.2.1
      have hr2 : roomI s.2.2 ≤ 2000000 := by have := room_le (a := s.2.2) (by omega); rwa [room_rt ha] at this
      rw [ew, m1, if_neg Bool.false_ne_true]
      rw [show (mlk (mpu s.1 (Int.tmod r.2.1 4294967296) ((mlk s.1 (Int.tmod r.2.1 4294967296)).getD (0 : Int) + 1)) (Int.tmod r.2.1 4294967296)).getD (0 : Int) = (mlk s.1 (Int.tmod r.2.1 4294967296)).getD (0 : Int) + 1 by rw [mlk_mpu, if_pos rfl]; rfl]
      rw [if_neg (show ¬ ((8 : Int) < (mlk s.1 (Int.tmod r.2.1 4294967296)).getD (0 : Int) + 1) by omega), Alive_rt ha, t.not_old ha hb, if_neg Bool.false_ne_true, Alive_rt hb, t.alive_new hb, Bool.not_true, if_neg Bool.false_ne_true, LR.seq_go, LR.seq_go, aliveN_all hb, aliveN_all ha, if_neg (show ¬ ((aliveN r.1.2.1 : Int) ≠ (aliveN s.2.2.2.1 : Int) + 1) by have := t.alive; omega), room_rt hb, wrap_i64 (x := roomI s.2.2 - 1) (by omega) (by omega), if_neg (show ¬ (roomI r.1 ≠ roomI s.2.2 - 1) by have := t.room; omega), (check_iff (by omega)).1.2 hb]
      rw [decide_eq_false (by decide), if_neg Bool.false_ne_true]
      exact ih (_, _, r.1) hL
    · rw [if_neg hy]
      by_cases h2 : ((alloc_All_m s.2.2).length : Int) = 2
      · rw [if_pos h2]; exact ih s h
      rw [if_neg h2]
      have hge := all_ge2 ha
      have hle := all_len (a := s.2.2) (by omega)
      obtain ⟨p1, p2, p3⟩ := pick_rng y (n := (alloc_All_m s.2.2).length) (by omega) (by omega)
      generalize IntKind.i64.wrap (2 + IntKind.i64.wrap (Int.tmod (IntKind.u64.wrap y) (IntKind.u64.wrap (((alloc_All_m s.2.2).length : Int) - 2)))) = j at *
      have hx : (alloc_All_m s.2.2).getD j.toNat (0 : Int) ∈ allL (s.2.2.2.1.drop 2) 2 := by
        rw [all_rt ha, all_two ha] at *
        obtain ⟨i, rfl⟩ : ∃ i : Nat, j = ((i + 2 : Nat) : Int) := ⟨j.toNat - 2, by omega⟩
        simp only [List.length_cons] at p3
        rw [show (((i + 2 : Nat) : Int)).toNat = i + 2 by omega, List.getD_cons_succ, List.getD_cons_succ]
        exact List.mem_of_getElem? (getD_get (by omega))
      generalize (alloc_All_m s.2.2).getD j.toNat (0 : Int) = x at *
      obtain ⟨g1, hb, g3, g4⟩ := give_one ha hx
      rw [LR.seq_go, give_rt ha, g1]
      simp only
      rw [if_neg (show ¬ ((0 : Int) ≠ 0) by decide), Alive_rt hb, g3, if_neg Bool.false_ne_true, LR.seq_go, LR.seq_go]
      have hbl := hb.lens
      rw [all_rt hb, all_rt ha, if_neg (show ¬ (((allL (giveR s.2.2 [x]).2.1 0).length : Int) ≠ ((allL s.2.2.2.1 0).length : Int) - 1) by omega), (check_iff (by omega)).1.2 hb, decide_eq_false (by decide), if_neg Bool.false_ne_true]
      exact ih (s.1, s.2.1, giveR s.2.2 [x]) (h.give hb)
theorem lv_new {a : Al} (h : Rt a) : LV a [] [] where
  rt := h
  m := fun x hx => by rw [mlk_nil] at hx; cases hx
  u := fun i => by
    rw [mlk_nil]
    refine ⟨Int.le_refl _, fun s hs => ?_, fun _ => rfl⟩
    have := (h.g i s hs).1
    show (0 : Int) ≤ s.1 + 1
    omega
theorem allocLives_true (a0 : Int) (a1 : List Int) : windroselaw02_AllocLives_m a0 a1 = true := by
  unfold windroselaw02_AllocLives_m
  rw [wakes_true, Bool.not_true, if_neg Bool.false_ne_true, LR.seq_go]
  have e5 : 0 ≤ Int.tmod (IntKind.u64.wrap a0) 5 ∧ Int.tmod (IntKind.u64.wrap a0) 5 < 5 := ⟨Int.tmod_nonneg _ (by show 0 ≤ a0 % 2 ^ 64; omega), Int.tmod_lt_of_pos _ (by omega)⟩
  rw [wrap_i64 (x := Int.tmod (IntKind.u64.wrap a0) 5) (by omega) (by omega), wrap_i64 (x := 1 + Int.tmod (IntKind.u64.wrap a0) 5) (by omega) (by omega)]
  generalize Int.tmod (IntKind.u64.wrap a0) 5 = n at *
  have h0 : (alloc_New_m (1 + n)).2 = 0 := by
    unfold alloc_New_m
    rw [LR.seq_go, if_neg (show ¬ 1 + n < 1 by omega), decide_eq_false (show ¬ 1048576 < 1 + n by omega), if_neg Bool.false_ne_true]
  have hr := new_rt _ h0
  rw [if_neg (fun k => k h0)]
  simp only [eta3]
  obtain ⟨b, hb, e⟩ := lives_l2 a1 0 ([], [], (alloc_New_m (1 + n)).1) (lv_new hr)
  rw [e, LR.on_go, LR.on_go, Alive_rt hb, Alive_rt hb]
  have h1 : alloc_alive_m b 1 = true := (alive_iff hb 1).2 ((all_mem _).1 (by rw [all_two hb]; simp))
  have h2 : alloc_alive_m b 2 = true := (alive_iff hb 2).2 ((all_mem _).1 (by rw [all_two hb]; simp))
  rw [h1, h2, if_pos rfl]
end Go.SX

set_option linter.unusedVariables false
set_option linter.unusedSimpArgs false
namespace Go.SX
open Go Go.ChangeShapes Go.WideShapes Go.ChangeAt Go.RowKit

/-- All that stands in a world's memory can be read. -/
def heapOf (W : World) : Heap := fun b => W.heap[b]?
theorem sat_heapOf (W : World) : Sat (heapOf W) [] W := ⟨fun _ _ h => h, fun p h => (by cases h), List.nodup_nil, fun p h => (by cases h)⟩

/-- A contract of a function that hands back v, at a world. -/
theorem calls_of_Fv {P : Program} {f : FuncId} {fn : Func} {c : Code} {vs : List Value} {v : Value} {W : World} (hf : P.funcs[f]? = some fn) (hb : fn.body = some c) (hname : (fn.name == "runtime.NumGoroutine") = false)
    (h : Fv P (fnv f) vs (heapOf W) v) : Calls P f vs.toArray W fun e W' => e = .returned v ∧ Below W.heap.size W W' := by
  obtain ⟨nx, w1, h1, h2⟩ := h W (sat_heapOf W)
  have he := Go.Proofs.enters_of (P := P) hf hname hb vs.toArray W
  have hrun : Sem.run P (do let d ← Deferred.ofValue (fnv f) vs.toArray; invoke d.target d.args) W = .ok (.enter f vs.toArray) W := by
    simp [Deferred.ofValue, invoke, he]
  rw [hrun] at h1
  injection h1 with h1 h3
  subst h1; subst h3
  refine callsIn_wide.1 (CallsIn.mono h2 ?_)
  rintro e w' ⟨u, H', L', rfl, hst, rfl, rfl⟩
  exact ⟨rfl, hst.chg.os, hst.chg.tape, hst.chg.output, hst.chg.size, fun b hb => hst.chg.same b hb (by simp [keys])⟩

section
variable {H : Type} {enc : TypeId × Value → H} {P : Program}

theorem trodAll_below (hl : laidOutB P = true) {W W' : World} (hb : Below W.heap.size W W') {sp : Nat → Bool} : ∀ {ts : List TypeId} {vs : List Value} {ds : List (DataW H)} {p : List MemPlace},
    (∀ t ∈ ts, P.readableRec t = true ∧ t < P.types.size) → DataW.TrodAll enc P W 0 (fun _ => true) true ts vs ds p → (∀ q ∈ p, q.block < W.heap.size ∧ sp q.block = true) → DataW.TrodAll enc P W' 0 sp true ts vs ds p
  | [], _, _, _, _, h, _ => by
    obtain ⟨rfl, rfl, rfl⟩ := trodAll_nil h
    exact trodAll_mk0
  | t :: ts, _, _, _, ht, h, hp => by
    obtain ⟨v, vs, d, ds, a, b, rfl, rfl, rfl, h1, h2⟩ := trodAll_cons h
    have h3 := WideElems.Trod_stays (sp' := sp) hl (ht t (List.mem_cons_self ..)).1 (ht t (List.mem_cons_self ..)).2 h1 (fun x hx => hb.same (hp x (List.mem_append_left _ hx)).1) (fun x hx => (hp x (List.mem_append_left _ hx)).2)
    exact ⟨a, b, h3, trodAll_below hl hb (fun t' h' => ht t' (List.mem_cons_of_mem _ h')) h2 (fun x hx => hp x (List.mem_append_right _ hx)), rfl⟩

/-- What is asked behind a call that turned nothing of what there was, and says true. -/
theorem post_true {f : Func} {s : ChangeSpec} {fresh handsOn again : Bool} {W W' : World} {args : Array Value} {ds gs : List (DataW H)} {before : List MemPlace} {tb : TypeId} (hl : laidOutB P = true)
    (hW : DataW.Whole enc P f.params.toList s.vars false W args.toList ds gs before) (hvars : s.vars = []) (hpar : ∀ t ∈ f.params.toList, P.readableRec t = true ∧ t < P.types.size)
    (hs : s.fn H (ds ++ gs) = { results := [.lit (.bool true)], args := ds }) (hrt : f.resultTypes = #[tb]) (htb : P.underlying tb = some .bool) (hb : Below W.heap.size W W') :
    s.post enc P f false fresh handsOn again W args (.bool true) W' := by
  have hlt := hW.lt
  have hW0 := hW
  obtain ⟨p, q, hA, hV, rfl, hfz, hnd⟩ := hW
  rw [hvars] at hV
  obtain ⟨rfl, rfl⟩ := trodVars_none hV
  rw [List.append_nil] at hfz hlt
  have hres : ∀ (b : Nat) (sp : Nat → Bool) (hd : Bool), DataW.TrodAll enc P W' b sp hd f.resultTypes.toList ((Value.bool true).resultList f.resultTypes.size) [.lit (.bool true)] [] := by
    intro b sp hd
    rw [hrt]
    exact trodAll_mk1 (shut_bool htb true)
  have hargs : ∀ sp : Nat → Bool, (∀ x ∈ p, sp x.block = true) → DataW.TrodAll enc P W' 0 sp true f.params.toList args.toList ds p := fun sp hsp =>
    trodAll_below hl hb hpar hA (fun x hx => ⟨hlt x hx, hsp x hx⟩)
  have hvr : ∀ sp : Nat → Bool, DataW.TrodVars enc P W' sp s.vars ([] : List (DataW H)) [] := fun sp => by rw [hvars]; rfl
  refine ⟨ds, [], p ++ [], [], p, [], hW0, ?_, ?_, ?_, World.keptBut_mono (fun x hx => ⟨hx, ?_⟩) (hb.frame (· ∈ p ++ [])), fun _ => ?_⟩
  · rw [hs]; exact hres _ _ _
  · rw [hs]; exact hargs _ (fun x hx => by simpa using hlt x hx)
  · rw [hs]; exact hvr _
  · exact Or.inr (by simpa using hx)
  · refine ⟨ok_one hrt rfl (okWide_bool_mk htb true), _, _, ([] ++ p) ++ [], ⟨[] ++ p, [], trodAll_append (hargs _ (fun _ _ => rfl)) (hres _ _ _), hvr _, rfl, ?_, fun h => by cases h⟩, ?_⟩
    · intro b off hp
      have hp' : MemPlace.cell b off ∈ p := by simpa using hp
      have := hb.frozen (p := ⟨b, off, none⟩) (hlt _ hp')
      rw [this]
      exact hfz b off hp'
    · intro x hx _
      simpa using hx

theorem cellAt_heapOf {W : World} {b o : Nat} {v : Value} (h : W.cell? ⟨b, o, none⟩ = some v) : cellAt (heapOf W) b o = some v := by
  unfold World.cell? at h
  unfold cellAt heapOf
  simp only at h
  revert h
  cases hb : W.heap[b]? with
  | none => intro h; simp at h
  | some ob => cases ob <;> intro h <;> simp_all

end
end Go.SX

set_option linter.unusedVariables false
set_option linter.unusedSimpArgs false
namespace Go.SX
open Go Go.ChangeShapes Go.WideShapes Go.ChangeAt Go.RowKit Go.Deep
/-- What can be read at the type stands as E says. -/
def Opn (P : Program) (t : TypeId) {α : Type} (E : ER α) (Q : α → Prop) : Prop :=
  ∀ (H : Type) (enc : TypeId × Value → H) (W : World) (sp : Nat → Bool) (hd : Bool) (n : Nat) (cs : List Value) (x : DataW H × List MemPlace), DataW.trod enc P W 0 sp hd n t cs = some x → ∃ a, E.R (heapOf W) cs a ∧ Q a
theorem Opn.int {P : Program} {t : TypeId} {k : IntKind} (ht : P.underlying t = some (.int k)) : Opn P t (intE k) (fun x => (Lit.int k x).wf = true) := fun H enc W sp hd n cs x h => by
  obtain ⟨n, rfl, _, hw⟩ := DataW.trod_int ht h
  exact ⟨n, rfl, hw⟩
theorem Opn.bool {P : Program} {t : TypeId} (ht : P.underlying t = some .bool) : Opn P t boolE (fun _ => True) := fun H enc W sp hd n cs x h => by
  obtain ⟨b, rfl, _⟩ := DataW.trod_bool ht h
  exact ⟨b, rfl, trivial⟩
theorem Opn.weak {P : Program} {t : TypeId} {α : Type} {E : ER α} {Q Q' : α → Prop} (h : Opn P t E Q) (hq : ∀ a, Q a → Q' a) : Opn P t E Q' := fun H enc W sp hd n cs x hx => by
  obtain ⟨a, h1, h2⟩ := h H enc W sp hd n cs x hx
  exact ⟨a, h1, hq a h2⟩
/-- An array of two ints. -/
theorem Opn.two {P : Program} {t i : TypeId} (ht : P.underlying t = some (.array 2 i)) (ct : P.cellsOf t = 2) (hi : P.underlying i = some (.int .i64)) (ci : P.cellsOf i = 1) : Opn P t pairE (fun _ => True) := fun H enc W sp hd n cs x h => by
  obtain ⟨xs, m, _, _, hl, hxl, hf⟩ := DataW.trod_array ht h
  rw [ct] at hl
  match cs, hl, xs, hxl with
  | [v0, v1], _, [y0, y1], _ =>
    have g0 := hf 0 (by omega)
    have g1 := hf 1 (by omega)
    rw [ci] at g0 g1
    simp at g0 g1
    obtain ⟨a, ha, _⟩ := DataW.trod_int hi g0
    obtain ⟨b, hb, _⟩ := DataW.trod_int hi g1
    simp at ha hb
    subst ha; subst hb
    exact ⟨(a, b), rfl, trivial⟩
/-- A slice. -/
theorem Opn.slice {P : Program} {t e : TypeId} {α : Type} {E : ER α} {Q : α → Prop} (ht : P.underlying t = some (.slice e)) (hc : P.cellsOf e = E.size) (he : Opn P e E Q) (hs : 0 < E.size) : Opn P t (slE E) (fun xs => ∀ x ∈ xs, Q x) := fun H enc W sp hd n cs x h => by
  rcases open_slice ht h with ⟨rfl, _⟩ | ⟨a, len, cap, m, n', D, Pl, rfl, _, hl, hm, hmm, _, hx⟩
  · exact ⟨[], ⟨_, rfl, RdS.nil⟩, fun x hx => by simp at hx⟩
  · have key : ∀ i, i < len → ∃ x, (∃ b o, a = ⟨b, o, none⟩ ∧ ElemAt E (heapOf W) b (o + i * E.size) x) ∧ Q x := fun i hi => by
      obtain ⟨cs', h1, h2⟩ := hx i (by rw [hmm]; split <;> omega)
      obtain ⟨x, h3, h4⟩ := he H enc W sp hd n' cs' _ h2
      refine ⟨x, ?_, h4⟩
      rw [hc] at h1
      obtain ⟨_, hlen, hcell⟩ := World.cells?_some h1
      obtain ⟨ab, ao, asp⟩ := a
      cases asp with
      | none =>
        refine ⟨ab, ao, rfl, cs', h3, fun j u hj => ?_⟩
        have hjl : j < E.size := by rw [← hlen]; exact (List.getElem?_eq_some_iff.1 hj).1
        have h5 := hcell j hjl
        rw [hj, add_add, Addr.add_lit] at h5
        have := cellAt_heapOf h5
        rw [show ao + i * E.size + j = ao + (i * E.size + j) by omega]
        exact this
      | some s =>
        exfalso
        obtain ⟨cs0, k1, _⟩ := hx 0 (by rw [hmm]; split <;> omega)
        rw [hc, Nat.zero_mul, Addr.add_zero'] at k1
        obtain ⟨_, klen, kcell⟩ := World.cells?_some k1
        have h5 := kcell 0 hs
        rw [Addr.add_zero'] at h5
        obtain ⟨u, hu⟩ : ∃ u, cs0[0]? = some u := ⟨cs0[0], List.getElem?_eq_getElem (by omega)⟩
        rw [hu] at h5
        unfold World.cell? at h5
        revert h5
        cases hb : W.heap[ab]? with
        | none => intro h; simp [hb] at h
        | some ob => cases ob <;> intro h <;> simp [hb] at h
    obtain ⟨f, hf⟩ : ∃ f : Nat → Option α, ∀ i, i < len → ∃ x, f i = some x ∧ (∃ b o, a = ⟨b, o, none⟩ ∧ ElemAt E (heapOf W) b (o + i * E.size) x) ∧ Q x := by
      classical
      refine ⟨fun i => if hi : i < len then some (Classical.choose (key i hi)) else none, fun i hi => ?_⟩
      exact ⟨_, dif_pos hi, Classical.choose_spec (key i hi)⟩
    have hxs : ∀ n, n ≤ len → ∃ xs : List α, xs.length = n ∧ ∀ i, i < n → xs[i]? = f i := fun n => by
      induction n with
      | zero => exact fun _ => ⟨[], rfl, fun i hi => absurd hi (Nat.not_lt_zero _)⟩
      | succ n ih =>
        intro hn
        obtain ⟨xs, h1, h2⟩ := ih (by omega)
        obtain ⟨x, h3, _⟩ := hf n (by omega)
        refine ⟨xs ++ [x], by simp [h1], fun i hi => ?_⟩
        by_cases h : i < n
        · rw [List.getElem?_append_left (by omega)]; exact h2 i h
        · obtain rfl : i = n := by omega
          rw [List.getElem?_append_right (by omega), h1, Nat.sub_self, h3]; rfl
    obtain ⟨xs, h1, h2⟩ := hxs len (Nat.le_refl _)
    subst h1
    refine ⟨xs, ⟨_, rfl, some a, cap, rfl, hl, hm, fun i x hx => ?_⟩, fun x hx => ?_⟩
    · have hi : i < xs.length := (List.getElem?_eq_some_iff.1 hx).1
      obtain ⟨y, h3, ⟨b, o, h4, h5⟩, _⟩ := hf i hi
      rw [h2 i hi, h3] at hx
      injection hx with hx
      subst hx
      exact ⟨b, o, by rw [h4], h5⟩
    · obtain ⟨i, hi, rfl⟩ := List.mem_iff_getElem.1 hx
      obtain ⟨y, h3, _, h4⟩ := hf i hi
      have := h2 i hi
      rw [h3, List.getElem?_eq_getElem hi] at this
      injection this with this
      rw [this]; exact h4
section
variable {P : Program} {H : Type} {enc : TypeId × Value → H} {W : World} {r : Reach} {b0 : Nat} {t : TypeId} {v : Value} {d : DataW H} {p : List MemPlace} {α : Type} {E : ER α} {Q : α → Prop}
/-- A slice that is handed in. -/
theorem open_sl {e : TypeId} (ht : P.underlying t = some (.slice e)) (ho : Opn P t (slE E) (fun xs => ∀ x ∈ xs, Q x)) (hval : Value.okWide P W r b0 t v) (h : DataW.Trod enc P W 0 (fun _ => true) true t v d p) :
    ∃ xs : List α, RdS E (heapOf W) v xs ∧ ∀ x ∈ xs, Q x := by
  obtain ⟨a0, len, cap, rfl⟩ := okWide_slice ht hval
  obtain ⟨n, hn⟩ := h
  obtain ⟨xs, ⟨u, h1, h2⟩, h3⟩ := ho H enc W _ _ n _ _ hn
  have : Value.slice a0 len cap = u := by simpa [Value.cells] using h1
  rw [this]
  exact ⟨xs, h2, h3⟩
end
end Go.SX

set_option linter.unusedVariables false
namespace Go.SX
open Go Go.ChangeShapes Go.WideShapes Go.ChangeAt Go.RowKit Go.Proofs
def allocE : ER (Int × (List (Int × Bool)) × (List Int)) where
  size := 3
  R := fun H cs x => ∃ v1 v2, cs = [.int .i64 x.1, v1, v2] ∧ RdS slotE H v1 x.2.1 ∧ RdS (intE .i64) H v2 x.2.2
  len := fun h => by obtain ⟨v1, v2, rfl, _⟩ := h; rfl
  mono := fun hl h => by obtain ⟨v1, v2, rfl, h0, h1⟩ := h; exact ⟨v1, v2, rfl, h0.mono hl, h1.mono hl⟩
  one := fun h v hv => by
    obtain ⟨v1, v2, rfl, h0, h1⟩ := h
    simp only [List.mem_cons, List.not_mem_nil, or_false] at hv
    rcases hv with rfl | rfl | rfl <;> first | rfl | exact RdS.one (by assumption)

theorem lenN2 {α : Type} {l : List α} (h : l.length = 2) : ∃ v0 v1, l = [v0, v1] := by
  match l, h with
  | [v0, v1], _ => exact ⟨v0, v1, rfl⟩
theorem lenN3 {α : Type} {l : List α} (h : l.length = 3) : ∃ v0 v1 v2, l = [v0, v1, v2] := by
  match l, h with
  | [v0, v1, v2], _ => exact ⟨v0, v1, v2, rfl⟩

end Go.SX
namespace Go.Proofs.YtmhoclmjgjopfaaDoor
open Go.ChangeShapes Go.WideShapes Go.ChangeAt Go.RowKit Go.SX

theorem allocLives_own : ownKnob Tryd.prog.godebug = none := by kernel_rfl
theorem allocLives_laid : laidOutB Tryd.prog = true := by kernel_rfl
theorem allocLives_met (os : Os) (args : Array Value) : laidMetH Tryd.prog Rows.allocLivesRow.laid ((World.doorLaid Tryd.prog 400 os).forCall (fun _ _ => 0) ⟨#[], args, []⟩).memory :=
  laidMetH_of_parts3 (fuel := 12) (laidMet_of_run' 12 (by kernel_rfl) (by kernel_rfl)) (by kernel_rfl) (by kernel_rfl)
theorem allocLives_datum {W : World} {H : Type} {enc : TypeId × Value → H} {sp : Nat → Bool} {hd : Bool} {n : Nat} {cs : List Value} {p : List MemPlace} (h : DataW.trod enc Tryd.prog W 0 sp hd n 101 cs = some (.agg [.lit (.int .i64 0), .lit (.bool true)], p)) : cs = [.int .i64 0, .bool true] := by
  obtain ⟨xs, m, _, hx1, hl, hxl, hf⟩ := DataW.trod_struct Tryd.underlying101 h
  rw [show Tryd.prog.cellsOf 101 = 2 by kernel_rfl] at hl
  replace hxl : xs.length = 2 := hxl
  obtain ⟨v0, v1, rfl⟩ := lenN2 hl
  obtain ⟨y0, y1, rfl⟩ := lenN2 hxl
  have g0 : DataW.trod enc Tryd.prog W 0 sp hd m 3 (([v0, v1].drop 0).take (Tryd.prog.cellsOf 3)) = some y0 := hf 0 _ rfl
  have g1 : DataW.trod enc Tryd.prog W 0 sp hd m 4 (([v0, v1].drop 1).take (Tryd.prog.cellsOf 4)) = some y1 := hf 1 _ rfl
  rw [show Tryd.prog.cellsOf 3 = 1 by kernel_rfl] at g0
  rw [show Tryd.prog.cellsOf 4 = 1 by kernel_rfl] at g1
  simp only [List.drop, List.take] at g0 g1
  obtain ⟨a, h0, h1, _⟩ := DataW.trod_int Tryd.underlying3 g0
  obtain ⟨b, h2, h3⟩ := DataW.trod_bool Tryd.underlying4 g1
  injection h0 with h0
  injection h2 with h2
  subst h0
  subst h2
  simp only [Prod.mk.injEq] at hx1
  have h4 := hx1.1
  simp only [List.map_cons, List.map_nil, h1, h3, DataW.agg.injEq, List.cons.injEq, DataW.lit.injEq, Lit.int.injEq, Lit.bool.injEq, true_and, and_true] at h4
  obtain ⟨h5, h6⟩ := h4
  subst h5; subst h6; rfl
theorem allocLives_glob {W : World} (h : laidMetH Tryd.prog Rows.allocLivesRow.laid W) : ∃ t, heapOf W 0 = some (.cells #[.int .i64 0, .bool true] t) := by
  rw [MakeChecks.laidMetH_plain _ _ _ (by kernel_rfl)] at h
  obtain ⟨ps, ⟨g0, t0, cs0, f0, p0, q0, hg0, ht0, hv0, hd0, _, hps⟩, _, hrow⟩ := h
  obtain rfl := Option.some.inj ((show Tryd.prog.globalNamed "windrose/alloc.always" = some 0 by kernel_rfl).symm.trans hg0)
  obtain rfl := Option.some.inj ((show (Tryd.prog.globals[0]?).map (·.type) = some 101 by kernel_rfl).symm.trans ht0)
  have hl := allocLives_datum hd0
  have hcs : cs0 = #[.int .i64 0, .bool true] := Array.toList_inj.1 hl
  subst hcs
  have hm : MemPlace.cell 0 0 ∈ ps := by rw [hps]; simp [MemPlace.row]
  obtain ⟨⟨c, t, hh⟩, _⟩ := hrow 0 0 hm
  have hv := hv0
  simp only [World.var?, hg0, Option.bind_some, hh] at hv
  injection hv with hv
  subst hv
  exact ⟨t, hh⟩

set_option maxRecDepth 100000 in
theorem allocLives_lifted (os : Os) (started : os.Started) (H : Type) (enc : TypeId × Value → H) :
    ReturnsInHanded {} Tryd.checked os 5 .any (fun w args => (Rows.allocLivesSpec.pre enc Tryd.prog Tryd.f5 [] false w args ∧ laidMetH Tryd.prog Rows.allocLivesRow.laid w) ∧ sizedMet enc Tryd.prog Tryd.f5 (OpenSpec.ofChange Rows.allocLivesSpec) false w args)
      (Rows.allocLivesSpec.post enc Tryd.prog Tryd.f5 false true false false) := by
  refine returnsInHanded_of_change_and (C := Tryd.checked) (X := fun w _ => laidMetH Tryd.prog Rows.allocLivesRow.laid w) (fun _ _ _ hh h => h.of_heap hh) allocLives_own started (by kernel_rfl) Tryd.func5
    (ChangeSpec.witness_shaped (enc := enc) (C := Tryd.checked) (os := os) (X := fun w _ => laidMetH Tryd.prog Rows.allocLivesRow.laid w) false (World.doorLaid Tryd.prog 400 os) #[.int .i64 0, .slice none 0 0] 8 rfl (World.shaped_of_RefB (by kernel_rfl) (by kernel_rfl)) (by kernel_rfl) (by kernel_rfl) (by kernel_rfl) (allocLives_met os _)) ?_
  intro W base args ds gs before hval0 hW _ _ hL _
  have hval : ∀ (j : Nat) t v, Tryd.f5.params[j]? = some t → args[j]? = some v → Value.okWide Tryd.prog W .any base t v := hval0
  have hW' := hW
  obtain ⟨p, q, hA0, hV, rfl, hfz, hnd⟩ := hW
  have hA : DataW.TrodAll enc Tryd.prog W 0 (fun _ => true) true Tryd.f5.params.toList args.toList ds p := hA0
  rw [Tryd.params5] at hA hval
  clear hA0 hval0
  obtain ⟨v0, vs0, d0, ds0, p0, q0, e0, rfl, rfl, h0, r0⟩ := trodAll_cons hA
  obtain ⟨v1, vs1, d1, ds1, p1, q1, e1, rfl, rfl, h1, r1⟩ := trodAll_cons r0
  subst e1
  obtain ⟨e2, rfl, rfl⟩ := trodAll_nil r1
  subst e2
  obtain rfl : args = #[v0, v1] := by cases args; simp_all
  obtain ⟨rfl, rfl⟩ := trodVars_none hV
  obtain ⟨x0, rfl, rfl, rfl, hw0⟩ := open_int Tryd.underlying3 (hval 0 3 v0 rfl rfl) h0
  obtain ⟨xs1, hr1, hw1⟩ := open_sl Tryd.underlying23 (Opn.slice Tryd.underlying23 (by kernel_rfl) (Opn.int Tryd.underlying3) (by decide)) (hval 1 23 v1 rfl rfl) h1
  have hpar : ∀ t ∈ Tryd.f5.params.toList, Tryd.prog.readableRec t = true ∧ t < Tryd.prog.types.size := by
    intro t ht
    rw [Tryd.params5] at ht
    simp only [List.mem_cons, List.not_mem_nil, or_false] at ht
    rcases ht with rfl | rfl
    · exact ⟨by kernel_rfl, of_decide_eq_true (by kernel_rfl)⟩
    · exact ⟨by kernel_rfl, of_decide_eq_true (by kernel_rfl)⟩
  obtain ⟨tG, hG⟩ := allocLives_glob hL
  refine (calls_of_Fv Tryd.func5 rfl (by kernel_rfl) (Fv.to (windroselaw02_AllocLives_c _ hG x0 _ xs1 hr1) (congrArg Value.bool (allocLives_true _ _)))).mono fun e W' ⟨he, hb⟩ => ?_
  subst he
  exact ⟨_, rfl, post_true allocLives_laid hW' rfl hpar rfl rfl Tryd.underlying4 hb⟩

theorem allocLives_holds : Rows.AllocLivesSaid :=
  OpenClaim.holds_of_wide 5 Tryd.f5 rfl rfl rfl rfl rfl rfl rfl ⟨rfl, rfl, rfl, rfl, rfl⟩ rfl rfl rfl rfl rfl (by kernel_rfl) Tryd.func5 (by kernel_rfl)
    (of_decide_eq_true (by kernel_rfl)) (by unfold Func.isWrapper; first | (rw [if_pos (by decide +kernel)]; kernel_rfl) | (rw [if_neg (by decide +kernel)]; exact ⟨rfl, rfl⟩))
    (fun os started H enc _ => allocLives_lifted os started H enc)

theorem allocLives_card : Rows.AllocLivesCardSaid :=
  Claim7.holds_tied_plain_at .later [] [.data] true (true, "c812bd16461893b59ff1c9b11575473a3dd7f925cadaefe779c83152ab813434") false
    allocLives_holds (fun _ h => by cases h) (by kernel_rfl) (fun _ h => by cases h) allocLives_row_tie rfl ⟨rfl, rfl⟩ (by kernel_rfl) rfl
    (fun f fn hf hfn => by
      obtain rfl : f = 5 := Option.some.inj ((show Tryd.prog.funcNamed "windrose/windroselaw02.AllocLives" = some 5 by kernel_rfl).symm.trans hf) |>.symm
      obtain rfl : fn = Tryd.f5 := (Option.some.inj (Tryd.func5.symm.trans hfn)).symm
      exact ⟨by kernel_rfl, fun j t ht => by
        rw [Tryd.params5] at ht
        have hm : t ∈ [3, 23] := by simpa using Array.mem_of_getElem? ht
        have hall : ([3, 23].all fun u => !Tryd.prog.wantsStandIn u) = true := by kernel_rfl
        exact (show Tryd.prog.wantsStandIn t = false by simpa using List.all_eq_true.1 hall t hm)⟩)
    (by kernel_rfl)
end Go.Proofs.YtmhoclmjgjopfaaDoor
