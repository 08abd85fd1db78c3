/- FW: from a contract to a row: what is handed in, read as plain lists; what is asked behind the call. -/
import Derived.Test.YtkhjpgimjkofcaaSx3
import Derived.Test.YtkhjpgimjkofcaaSx4
import Derived.ProofKit
import Derived.ChangeSlices
import Derived.Carry
set_option linter.unusedVariables false
set_option linter.unusedSimpArgs false
namespace Go.SX
open Go Go.ChangeShapes Go.WideShapes Go.ChangeAt Go.RowKit

/-- All that stands in a world's memory can be read. -/
def heapOf (W : World) : Heap := fun b => W.heap[b]?
theorem sat_heapOf (W : World) : Sat (heapOf W) [] W := ⟨fun _ _ h => h, fun p h => (by cases h), List.nodup_nil, fun p h => (by cases h)⟩

/-- A contract of a function that hands back v, at a world. -/
theorem calls_of_Fv {P : Program} {f : FuncId} {fn : Func} {c : Code} {vs : List Value} {v : Value} {W : World} (hf : P.funcs[f]? = some fn) (hb : fn.body = some c) (hname : (fn.name == "runtime.NumGoroutine") = false)
    (h : Fv P (fnv f) vs (heapOf W) v) : Calls P f vs.toArray W fun e W' => e = .returned v ∧ Below W.heap.size W W' := by
  obtain ⟨nx, w1, h1, h2⟩ := h W (sat_heapOf W)
  have he := Go.Proofs.enters_of (P := P) hf hname hb vs.toArray W
  have hrun : Sem.run P (do let d ← Deferred.ofValue (fnv f) vs.toArray; invoke d.target d.args) W = .ok (.enter f vs.toArray) W := by
    simp [Deferred.ofValue, invoke, he]
  rw [hrun] at h1
  injection h1 with h1 h3
  subst h1; subst h3
  refine callsIn_wide.1 (CallsIn.mono h2 ?_)
  rintro e w' ⟨u, H', L', rfl, hst, rfl, rfl⟩
  exact ⟨rfl, hst.chg.os, hst.chg.tape, hst.chg.output, hst.chg.size, fun b hb => hst.chg.same b hb (by simp [keys])⟩

section
variable {H : Type} {enc : TypeId × Value → H} {P : Program}

theorem trodAll_below (hl : laidOutB P = true) {W W' : World} (hb : Below W.heap.size W W') {sp : Nat → Bool} : ∀ {ts : List TypeId} {vs : List Value} {ds : List (DataW H)} {p : List MemPlace},
    (∀ t ∈ ts, P.readableRec t = true ∧ t < P.types.size) → DataW.TrodAll enc P W 0 (fun _ => true) true ts vs ds p → (∀ q ∈ p, q.block < W.heap.size ∧ sp q.block = true) → DataW.TrodAll enc P W' 0 sp true ts vs ds p
  | [], _, _, _, _, h, _ => by
    obtain ⟨rfl, rfl, rfl⟩ := trodAll_nil h
    exact trodAll_mk0
  | t :: ts, _, _, _, ht, h, hp => by
    obtain ⟨v, vs, d, ds, a, b, rfl, rfl, rfl, h1, h2⟩ := trodAll_cons h
    have h3 := WideElems.Trod_stays (sp' := sp) hl (ht t (List.mem_cons_self ..)).1 (ht t (List.mem_cons_self ..)).2 h1 (fun x hx => hb.same (hp x (List.mem_append_left _ hx)).1) (fun x hx => (hp x (List.mem_append_left _ hx)).2)
    exact ⟨a, b, h3, trodAll_below hl hb (fun t' h' => ht t' (List.mem_cons_of_mem _ h')) h2 (fun x hx => hp x (List.mem_append_right _ hx)), rfl⟩

/-- What is asked behind a call that turned nothing of what there was, and says true. -/
theorem post_true {f : Func} {s : ChangeSpec} {fresh handsOn again : Bool} {W W' : World} {args : Array Value} {ds gs : List (DataW H)} {before : List MemPlace} {tb : TypeId} (hl : laidOutB P = true)
    (hW : DataW.Whole enc P f.params.toList s.vars false W args.toList ds gs before) (hvars : s.vars = []) (hpar : ∀ t ∈ f.params.toList, P.readableRec t = true ∧ t < P.types.size)
    (hs : s.fn H (ds ++ gs) = { results := [.lit (.bool true)], args := ds }) (hrt : f.resultTypes = #[tb]) (htb : P.underlying tb = some .bool) (hb : Below W.heap.size W W') :
    s.post enc P f false fresh handsOn again W args (.bool true) W' := by
  have hlt := hW.lt
  have hW0 := hW
  obtain ⟨p, q, hA, hV, rfl, hfz, hnd⟩ := hW
  rw [hvars] at hV
  obtain ⟨rfl, rfl⟩ := trodVars_none hV
  rw [List.append_nil] at hfz hlt
  have hres : ∀ (b : Nat) (sp : Nat → Bool) (hd : Bool), DataW.TrodAll enc P W' b sp hd f.resultTypes.toList ((Value.bool true).resultList f.resultTypes.size) [.lit (.bool true)] [] := by
    intro b sp hd
    rw [hrt]
    exact trodAll_mk1 (shut_bool htb true)
  have hargs : ∀ sp : Nat → Bool, (∀ x ∈ p, sp x.block = true) → DataW.TrodAll enc P W' 0 sp true f.params.toList args.toList ds p := fun sp hsp =>
    trodAll_below hl hb hpar hA (fun x hx => ⟨hlt x hx, hsp x hx⟩)
  have hvr : ∀ sp : Nat → Bool, DataW.TrodVars enc P W' sp s.vars ([] : List (DataW H)) [] := fun sp => by rw [hvars]; rfl
  refine ⟨ds, [], p ++ [], [], p, [], hW0, ?_, ?_, ?_, World.keptBut_mono (fun x hx => ⟨hx, ?_⟩) (hb.frame (· ∈ p ++ [])), fun _ => ?_⟩
  · rw [hs]; exact hres _ _ _
  · rw [hs]; exact hargs _ (fun x hx => by simpa using hlt x hx)
  · rw [hs]; exact hvr _
  · exact Or.inr (by simpa using hx)
  · refine ⟨ok_one hrt rfl (okWide_bool_mk htb true), _, _, ([] ++ p) ++ [], ⟨[] ++ p, [], trodAll_append (hargs _ (fun _ _ => rfl)) (hres _ _ _), hvr _, rfl, ?_, fun h => by cases h⟩, ?_⟩
    · intro b off hp
      have hp' : MemPlace.cell b off ∈ p := by simpa using hp
      have := hb.frozen (p := ⟨b, off, none⟩) (hlt _ hp')
      rw [this]
      exact hfz b off hp'
    · intro x hx _
      simpa using hx

theorem cellAt_heapOf {W : World} {b o : Nat} {v : Value} (h : W.cell? ⟨b, o, none⟩ = some v) : cellAt (heapOf W) b o = some v := by
  unfold World.cell? at h
  unfold cellAt heapOf
  simp only at h
  revert h
  cases hb : W.heap[b]? with
  | none => intro h; simp at h
  | some ob => cases ob <;> intro h <;> simp_all

/-- A slice of ints that is handed in. -/
theorem open_rd {t e : TypeId} {k : IntKind} {W : World} {r : Reach} {b0 : Nat} {v : Value} {d : DataW H} {p : List MemPlace} (ht : P.underlying t = some (.slice e)) (he : P.underlying e = some (.int k)) (hc : P.cellsOf e = 1)
    (hval : Value.okWide P W r b0 t v) (h : DataW.Trod enc P W 0 (fun _ => true) true t v d p) : ∃ xs : List Int, RdS (intE k) (heapOf W) v xs ∧ ∀ x ∈ xs, (Lit.int k x).wf = true := by
  obtain ⟨a0, len, cap, rfl⟩ := okWide_slice ht hval
  obtain ⟨fuel, hf⟩ := h
  rcases open_ints ht he hc hf with ⟨hcs, hx⟩ | ⟨a, len', cap', zs, hcs, _, hl, hm, hz, hx, hcell, hwz⟩
  · have : (Value.slice a0 len cap) = .slice none 0 0 := by simpa [Value.cells] using hcs
    rw [this]
    exact ⟨[], RdS.nil, fun x hx => by simp at hx⟩
  · have e1 : (Value.slice a0 len cap) = .slice (some a) len' cap' := by simpa [Value.cells] using hcs
    rw [e1]
    have hzl : zs.length = cap' := by simpa using hz
    have hlen : (zs.take len').length = len' := by simp; omega
    refine ⟨zs.take len', ⟨some a, cap', by rw [hlen], by omega, hm, fun i x hx => ?_⟩, fun x hx => hwz x (List.mem_of_mem_take hx)⟩
    have hi : i < len' := by rw [← hlen]; exact (List.getElem?_eq_some_iff.1 hx).1
    rw [List.getElem?_take_of_lt hi] at hx
    have h1 := hcell i (by omega)
    have h2 : zs.getD i 0 = x := by rw [List.getD_eq_getElem?_getD, hx]; rfl
    rw [h2] at h1
    obtain ⟨ab, ao, asp⟩ := a
    cases asp with
    | none =>
      refine ⟨ab, ao, rfl, [.int k x], rfl, fun j u hj => ?_⟩
      have hj0 : j = 0 := by have := (List.getElem?_eq_some_iff.1 hj).1; simpa using this
      subst hj0
      simp at hj
      subst hj
      rw [Addr.add_lit] at h1
      have := cellAt_heapOf h1
      simpa [intE] using this
    | some s =>
      have h0 := hcell 0 (by omega)
      rw [Addr.add_zero'] at h0
      unfold World.cell? at h0
      revert h0
      cases hb : W.heap[ab]? with
      | none => intro h0; simp [hb] at h0
      | some ob => cases ob <;> intro h0 <;> simp [hb] at h0
end
theorem u_of_wf {x : Int} (h : (Lit.int .u64 x).wf = true) : 0 ≤ x ∧ x < 18446744073709551616 := by
  simp [Lit.wf, IntKind.min, IntKind.max, IntKind.signed, IntKind.bits] at h; omega
theorem i_of_wf {x : Int} (h : (Lit.int .i64 x).wf = true) : -9223372036854775808 ≤ x ∧ x ≤ 9223372036854775807 := by
  simp [Lit.wf, IntKind.min, IntKind.max, IntKind.signed, IntKind.bits] at h; omega
end Go.SX
