/- 'DepthRises' answers true, whatever it is handed, and what it is handed reads behind it as it did. -/
import Derived.RangeFuncNested
import Derived.RangeFuncBound
import Derived.RangeFuncCalls
import Derived.RangeFuncLeaves
import Derived.Shelf.Abstract
import Derived.Laws.AppendOwn
import Derived.Laws.OwnMore
import Derived.KernelRfl
import Derived.IntWalk
import Derived.Laws.Append
import Derived.WideLaws
import Derived.Laws.Slices
import Derived.Laws.MakeOwn
import Derived.OrdersIn
import Derived.Laws.Cover3
import Derived.Test.YtfidlmknejooeaaGreatProg
import Derived.Sort.OwnSortedInts
import Derived.Shelf.Sort.Plain
import Derived.Laws.StructEq
import Derived.Maps.RangeRun
import Derived.Shelf.SlSortCmp.NoneTotal
import Derived.Deep.Draws
import Derived.Shelf.Slices.In.SortNone
import Derived.ProofKit
import Derived.ChangeSlices
import Derived.Carry
import Derived.Deep.Slices
import Derived.OpenShut
import Derived.Test.YtfidlmknejooeaaGreatRows
import Derived.Test.YtfidlmknejooeaaGreatKDRises4
set_option linter.unusedVariables false
set_option linter.unusedSimpArgs false
namespace Go.SX
open Go Go.Sort Go.Proofs
attribute [local semireducible] T TL
def sortC (cf : Int → Int → Int) (xs : List Int) : List Int := xs.mergeSort (fun x y => !(ltOf cf) y x)
theorem sortC_perm (cf : Int → Int → Int) (xs : List Int) : (sortC cf xs).Perm xs := List.mergeSort_perm _ _
theorem sortWorld_same {w : World} {blk off n : Nat} {d : Array Int} {os : Array Obj} {k : Nat} (hk : k < w.heap.size) (hb : k ≠ blk) : (sortWorld (Value.int .i64) w blk off n d os).heap[k]? = w.heap[k]? := by
  unfold sortWorld
  rw [heap_grow_old _ _ (by simpa using hk)]
  simp [putRow, mapBlock, Sort.ahead, Array.getElem?_modify, Ne.symm hb]
theorem cmp_lays1 {P : Program} {g : FuncId} {fn : Func} {cd : Code} (hf : P.funcs[g]? = some fn) (hb : fn.body = some cd) (hname : (fn.name == "runtime.NumGoroutine") = false) {cb : List Value} {cf : Int → Int → Int} {H : Heap}
    (h : ∀ (a b : Int), Fv P (.func (.func g) #[] cb.toArray) [.int .i64 a, .int .i64 b] H (.int .i64 (cf a b))) (blk off size : Nat) (w : World) (hsat : ∀ b o, H b = some o → w.heap[b]? = some o) (hblk : H blk = none) : CmpLays1 P g cb.toArray (Value.int .i64) cf blk off size w := by
  intro m os dk _ x y
  have hS : Sat H ([] : Own).flatten (sortWorld (Value.int .i64) w blk off m dk os) := ⟨fun b o hbo => by
    have hw := hsat b o hbo
    rw [sortWorld_same (heap_lt hw) (fun e => by rw [e, hblk] at hbo; cases hbo)]
    exact hw, fun p hp => (by cases hp), List.nodup_nil, fun p hp => (by cases hp)⟩
  revert hS
  generalize sortWorld (Value.int .i64) w blk off m dk os = W
  intro hS
  obtain ⟨nx, w1, h1, h2⟩ := h x y W hS
  have he := Go.Proofs.enters_of (P := P) hf hname hb (#[.int .i64 x, .int .i64 y] ++ cb.toArray) W
  have hrun : Sem.run P (do let d ← Deferred.ofValue (.func (.func g) #[] cb.toArray) [.int .i64 x, .int .i64 y].toArray; invoke d.target d.args) W = .ok (.enter g (#[.int .i64 x, .int .i64 y] ++ cb.toArray)) W := by
    rw [Sem.run_bind]
    simp only [Deferred.ofValue, invoke, Sem.run_pure]
    exact he
  rw [hrun] at h1
  injection h1 with h1 h3
  subst h1; subst h3
  refine callsIn_wide.1 (CallsIn.mono h2 ?_)
  rintro e w' ⟨u, H', L', rfl, hst, rfl, rfl⟩
  exact ⟨rfl, _, _, grown_eq hst.chg.os hst.chg.tape hst.chg.output hst.chg.drawn hst.chg.size (fun b hb => hst.chg.same b hb (by simp [keys]))⟩
theorem sortF1_fc {P : Program} {f g : FuncId} {fn : Func} {cd : Code} {e : TypeId} {cb : List Value} (hf : P.funcs[f]? = some fn) (hb : fn.body = some cd) (hname : (fn.name == "runtime.NumGoroutine") = false) {cf : Int → Int → Int} {H : Heap}
    (hlay : ∀ (blk off size : Nat) (w : World), (∀ b o, H b = some o → w.heap[b]? = some o) → H blk = none → CmpLays1 P g cb.toArray (Value.int .i64) cf blk off size w)
    (hcon : ∀ (blk off cap : Nat) (d : Array Int) (w : World), CmpLays1 P g cb.toArray (Value.int .i64) cf blk off d.size w → Holds (Value.int .i64) w blk off d → blk < w.heap.size → d.size < 4611686018427387904 →
      Calls P f #[.slice (some ⟨blk, off, none⟩) d.size cap, .func (.func g) #[] cb.toArray] w fun e w' => e = .returned (.tuple #[]) ∧ ∃ n os, w' = sortWorld (Value.int .i64) w blk off n (d.toList.mergeSort fun x y => !(ltOf cf) y x).toArray os)
    (hnone : ∀ (p : Option Addr) (cap : Nat) (fv : Value) (w : World), Calls P f #[.slice p 0 cap, fv] w fun e w' => e = .returned (.tuple #[]) ∧ w' = w)
    {v : Value} {xs : List Int} {c : Chunk} (ho : OwnS (intE .i64) e H v xs c) (hl : xs.length ≤ 1099511627776) :
    Fc P (fnv f) [v, .func (.func g) #[] cb.toArray] H [c] (fun _ H' L' => H' = H ∧ ∃ c', L' = [c'] ∧ OwnS (intE .i64) e H v (sortC cf xs) c') := by
  intro w hs
  by_cases hne : xs = []
  · obtain ⟨A, cap, rfl, _, _⟩ := ho.shape
    subst hne
    have he := Go.Proofs.enters_of (P := P) hf hname hb #[.slice A 0 cap, .func (.func g) #[] cb.toArray] w
    refine ⟨.enter f #[.slice A 0 cap, .func (.func g) #[] cb.toArray], w, by simp [Deferred.ofValue, invoke, he], ?_⟩
    refine CallsIn.mono (callsIn_wide.2 (hnone A cap _ w)) ?_
    rintro e' w' ⟨rfl, rfl⟩
    exact ⟨_, H, [c], rfl, St.init hs, rfl, c, rfl, by simpa [sortC] using ho⟩
  rcases ho with ⟨_, h, _⟩ | ⟨b, cap, cs, rfl, rfl, h3, h4, h5, h6⟩
  · exact absurd h hne
  have hs' : Sat H [(b, .cells cs e)] w := by simpa using hs
  have hbl := hs'.l (b, .cells cs e) (List.mem_singleton.2 rfl)
  simp only at hbl
  have hcs : cs.size = cap := by rw [h5]; exact Nat.mul_one cap
  have hcell : ∀ (i : Nat) x, xs[i]? = some x → cs[i]? = some (.int .i64 x) := fun i x hx => by
    obtain ⟨l, h7, h8⟩ := h6 i x hx
    obtain rfl : l = [.int .i64 x] := h7
    have := h8 0 _ rfl
    simpa [intE] using this
  have htk : cs.toList.take xs.length = xs.map (Value.int .i64) := by
    apply List.ext_getElem?
    intro i
    by_cases hi : i < xs.length
    · rw [List.getElem?_take_of_lt hi, Array.getElem?_toList, hcell i _ (List.getElem?_eq_getElem hi)]
      simp [hi]
    · rw [List.getElem?_take_eq_none (by omega), List.getElem?_eq_none (by simp; omega)]
  have hH := holds_of_blockI hbl htk
  have hdj := hs'.dj (b, .cells cs e) (List.mem_singleton.2 rfl)
  simp only at hdj
  have he := Go.Proofs.enters_of (P := P) hf hname hb #[.slice (some ⟨b, 0, none⟩) xs.length cap, .func (.func g) #[] cb.toArray] w
  refine ⟨.enter f #[.slice (some ⟨b, 0, none⟩) xs.length cap, .func (.func g) #[] cb.toArray], w, by simp [Deferred.ofValue, invoke, he], ?_⟩
  have hcall := hcon b 0 cap xs.toArray w (hlay b 0 _ w hs'.h hdj) hH (heap_lt hbl) (by simp; omega)
  simp only [List.size_toArray] at hcall
  refine CallsIn.mono (callsIn_wide.2 hcall) ?_
  rintro e' w' ⟨rfl, n, os, rfl⟩
  have hlen : (sortC cf xs).length = xs.length := (sortC_perm cf xs).length_eq
  have hnew := heap_sortedI (n := n) (os := os) (sortC cf xs).toArray hbl
  have hg := grownBy_sortedI (w := w) (g := b) (n := n) (os := os) (sortC cf xs).toArray
  refine ⟨_, H, [[(b, .cells (putCells (Value.int .i64) 0 (sortC cf xs).toArray cs) e)]], rfl, ?_, rfl, _, rfl, ?_⟩
  · obtain ⟨g1, g2, g3, g4, g5⟩ := hg
    refine ⟨⟨fun b' o hb' => ?_, fun q hq => ?_, by simp [keys], fun q hq => ?_⟩, ⟨g1, g2, g3, g4, fun b' h1 h2 => g5 b' h1 (fun x => h2 (by cases x; simp [keys])), Nat.le_add_right _ _⟩, HLe.refl _, fun b' o h1 h2 => ?_, fun b' hb' => ?_⟩
    · have hne' : b' ≠ b := fun x => by subst x; rw [hb'] at hdj; cases hdj
      have hw := hs'.h b' o hb'
      exact (g5 b' (heap_lt hw) (fun x => hne' (by cases x; rfl))).trans hw
    · simp at hq; subst hq; exact hnew
    · simp at hq; subst hq
      exact hdj
    · have h1' : H b' = some o := h1
      have h2' : H b' = none := h2
      rw [h1'] at h2'; cases h2'
    · left; simpa [keys] using hb'
  · have hsz : (putCells (Value.int .i64) 0 (sortC cf xs).toArray cs).size = cs.size := by simp [putCells]
    refine .inr ⟨b, cap, putCells (Value.int .i64) 0 (sortC cf xs).toArray cs, by rw [hlen], rfl, by rw [hlen]; exact h3, h4, by rw [hsz]; exact h5, fun i x hx => ⟨[.int .i64 x], rfl, fun j u hj => ?_⟩⟩
    have hj0 : j = 0 := by have := (List.getElem?_eq_some_iff.1 hj).1; simpa using this
    subst hj0
    simp at hj
    subst hj
    have ht := take_putCellsI cs (sortC cf xs) (by rw [hlen, hcs]; exact h3)
    have hi := (List.getElem?_eq_some_iff.1 hx).1
    have h9 : ((putCells (Value.int .i64) 0 (sortC cf xs).toArray cs).toList.take (sortC cf xs).length)[i]? = ((sortC cf xs).map (Value.int .i64))[i]? := by rw [ht]
    rw [List.getElem?_take_of_lt hi, Array.getElem?_toList, List.getElem?_map, hx] at h9
    show (putCells (Value.int .i64) 0 (sortC cf xs).toArray cs)[i * 1 + 0]? = _
    rw [Nat.mul_one, Nat.add_zero, h9]; rfl
end Go.SX

set_option linter.unusedVariables false
set_option linter.unusedSimpArgs false
namespace Go.SX
open Go Go.Sort Go.Proofs
theorem ElemAt.snd1 {H : Heap} {b o : Nat} {y : Lk} (h : ElemAt pairE H b o y) : cellAt H b (o + 1) = some (.int .i64 y.2) := by
  obtain ⟨l, h1, h2⟩ := h
  obtain rfl : l = [.int .i64 y.1, .int .i64 y.2] := h1
  exact h2 1 _ rfl
theorem cmpI_lt0 {a b : Int} : cmpI a b < 0 ↔ a < b := by unfold cmpI; split <;> (try split) <;> omega
theorem cmpI_zero0 {a b : Int} : cmpI a b = 0 ↔ a = b := by unfold cmpI; split <;> (try split) <;> omega
def prevF (xs : List Lk) (k : Nat) : Int := ((xs[k - 1]?).map (·.1)).getD 0
theorem prevF_at {xs : List Lk} {k : Nat} {y : Lk} (h : xs[k - 1]? = some y) : prevF xs k = y.1 := by unfold prevF; rw [h]; rfl
def goodB (d : List Lk) (k : Nat) (y : Lk) : Bool := decide (1 ≤ y.1 ∧ y.1 ≤ 1048578 ∧ 1 ≤ y.2 ∧ (k = 0 ∨ prevF d k < y.1))
theorem right_step {d : List Lk} {k : Nat} {y : Lk} (h : rightD (d.take k) = true) (hy : d[k]? = some y) (hg : goodB d k y = true) : rightD (d.take (k + 1)) = true := by
  obtain ⟨h1, h2, h3, h4⟩ := of_decide_eq_true hg
  obtain ⟨h5, h6⟩ := rightD_iff.1 h
  rw [take_snoc _ _ _ hy]
  refine rightD_iff.2 ⟨fun z hz => ?_, ?_⟩
  · rcases List.mem_append.1 hz with hz | hz
    · exact h5 z hz
    · rw [List.mem_singleton.1 hz]; exact ⟨h1, h2, h3⟩
  · refine List.pairwise_append.2 ⟨h6, List.pairwise_singleton _ _, fun a ha b hb => ?_⟩
    rw [List.mem_singleton.1 hb]
    obtain ⟨i, hi⟩ := List.mem_iff_getElem?.1 ha
    have hik : i < k := by have := (List.getElem?_eq_some_iff.1 hi).1; simp at this; omega
    rw [List.getElem?_take_of_lt hik] at hi
    have hk := (List.getElem?_eq_some_iff.1 hy).1
    obtain ⟨z, hz⟩ : ∃ z, d[k - 1]? = some z := ⟨_, List.getElem?_eq_getElem (by omega)⟩
    rw [prevF_at hz] at h4
    rcases Nat.lt_or_ge i (k - 1) with hlt | hge
    · have e1 : (d.take k)[i]? = some a := by rw [List.getElem?_take_of_lt hik]; exact hi
      have e2 : (d.take k)[k - 1]? = some z := by rw [List.getElem?_take_of_lt (by omega)]; exact hz
      have := rise_get h e1 e2 hlt
      omega
    · have : i = k - 1 := by omega
      subst this
      rw [hi] at hz; injection hz with hz; subst hz
      omega
theorem right_fail {d : List Lk} {k : Nat} {y : Lk} (hy : d[k]? = some y) (hg : goodB d k y = false) : rightD d = false := by
  rw [Bool.eq_false_iff]
  intro h
  have h0 := (rightD_iff.1 h).1 y (List.mem_of_getElem? hy)
  have : goodB d k y = true := by
    refine decide_eq_true ⟨h0.1, h0.2.1, h0.2.2, ?_⟩
    by_cases hk : k = 0
    · exact .inl hk
    · right
      have hl := (List.getElem?_eq_some_iff.1 hy).1
      obtain ⟨z, hz⟩ : ∃ z, d[k - 1]? = some z := ⟨_, List.getElem?_eq_getElem (by omega)⟩
      rw [prevF_at hz]
      exact rise_get h hz hy (by omega)
  rw [hg] at this; cases this
theorem up_fst {d : List Lk} (h : rightD d = true) : Up (d.map (·.1)) := List.pairwise_map.2 (rightD_iff.1 h).2
theorem get_fst {d : List Lk} {k : Nat} {y : Lk} (h : d[k]? = some y) : (d.map (·.1))[k]? = some y.1 := by rw [List.getElem?_map, h]; rfl
/-- what is told of where a number stands -/
theorem at_pos {d : List Lk} (h : rightD d = true) {n : Int} {i : Nat} (hi : i ≤ d.length) (hlo : ∀ (j : Nat) y, j < i → (d.map (·.1))[j]? = some y → y < n) (hhi : ∀ (j : Nat) y, i ≤ j → (d.map (·.1))[j]? = some y → n ≤ y) : BSI d n i :=
  ⟨hi, fun k y hy => ⟨fun hlt => by
    rcases Nat.lt_or_ge k i with h1 | h1
    · exact h1
    · have := hhi k y.1 h1 (get_fst hy); omega, fun hlt => hlo k y.1 hlt (get_fst hy)⟩⟩
/-- the order's comparison -/
def cmpO (d : List Lk) (a b : Int) : Int := cmpP (atD d a, a) (atD d b, b)
theorem cmpO_lt {d : List Lk} {a b : Int} : ltOf (cmpO d) a b = decide (ltP (atD d a, a) (atD d b, b)) := lt_cmp _ _
theorem swo_cmpO (d : List Lk) : SWO (ltOf (cmpO d)) where
  irrefl x := by rw [cmpO_lt]; exact decide_eq_false (by unfold ltP; omega)
  trans x y z h1 h2 := by rw [cmpO_lt] at *; have a1 := of_decide_eq_true h1; have a2 := of_decide_eq_true h2; exact decide_eq_true (ltP_trans a1 a2)
  ntrans x y z h1 h2 := by rw [cmpO_lt] at *; have a1 := of_decide_eq_false h1; have a2 := of_decide_eq_false h2; exact decide_eq_false (by unfold ltP at *; simp only at *; omega)
theorem tot_cmpO (d : List Lk) (a b : Int) (h1 : ltOf (cmpO d) a b = false) (h2 : ltOf (cmpO d) b a = false) : a = b := by
  rw [cmpO_lt] at h1 h2
  simp only [decide_eq_false_iff_not] at h1 h2
  unfold ltP at h1 h2
  simp only at h1 h2
  omega
theorem sortO_eq (d : List Lk) (xs : List Int) : sortC (cmpO d) xs = refO d xs := by
  refine orderO_eq (sortC_perm _ xs) ?_
  have := List.pairwise_mergeSort (le := fun x y : Int => !(ltOf (cmpO d)) y x) (fun a b c h1 h2 => by
    simp only [cmpO_lt, Bool.not_eq_true', decide_eq_false_iff_not] at *
    unfold ltP at *; simp only at *; omega) (fun a b => by
    simp only [cmpO_lt, Bool.or_eq_true, Bool.not_eq_true', decide_eq_false_iff_not]
    unfold ltP; simp only; omega) xs
  refine this.imp (fun {a b} h => ?_)
  simp only [cmpO_lt, Bool.not_eq_true', decide_eq_false_iff_not] at h
  unfold ltP at h; unfold leO; simp only at h; omega
def okD (d : List Lk) : List Lk := if rightD d then d else []
theorem okD_right (d : List Lk) : rightD (okD d) = true := by
  unfold okD
  cases h : rightD d with
  | true => exact h
  | false => exact rightD_nil
/-- ref17.Of's question -/
def newB (xs : List Lk) (k : Nat) (y : Lk) : Bool := decide (k = 0 ∨ prevF xs k ≠ y.1)
/-- ref17.Order's question -/
def contB (d : List Lk) (out : List Int) (n : Int) (j : Nat) : Bool := match out[j]? with
  | some y => decide (leO d y n)
  | none => false
def sameR (d xs : List Lk) (m : Lk) : Int := if (ofDR xs).2 ≠ 0 then (ofDR xs).2 else if d ≠ (ofDR xs).1 then 271 else if linkB m = false then 2 else 0
def moreR (d xs : List Lk) (m : Lk) : List Lk × Int := if sameR d xs m ≠ 0 then ([], sameR d xs m) else if m ∈ xs then ([], 5) else if (decide (m.1 = m.2) || leadsR xs m.2 m.1) = true then ([], 270) else (ofD (ofP (xs ++ [m])), 0)
def lessR (d xs : List Lk) (m : Lk) : List Lk × Int := if sameR d xs m ≠ 0 then ([], sameR d xs m) else if m ∉ xs then ([], 4) else (ofD (delL xs m), 0)
theorem ofDR_ok {xs : List Lk} (h : (ofDR xs).2 = 0) : Acyc xs ∧ ofDR xs = (ofD xs, 0) := by
  unfold ofDR at h ⊢
  cases h1 : chainB xs with
  | false => rw [h1] at h; simp at h
  | true =>
    cases h2 : roundR xs with
    | true => rw [h1, h2] at h; simp at h
    | false => exact ⟨⟨h1, h2⟩, rfl⟩
theorem sameR_ok {d xs : List Lk} {m : Lk} (h : sameR d xs m = 0) : Acyc xs ∧ d = ofD xs ∧ linkB m = true := by
  unfold sameR at h
  by_cases h1 : (ofDR xs).2 = 0
  · rw [if_neg (by simpa using h1)] at h
    obtain ⟨hA, he⟩ := ofDR_ok h1
    rw [he] at h
    by_cases h2 : d = ofD xs
    · rw [if_neg (by simpa using h2)] at h
      cases h3 : linkB m with
      | true => exact ⟨hA, h2, rfl⟩
      | false => rw [h3] at h; simp at h
    · rw [if_pos h2] at h; simp at h
  · rw [if_pos h1] at h; exact absurd h h1
theorem ofR_one (m : Lk) : (ofR [m]).2 = if linkB m = false then 2 else 0 := by
  have := ofP_len [m]
  unfold ofR
  cases h : linkB m with
  | true => simp [h]; rw [if_pos (by simp at this; omega)]
  | false => simp [h]
/-- the depths that stay right, with a link more -/
theorem more_keep {xs : List Lk} {m : Lk} (hA : Acyc xs) (hl : xs.length ≤ 900) (hm : linkB m = true) (hn : (decide (m.1 = m.2) || leadsR xs m.2 m.1) = false) : ∀ y ∈ ofD xs, y.1 ∉ (wavesL true (ofP (xs ++ [m])) m.1).flatten → y.2 = depL (ofP (xs ++ [m])) y.1 := fun y hy hw => by
  obtain ⟨n, hn2, rfl⟩ := List.mem_map.1 hy
  have hB := more_acyc hA hl hm hn
  exact (dep_same hB hA (a := m.1) (fun k hk t => more_out hA.1 hl hm k hk t) _ n (Nat.le_refl _) (fun hr => hw (back_mem.2 hr))).symm
theorem less_keep {xs : List Lk} (m : Lk) (hA : Acyc xs) : ∀ y ∈ ofD xs, y.1 ∉ (wavesL true (delL xs m) m.1).flatten → y.2 = depL (delL xs m) y.1 := fun y hy hw => by
  obtain ⟨n, hn2, rfl⟩ := List.mem_map.1 hy
  exact (dep_same (del_acyc m hA) hA (a := m.1) (fun k hk t => del_out hA.1 k hk t) _ n (Nat.le_refl _) (fun hr => hw (back_mem.2 hr))).symm
theorem filt_snoc {α : Type} {xs : List α} {k : Nat} {y : α} {p : α → Bool} (h : xs[k]? = some y) : (xs.take (k + 1)).filter p = if p y then (xs.take k).filter p ++ [y] else (xs.take k).filter p := by
  rw [take_snoc _ _ _ h, List.filter_append]
  by_cases e : p y = true
  · rw [if_pos e, List.filter_cons_of_pos e, List.filter_nil]
  · rw [if_neg e, List.filter_cons_of_neg e, List.filter_nil, List.append_nil]
end Go.SX
namespace Go.SX
open Go Go.Sort Go.Proofs
theorem fidx_some {α : Type} {p : α → Bool} {xs : List α} (h : fidxI p xs ≠ -1) : ∃ (i : Nat) (z : α), fidxI p xs = i ∧ xs[i]? = some z ∧ p z = true ∧ ∀ (j : Nat) y, j < i → xs[j]? = some y → p y = false := by
  unfold fidxI at h ⊢
  cases e : xs.findIdx? p with
  | none => rw [e] at h; exact absurd rfl h
  | some i =>
    rw [List.findIdx?_eq_some_iff_getElem] at e
    obtain ⟨h1, h2, h3⟩ := e
    refine ⟨i, xs[i], rfl, List.getElem?_eq_getElem h1, h2, fun j y hj hy => ?_⟩
    obtain ⟨h4, rfl⟩ := List.getElem?_eq_some_iff.1 hy
    simpa using h3 j hj
theorem filtD_pre {α : Type} {p : α → Bool} : ∀ {i : Nat} {xs : List α}, (∀ (j : Nat) y, j < i → xs[j]? = some y → p y = true) → (xs.take i).filter p = xs.take i := fun {i xs} h => by
  rw [List.filter_eq_self]
  intro y hy
  obtain ⟨j, hj⟩ := List.mem_iff_getElem?.1 hy
  have hji : j < i := by have := (List.getElem?_eq_some_iff.1 hj).1; simp at this; omega
  rw [List.getElem?_take_of_lt hji] at hj
  exact h j y hji hj
theorem fidx_no {α : Type} {p : α → Bool} {xs : List α} (h : fidxI p xs = -1) : xs.filter (fun y => !p y) = xs := by
  rw [List.filter_eq_self]
  intro y hy
  have : ¬ (0 : Int) ≤ fidxI p xs := by omega
  have h2 : xs.any p = false := by
    cases e : xs.any p with
    | false => rfl
    | true => exact absurd (fidxI_ge.2 e) this
  rw [List.any_eq_false] at h2
  simpa using h2 y hy
theorem moreR_a {d xs : List Lk} {m : Lk} (h : sameR d xs m ≠ 0) : moreR d xs m = ([], sameR d xs m) := by unfold moreR; rw [if_pos h]
theorem moreR_b {d xs : List Lk} {m : Lk} (h : sameR d xs m = 0) (h2 : m ∈ xs) : moreR d xs m = ([], 5) := by unfold moreR; rw [if_neg (by simpa using h), if_pos h2]
theorem moreR_c {d xs : List Lk} {m : Lk} (h : sameR d xs m = 0) (h2 : m ∉ xs) (h3 : (decide (m.1 = m.2) || leadsR xs m.2 m.1) = true) : moreR d xs m = ([], 270) := by unfold moreR; rw [if_neg (by simpa using h), if_neg h2, if_pos h3]
theorem moreR_d {d xs : List Lk} {m : Lk} (h : sameR d xs m = 0) (h2 : m ∉ xs) (h3 : (decide (m.1 = m.2) || leadsR xs m.2 m.1) = false) : moreR d xs m = (ofD (ofP (xs ++ [m])), 0) := by unfold moreR; rw [if_neg (by simpa using h), if_neg h2, if_neg (by rw [h3]; simp)]
theorem lessR_a {d xs : List Lk} {m : Lk} (h : sameR d xs m ≠ 0) : lessR d xs m = ([], sameR d xs m) := by unfold lessR; rw [if_pos h]
theorem lessR_b {d xs : List Lk} {m : Lk} (h : sameR d xs m = 0) (h2 : m ∉ xs) : lessR d xs m = ([], 4) := by unfold lessR; rw [if_neg (by simpa using h), if_pos h2]
theorem lessR_c {d xs : List Lk} {m : Lk} (h : sameR d xs m = 0) (h2 : m ∈ xs) : lessR d xs m = (ofD (delL xs m), 0) := by unfold lessR; rw [if_neg (by simpa using h), if_neg (by simpa using h2)]
theorem anyD_mem {xs : List Lk} {m : Lk} : xs.any (fun y => decide (m = y)) = true ↔ m ∈ xs := by
  rw [List.any_eq_true]
  exact ⟨fun ⟨y, h1, h2⟩ => (of_decide_eq_true h2) ▸ h1, fun h => ⟨m, h, decide_eq_true rfl⟩⟩
theorem anyD_not {xs : List Lk} {m : Lk} (h : xs.any (fun y => decide (m = y)) = false) : m ∉ xs := fun hm => by rw [anyD_mem.2 hm] at h; cases h
theorem more_of {xs : List Lk} {m : Lk} (hA : Acyc xs) (hl : xs.length ≤ 900) (hm : linkB m = true) : ofR (xs ++ [m]) = (ofP (xs ++ [m]), 0) := by
  have hlen : (xs ++ [m]).length ≤ 1000 := by simp; omega
  have ha := link_all hA.1 hm
  have hp := ofP_len (xs ++ [m])
  unfold ofR
  rw [if_pos ha, if_pos (by omega)]
theorem acyc_of {xs : List Lk} (h : chainB xs = true) (h2 : (chainB xs && xs.any (fun y => leadsQ xs y.1 y.1)) = false) : Acyc xs := ⟨h, by rw [roundQ]; exact h2⟩
theorem same_zero {xs : List Lk} {m : Lk} (hA : Acyc xs) (hm : linkB m = true) : sameR (ofD xs) xs m = 0 := by
  unfold sameR
  rw [ofDR_c hA, hm]; simp
end Go.SX
namespace Go.SX
open Go Go.Sort Go.Proofs
def smallD : List Lk := [(3, 4), (3, 5), (4, 5)]
theorem smallD_acyc : Acyc smallD := acyc_of (by kernel_rfl) (by kernel_rfl)
theorem smallD_of : ofDR smallD = ([(3, 2), (4, 1)], 0) := (ofDR_c smallD_acyc).trans (by kernel_rfl)
theorem smallD_same {m : Lk} (hm : linkB m = true) : sameR [(3, 2), (4, 1)] smallD m = 0 := same_zero smallD_acyc hm
theorem smallD_more : moreR [(3, 2), (4, 1)] smallD (5, 6) = ([(3, 3), (4, 2), (5, 1)], 0) :=
  (moreR_d (smallD_same (by kernel_rfl)) (by decide) (by rw [← leadsQ_eq]; kernel_rfl)).trans (by kernel_rfl)
theorem smallD_cyc : moreR [(3, 2), (4, 1)] smallD (5, 3) = ([], 270) := moreR_c (smallD_same (by kernel_rfl)) (by decide) (by rw [← leadsQ_eq]; kernel_rfl)
theorem ofDR_len (xs : List Lk) : (ofDR xs).1.length ≤ xs.length := by
  unfold ofDR
  split
  · split
    · simp
    · exact ofD_len xs
  · simp
theorem moreR_right {d xs : List Lk} {m : Lk} (h : (moreR d xs m).2 = 0) : sameR d xs m = 0 ∧ m ∉ xs ∧ (decide (m.1 = m.2) || leadsR xs m.2 m.1) = false := by
  unfold moreR at h
  by_cases h1 : sameR d xs m = 0
  · rw [if_neg (by simpa using h1)] at h
    by_cases h2 : m ∈ xs
    · rw [if_pos h2] at h; simp at h
    · rw [if_neg h2] at h
      cases h3 : (decide (m.1 = m.2) || leadsR xs m.2 m.1) with
      | true => rw [h3] at h; simp at h
      | false => exact ⟨h1, h2, rfl⟩
  · rw [if_pos h1] at h; exact absurd h h1
theorem moreR_no {d xs : List Lk} {m : Lk} (h : (moreR d xs m).2 ≠ 0) : (moreR d xs m).1 = [] := by
  unfold moreR at h ⊢
  split
  · rfl
  · split
    · rfl
    · split
      · rfl
      · rename_i h1 h2 h3
        rw [if_neg h1, if_neg h2, if_neg h3] at h
        exact absurd rfl h
theorem moreR_len {d xs : List Lk} {m : Lk} : (moreR d xs m).1.length ≤ xs.length + 1 := by
  unfold moreR
  split
  · simp
  · split
    · simp
    · split
      · simp
      · have := ofD_len (ofP (xs ++ [m])); have := ofP_len (xs ++ [m]); simp at *; omega
/-- With a link more nobody is less deep; none but those that lead to it is deeper. -/
theorem ofR_le (xs : List Lk) : (ofR xs).1.length ≤ xs.length := by
  have h := ofP_len xs
  unfold ofR
  split
  · split
    · exact h
    · simp
  · simp
theorem lessR_len {d xs : List Lk} {m : Lk} : (lessR d xs m).1.length ≤ xs.length + 1 := by
  unfold lessR
  split
  · simp
  · split
    · simp
    · have h1 := ofD_len (delL xs m)
      have h2 : (delL xs m).length ≤ xs.length := by unfold delL; exact List.length_filter_le _ _
      show (ofD (delL xs m)).length ≤ _
      omega
theorem rises_at {xs : List Lk} {m : Lk} (hA : Acyc xs) (hl : xs.length ≤ 900) (hm : linkB m = true) (hn : (decide (m.1 = m.2) || leadsR xs m.2 m.1) = false) {y : Lk} (hy : y ∈ ofD (ofP (xs ++ [m]))) :
    ¬ y.2 < depL xs y.1 ∧ (depL xs y.1 < y.2 → y.1 ≠ m.1 → leadsR xs y.1 m.1 = true) := by
  obtain ⟨n, _, rfl⟩ := List.mem_map.1 hy
  have hB := more_acyc hA hl hm hn
  constructor
  · have := dep_mono hA hB (fun k t ht => by
      rw [mem_toL hA.1] at ht
      rw [mem_toL hB.1, more_mem]; exact .inl ht) n
    simp only; omega
  · intro hlt hne
    cases hlr : leadsR xs n m.1 with
    | true => rfl
    | false =>
      exfalso
      have hno : ¬ Rch (toL xs) n m.1 := fun hr => by
        rcases hr.un with e | ⟨v, hv, hr⟩
        · exact hne e.symm
        · rw [leads_rch.2 ⟨v, hv, hr⟩] at hlr; cases hlr
      have := dep_same hA hB (a := m.1) (fun k hk t => (more_out hA.1 hl hm k hk t).symm) _ n (Nat.le_refl _) hno
      simp only at hlt
      omega
theorem less_back {xs : List Lk} {m : Lk} (hA : Acyc xs) (hl : xs.length ≤ 900) (hm : linkB m = true) (hx : m ∉ xs) (hn : (decide (m.1 = m.2) || leadsR xs m.2 m.1) = false) : lessR (ofD (ofP (xs ++ [m]))) (ofP (xs ++ [m])) m = (ofD xs, 0) := by
  rw [lessR_c (same_zero (more_acyc hA hl hm hn) hm) (more_mem.2 (.inr rfl)), del_more hA.1 hl hm hx]
end Go.SX

namespace Go.Proofs
open Go.Shelf
def Tryz.sortF1_ren : Go.Shelf.Ren := ⟨fun | 6 => 68 | 15 => 79 | 14 => 136 | 28 => 151 | 29 => 152 | 20 => 181 | 21 => 182 | 22 => 183 | 23 => 184 | 24 => 185 | 25 => 186 | 26 => 187 | 27 => 188 | 46 => 207 | 47 => 190 | 48 => 191 | 49 => 208 | 50 => 209 | 57 => 230 | n => n, fun | 22 => 24 | 24 => 3 | 25 => 98 | 3 => 3 | 39 => 109 | 0 => 0 | 53 => 169 | 55 => 77 | 4 => 4 | 46 => 162 | 45 => 161 | 50 => 129 | 5 => 5 | 9 => 9 | 66 => 191 | 70 => 195 | 76 => 206 | 77 => 138 | n => n, fun | n => n⟩
theorem Tryz.sortF1 : Go.Proofs.SlLaysF.n6 Tryz.prog Tryz.sortF1_ren := {
  mixed := by kernel_rfl
  f6 := ⟨Tryz.f68.name, by decide, Tryz.func68.trans (congrArg some (by kernel_rfl))⟩
  f14 := ⟨Tryz.f136.name, by decide, Tryz.func136.trans (congrArg some (by kernel_rfl))⟩
  f15 := Tryz.func79.trans (congrArg some (by kernel_rfl))
  f20 := ⟨Tryz.f181.name, by decide, Tryz.func181.trans (congrArg some (by kernel_rfl))⟩
  f21 := ⟨Tryz.f182.name, by decide, Tryz.func182.trans (congrArg some (by kernel_rfl))⟩
  f22 := ⟨Tryz.f183.name, by decide, Tryz.func183.trans (congrArg some (by kernel_rfl))⟩
  f23 := ⟨Tryz.f184.name, by decide, Tryz.func184.trans (congrArg some (by kernel_rfl))⟩
  f24 := ⟨Tryz.f185.name, by decide, Tryz.func185.trans (congrArg some (by kernel_rfl))⟩
  f25 := ⟨Tryz.f186.name, by decide, Tryz.func186.trans (congrArg some (by kernel_rfl))⟩
  f26 := ⟨Tryz.f187.name, by decide, Tryz.func187.trans (congrArg some (by kernel_rfl))⟩
  f27 := ⟨Tryz.f188.name, by decide, Tryz.func188.trans (congrArg some (by kernel_rfl))⟩
  f28 := Tryz.func151.trans (congrArg some (by kernel_rfl))
  f29 := Tryz.func152.trans (congrArg some (by kernel_rfl))
  f46 := ⟨Tryz.f207.name, by decide, Tryz.func207.trans (congrArg some (by kernel_rfl))⟩
  f47 := Tryz.func190.trans (congrArg some (by kernel_rfl))
  f48 := Tryz.func191.trans (congrArg some (by kernel_rfl))
  f49 := ⟨Tryz.f208.name, by decide, Tryz.func208.trans (congrArg some (by kernel_rfl))⟩
  f50 := ⟨Tryz.f209.name, by decide, Tryz.func209.trans (congrArg some (by kernel_rfl))⟩
  f57 := ⟨Tryz.f230.name, by decide, Tryz.func230.trans (congrArg some (by kernel_rfl))⟩
  t0 := Tryz.underlying0
  a0 := Tryz.isAgg0
  z0 := Tryz.sizeOf0
  v0 := Tryz.zeroValue0
  t3 := Tryz.underlying3
  a3 := Tryz.isAgg3
  z3 := Tryz.sizeOf3
  v3 := Tryz.zeroValue3
  t4 := Tryz.underlying4
  a4 := Tryz.isAgg4
  z4 := Tryz.sizeOf4
  v4 := Tryz.zeroValue4
  t5 := Tryz.underlying5
  a5 := Tryz.isAgg5
  z5 := Tryz.sizeOf5
  v5 := Tryz.zeroValue5
  t9 := Tryz.underlying9
  a9 := Tryz.isAgg9
  z9 := Tryz.sizeOf9
  v9 := Tryz.zeroValue9
  t22 := Tryz.underlying24
  a22 := Tryz.isAgg24
  z22 := Tryz.sizeOf24
  v22 := Tryz.zeroValue24
  a24 := Tryz.isAgg3
  z24 := Tryz.sizeOf3
  t25 := Tryz.underlying98
  a25 := Tryz.isAgg98
  z25 := Tryz.sizeOf98
  v25 := Tryz.zeroValue98
  t39 := Tryz.underlying109
  a39 := Tryz.isAgg109
  z39 := Tryz.sizeOf109
  v39 := Tryz.zeroValue109
  t45 := Tryz.underlying161
  a45 := Tryz.isAgg161
  z45 := Tryz.sizeOf161
  v45 := Tryz.zeroValue161
  t46 := Tryz.underlying162
  a46 := Tryz.isAgg162
  z46 := Tryz.sizeOf162
  v46 := Tryz.zeroValue162
  t50 := Tryz.underlying129
  a50 := Tryz.isAgg129
  z50 := Tryz.sizeOf129
  v50 := Tryz.zeroValue129
  t53 := Tryz.underlying169
  a53 := Tryz.isAgg169
  z53 := Tryz.sizeOf169
  v53 := Tryz.zeroValue169
  t55 := Tryz.underlying77
  a55 := Tryz.isAgg77
  z55 := Tryz.sizeOf77
  v55 := Tryz.zeroValue77
  t66 := Tryz.underlying191
  a66 := Tryz.isAgg191
  z66 := Tryz.sizeOf191
  v66 := Tryz.zeroValue191
  t70 := Tryz.underlying195
  a70 := Tryz.isAgg195
  z70 := Tryz.sizeOf195
  v70 := Tryz.zeroValue195
  t76 := Tryz.underlying206
  a76 := Tryz.isAgg206
  z76 := Tryz.sizeOf206
  v76 := Tryz.zeroValue206
  t77 := Tryz.underlying138
  a77 := Tryz.isAgg138
  z77 := Tryz.sizeOf138
  v77 := Tryz.zeroValue138 }
end Go.Proofs

set_option linter.unusedVariables false
set_option linter.unusedSimpArgs false
namespace Go.SX
open Go Go.Proofs

set_option maxHeartbeats 1600000 in
theorem dcheck_c (H : Heap) (v : Value) (d : List Lk) (hr : RdS pairE H v d) : Fv Tryz.prog (fnv 18) [v] H (.int .i64 (if rightD d then 0 else 271)) := by
  refine Fc.of_body (N := 46) Tryz.func18 rfl (by kernel_rfl) rfl rfl ?_
  intro w0
  obtain ⟨A, c, rfl, hc1, hc2, hr⟩ := hr.shape
  refine T.seq ?_
  refine T.region ?_
  refine R.asE rfl (by conv => lhs; whnf) ?_
  refine TL.nil (Post.thnN ?_)
  refine T.scope ?_
  refine T.seq ?_
  refine T.region ?_
  refine R.asE rfl (by conv => lhs; whnf) ?_
  refine TL.nil (Post.thnN ?_)
  refine T.seq ?_
  refine T.label (Post.thnN ?_)
  refine T.seq ?_
  refine T.seq ?_
  refine T.region ?_
  refine R.mvE rfl (by conv => lhs; whnf) ?_
  refine R.len Tryz.underlying23 rfl rfl ?_
  refine R.mvE rfl (by conv => lhs; whnf) ?_
  refine TL.nil (Post.thnN ?_)
  refine T.block ?_
  refine T.loop (ι := Nat) (fun k H' L' ds' => k ≤ d.length ∧ L' = [] ∧ ds' = [] ∧ rightD (d.take k) = true) (fun k => [(0, .slice A d.length c), (3, .bool true), (6, .slice A d.length c), (7, .int .i64 d.length), (8, .int .i64 k)]) (fun k => d.length - k) (0) ?_ ?_ ?_
  · exact ⟨Nat.zero_le _, rfl, rfl, rightD_nil⟩
  · exact ⟨rfl, rfl, rfl, rfl, rfl, trivial⟩
  · intro k σ0 H_0 L_0 ds_0 s_0 hI_0
    obtain ⟨hk, rfl, rfl, hg⟩ := hI_0
    refine T.seq ?_
    refine T.region ?_
    refine R.lss rfl rfl rfl ?_
    refine TL.nil (Post.thnN ?_)
    refine T.seq ?_
    refine T.condD rfl (fun c9 => ?_) (fun c9 => ?_)
    · have hlt : k < d.length := by omega
      obtain ⟨y, hy⟩ := getk hlt
      refine T.skip (Post.thnN ?_)
      refine T.seq ?_
      refine T.block ?_
      refine T.seq ?_
      refine T.region ?_
      refine R.mvE rfl (by conv => lhs; whnf) ?_
      obtain ⟨b11, o11, i11, e11⟩ := (hr.mono s_0).elem (hy)
      refine R.ixp Tryz.underlying23 Tryz.sizeOf29 rfl rfl rfl (by omega) i11 ?_
      refine R.ldP Tryz.isAgg29 Tryz.sizeOf29 rfl rfl (e11) ?_
      refine R.alloc Tryz.zeroValue29 rfl ?_
      intro b5
      refine R.asE rfl (by conv => lhs; whnf) ?_
      refine R.stA (old := [.int .i64 0, .int .i64 0]) Tryz.sizeOf29 rfl rfl rfl rfl rfl (by intro v hv; simp at hv; rcases hv with rfl | rfl <;> rfl) .hd ?_
      refine TL.nil (Post.thnN ?_)
      refine T.cut (ι := Unit) (fun _ H' L' ds' => L' = [] ∧ ds' = []) (fun _ => [(0, .slice A d.length c), (3, .bool (goodB d k y)), (6, .slice A d.length c), (7, .int .i64 d.length), (8, .int .i64 k)]) ?_ ?_
      · refine T.shut .hd ?_
        intro H5 s5 q5
        have h5 : H5 b5 = some (.cells #[.int .i64 y.1, .int .i64 y.2] 29) := shut1 q5
        refine T.draw Tryz_mixed (by kernel_rfl) ?_
        refine Plan.v 0 [1, 2, 3, 4, 5, 6, 7, 8, 9, 10, 11, 12, 13, 14, 15, 16, 17, 18, 19, 20, 21, 22, 23, 24, 25, 26, 27, 28] (by kernel_rfl) (by kernel_rfl) (by kernel_rfl) (by kernel_rfl) rfl (fun _ _ h_ => R.fldA Tryz.underlying29 rfl Tryz.sizeOf3 (by decide) rfl rfl (TL.nil h_)) ?_
        refine Plan.v 1 [2, 3, 4, 5, 6, 7, 8, 9, 10, 11, 12, 13, 14, 15, 16, 17, 18, 19, 20, 21, 22, 23, 24, 25, 26, 27, 28] (by kernel_rfl) (by kernel_rfl) (by kernel_rfl) (by kernel_rfl) rfl (fun _ _ h_ => R.ldH Tryz.isAgg3 rfl rfl (h5) rfl (TL.nil h_)) ?_
        refine Plan.v 2 [3, 4, 5, 6, 7, 8, 9, 10, 11, 12, 13, 14, 15, 16, 17, 18, 19, 20, 21, 22, 23, 24, 25, 26, 27, 28] (by kernel_rfl) (by kernel_rfl) (by kernel_rfl) (by kernel_rfl) rfl (fun _ _ h_ => R.geq rfl rfl rfl (TL.nil h_)) ?_
        refine Plan.v 3 [4, 5, 6, 7, 8, 9, 10, 11, 12, 13, 14, 15, 16, 17, 18, 19, 20, 21, 22, 23, 24, 25, 26, 27, 28] (by kernel_rfl) (by kernel_rfl) (by kernel_rfl) (by kernel_rfl) rfl (fun _ _ h_ => R.mvE rfl (by conv => lhs; whnf) (TL.nil h_)) ?_
        refine Plan.gsplitD 16 rfl (fun g16 => ?_) (fun g16 => ?_)
        · refine Plan.v 4 [5, 6, 7, 8, 9, 10, 11, 12, 13, 14, 15, 16, 17, 18, 19, 20, 21, 22, 23, 24, 25, 26, 27, 28] (by kernel_rfl) (by kernel_rfl) (by kernel_rfl) (by kernel_rfl) rfl (fun _ _ h_ => R.fldA Tryz.underlying29 rfl Tryz.sizeOf3 (by decide) rfl rfl (TL.nil h_)) ?_
          refine Plan.v 5 [6, 7, 8, 9, 10, 11, 12, 13, 14, 15, 16, 17, 18, 19, 20, 21, 22, 23, 24, 25, 26, 27, 28] (by kernel_rfl) (by kernel_rfl) (by kernel_rfl) (by kernel_rfl) rfl (fun _ _ h_ => R.ldH Tryz.isAgg3 rfl rfl (h5) rfl (TL.nil h_)) ?_
          refine Plan.v 6 [7, 8, 9, 10, 11, 12, 13, 14, 15, 16, 17, 18, 19, 20, 21, 22, 23, 24, 25, 26, 27, 28] (by kernel_rfl) (by kernel_rfl) (by kernel_rfl) (by kernel_rfl) rfl (fun _ _ h_ => R.leq rfl rfl rfl (TL.nil h_)) ?_
          refine Plan.v 7 [8, 9, 10, 11, 12, 13, 14, 15, 16, 17, 18, 19, 20, 21, 22, 23, 24, 25, 26, 27, 28] (by kernel_rfl) (by kernel_rfl) (by kernel_rfl) (by kernel_rfl) rfl (fun _ _ h_ => R.pkTE rfl rfl (by conv => lhs; whnf) (TL.nil h_)) ?_
          refine Plan.v 8 [9, 10, 11, 12, 13, 14, 15, 16, 17, 18, 19, 20, 21, 22, 23, 24, 25, 26, 27, 28] (by kernel_rfl) (by kernel_rfl) (by kernel_rfl) (by kernel_rfl) rfl (fun _ _ h_ => R.mvE rfl (by conv => lhs; whnf) (TL.nil h_)) ?_
          refine Plan.gsplitD 21 rfl (fun g21 => ?_) (fun g21 => ?_)
          · refine Plan.v 9 [10, 11, 12, 13, 14, 15, 16, 17, 18, 19, 20, 21, 22, 23, 24, 25, 26, 27, 28] (by kernel_rfl) (by kernel_rfl) (by kernel_rfl) (by kernel_rfl) rfl (fun _ _ h_ => R.fldA Tryz.underlying29 rfl Tryz.sizeOf3 (by decide) rfl rfl (TL.nil h_)) ?_
            refine Plan.v 10 [11, 12, 13, 14, 15, 16, 17, 18, 19, 20, 21, 22, 23, 24, 25, 26, 27, 28] (by kernel_rfl) (by kernel_rfl) (by kernel_rfl) (by kernel_rfl) rfl (fun _ _ h_ => R.ldH Tryz.isAgg3 rfl rfl (h5) rfl (TL.nil h_)) ?_
            refine Plan.v 11 [12, 13, 14, 15, 16, 17, 18, 19, 20, 21, 22, 23, 24, 25, 26, 27, 28] (by kernel_rfl) (by kernel_rfl) (by kernel_rfl) (by kernel_rfl) rfl (fun _ _ h_ => R.geq rfl rfl rfl (TL.nil h_)) ?_
            refine Plan.v 12 [13, 14, 15, 16, 17, 18, 19, 20, 21, 22, 23, 24, 25, 26, 27, 28] (by kernel_rfl) (by kernel_rfl) (by kernel_rfl) (by kernel_rfl) rfl (fun _ _ h_ => R.pkTE rfl rfl (by conv => lhs; whnf) (TL.nil h_)) ?_
            refine Plan.v 13 [14, 15, 16, 17, 18, 19, 20, 21, 22, 23, 24, 25, 26, 27, 28] (by kernel_rfl) (by kernel_rfl) (by kernel_rfl) (by kernel_rfl) rfl (fun _ _ h_ => R.mvE rfl (by conv => lhs; whnf) (TL.nil h_)) ?_
            refine Plan.gsplitD 26 rfl (fun g26 => ?_) (fun g26 => ?_)
            · refine Plan.v 14 [15, 16, 17, 18, 19, 20, 21, 22, 23, 24, 25, 26, 27, 28] (by kernel_rfl) (by kernel_rfl) (by kernel_rfl) (by kernel_rfl) rfl (fun _ _ h_ => R.mvE rfl (by conv => lhs; whnf) (TL.nil h_)) ?_
              refine Plan.v 15 [16, 17, 18, 19, 20, 21, 22, 23, 24, 25, 26, 27, 28] (by kernel_rfl) (by kernel_rfl) (by kernel_rfl) (by kernel_rfl) rfl (fun _ _ h_ => R.eql rfl rfl rfl (TL.nil h_)) ?_
              refine Plan.v 16 [17, 18, 19, 20, 21, 22, 23, 24, 25, 26, 27, 28] (by kernel_rfl) (by kernel_rfl) (by kernel_rfl) (by kernel_rfl) rfl (fun _ _ h_ => R.mvE rfl (by conv => lhs; whnf) (TL.nil h_)) ?_
              refine Plan.gsplitD 29 rfl (fun g29 => ?_) (fun g29 => ?_)
              · refine Plan.v 17 [18, 19, 20, 21, 22, 23, 24, 25, 26, 27, 28] (by kernel_rfl) (by kernel_rfl) (by kernel_rfl) (by kernel_rfl) rfl (fun _ _ h_ => TL.off rfl rfl rfl (TL.nil h_)) ?_
                refine Plan.v 18 [19, 20, 21, 22, 23, 24, 25, 26, 27, 28] (by kernel_rfl) (by kernel_rfl) (by kernel_rfl) (by kernel_rfl) rfl (fun _ _ h_ => TL.off rfl rfl rfl (TL.nil h_)) ?_
                refine Plan.v 19 [20, 21, 22, 23, 24, 25, 26, 27, 28] (by kernel_rfl) (by kernel_rfl) (by kernel_rfl) (by kernel_rfl) rfl (fun _ _ h_ => TL.off rfl rfl rfl (TL.nil h_)) ?_
                refine Plan.v 20 [21, 22, 23, 24, 25, 26, 27, 28] (by kernel_rfl) (by kernel_rfl) (by kernel_rfl) (by kernel_rfl) rfl (fun _ _ h_ => TL.off rfl rfl rfl (TL.nil h_)) ?_
                refine Plan.v 21 [22, 23, 24, 25, 26, 27, 28] (by kernel_rfl) (by kernel_rfl) (by kernel_rfl) (by kernel_rfl) rfl (fun _ _ h_ => TL.off rfl rfl rfl (TL.nil h_)) ?_
                refine Plan.v 22 [23, 24, 25, 26, 27, 28] (by kernel_rfl) (by kernel_rfl) (by kernel_rfl) (by kernel_rfl) rfl (fun _ _ h_ => TL.off rfl rfl rfl (TL.nil h_)) ?_
                refine Plan.v 23 [24, 25, 26, 27, 28] (by kernel_rfl) (by kernel_rfl) (by kernel_rfl) (by kernel_rfl) rfl (fun _ _ h_ => TL.off rfl rfl rfl (TL.nil h_)) ?_
                refine Plan.v 24 [25, 26, 27, 28] (by kernel_rfl) (by kernel_rfl) (by kernel_rfl) (by kernel_rfl) rfl (fun _ _ h_ => TL.off rfl rfl rfl (TL.nil h_)) ?_
                refine Plan.v 25 [26, 27, 28] (by kernel_rfl) (by kernel_rfl) (by kernel_rfl) (by kernel_rfl) rfl (fun _ _ h_ => TL.off rfl rfl rfl (TL.nil h_)) ?_
                refine Plan.v 26 [27, 28] (by kernel_rfl) (by kernel_rfl) (by kernel_rfl) (by kernel_rfl) rfl (fun _ _ h_ => R.pkTE rfl rfl (by conv => lhs; whnf) (TL.nil h_)) ?_
                refine Plan.v 27 [28] (by kernel_rfl) (by kernel_rfl) (by kernel_rfl) (by kernel_rfl) rfl (fun _ _ h_ => R.pkTE rfl rfl (by conv => lhs; whnf) (TL.nil h_)) ?_
                refine Plan.v 28 [] (by kernel_rfl) (by kernel_rfl) (by kernel_rfl) (by kernel_rfl) rfl (fun _ _ h_ => R.asE rfl (by conv => lhs; whnf) (TL.nil h_)) ?_
                refine Plan.done (Post.thnN ?_)
                -- cut r5, way yyyy
                exact ⟨(), s5, ⟨rfl, rfl⟩, rfl, congrArg Value.bool (by rw [Bool.eq_iff_iff]; unfold goodB; simp only [decide_eq_true_eq, Bool.false_eq_true, false_iff, true_iff]; omega), rfl, rfl, rfl, trivial⟩
              · obtain ⟨y', hy'⟩ := getk (xs := d) (k := ((k : Int) - 1).toNat) (by omega)
                have hpv : prevF d k = y'.1 := prevF_at (by rw [← hy']; congr 1; omega)
                refine Plan.v 17 [18, 19, 20, 21, 22, 23, 24, 25, 26, 27, 28] (by kernel_rfl) (by kernel_rfl) (by kernel_rfl) (by kernel_rfl) rfl (fun _ _ h_ => R.mvE rfl (by conv => lhs; whnf) (TL.nil h_)) ?_
                refine Plan.v 18 [19, 20, 21, 22, 23, 24, 25, 26, 27, 28] (by kernel_rfl) (by kernel_rfl) (by kernel_rfl) (by kernel_rfl) rfl (fun _ _ h_ => R.mvE rfl (by conv => lhs; whnf) (TL.nil h_)) ?_
                refine Plan.v 19 [20, 21, 22, 23, 24, 25, 26, 27, 28] (by kernel_rfl) (by kernel_rfl) (by kernel_rfl) (by kernel_rfl) rfl (fun _ _ h_ => R.subI rfl rfl rfl (by omega) (TL.nil h_)) ?_
                obtain ⟨b33, o33, i33, e33⟩ := (hr.mono (s_0.trans s5)).elem (hy')
                refine Plan.v 20 [21, 22, 23, 24, 25, 26, 27, 28] (by kernel_rfl) (by kernel_rfl) (by kernel_rfl) (by kernel_rfl) rfl (fun _ _ h_ => R.ixp Tryz.underlying23 Tryz.sizeOf29 rfl rfl rfl (by omega) i33 (TL.nil h_)) ?_
                refine Plan.v 21 [22, 23, 24, 25, 26, 27, 28] (by kernel_rfl) (by kernel_rfl) (by kernel_rfl) (by kernel_rfl) rfl (fun _ _ h_ => R.fldA Tryz.underlying29 rfl Tryz.sizeOf3 (by decide) rfl rfl (TL.nil h_)) ?_
                refine Plan.v 22 [23, 24, 25, 26, 27, 28] (by kernel_rfl) (by kernel_rfl) (by kernel_rfl) (by kernel_rfl) rfl (fun _ _ h_ => R.ldC Tryz.isAgg3 rfl rfl (ElemAt.fst e33) (TL.nil h_)) ?_
                refine Plan.v 23 [24, 25, 26, 27, 28] (by kernel_rfl) (by kernel_rfl) (by kernel_rfl) (by kernel_rfl) rfl (fun _ _ h_ => R.fldA Tryz.underlying29 rfl Tryz.sizeOf3 (by decide) rfl rfl (TL.nil h_)) ?_
                refine Plan.v 24 [25, 26, 27, 28] (by kernel_rfl) (by kernel_rfl) (by kernel_rfl) (by kernel_rfl) rfl (fun _ _ h_ => R.ldH Tryz.isAgg3 rfl rfl (h5) rfl (TL.nil h_)) ?_
                refine Plan.v 25 [26, 27, 28] (by kernel_rfl) (by kernel_rfl) (by kernel_rfl) (by kernel_rfl) rfl (fun _ _ h_ => R.lss rfl rfl rfl (TL.nil h_)) ?_
                refine Plan.v 26 [27, 28] (by kernel_rfl) (by kernel_rfl) (by kernel_rfl) (by kernel_rfl) rfl (fun _ _ h_ => R.pkFE rfl rfl (by conv => lhs; whnf) (TL.nil h_)) ?_
                refine Plan.v 27 [28] (by kernel_rfl) (by kernel_rfl) (by kernel_rfl) (by kernel_rfl) rfl (fun _ _ h_ => R.pkTE rfl rfl (by conv => lhs; whnf) (TL.nil h_)) ?_
                refine Plan.v 28 [] (by kernel_rfl) (by kernel_rfl) (by kernel_rfl) (by kernel_rfl) rfl (fun _ _ h_ => R.asE rfl (by conv => lhs; whnf) (TL.nil h_)) ?_
                refine Plan.done (Post.thnN ?_)
                -- cut r5, way yyyn
                exact ⟨(), s5, ⟨rfl, rfl⟩, rfl, congrArg Value.bool (by rw [Bool.eq_iff_iff]; unfold goodB; simp only [decide_eq_true_eq, Bool.false_eq_true, false_iff, true_iff]; omega), rfl, rfl, rfl, trivial⟩
            · refine Plan.v 14 [15, 16, 17, 18, 19, 20, 21, 22, 23, 24, 25, 26, 27, 28] (by kernel_rfl) (by kernel_rfl) (by kernel_rfl) (by kernel_rfl) rfl (fun _ _ h_ => TL.off rfl rfl rfl (TL.nil h_)) ?_
              refine Plan.v 15 [16, 17, 18, 19, 20, 21, 22, 23, 24, 25, 26, 27, 28] (by kernel_rfl) (by kernel_rfl) (by kernel_rfl) (by kernel_rfl) rfl (fun _ _ h_ => TL.off rfl rfl rfl (TL.nil h_)) ?_
              refine Plan.v 16 [17, 18, 19, 20, 21, 22, 23, 24, 25, 26, 27, 28] (by kernel_rfl) (by kernel_rfl) (by kernel_rfl) (by kernel_rfl) rfl (fun _ _ h_ => TL.off rfl rfl rfl (TL.nil h_)) ?_
              refine Plan.v 17 [18, 19, 20, 21, 22, 23, 24, 25, 26, 27, 28] (by kernel_rfl) (by kernel_rfl) (by kernel_rfl) (by kernel_rfl) rfl (fun _ _ h_ => TL.offU rfl rfl (TL.nil h_)) ?_
              refine Plan.v 18 [19, 20, 21, 22, 23, 24, 25, 26, 27, 28] (by kernel_rfl) (by kernel_rfl) (by kernel_rfl) (by kernel_rfl) rfl (fun _ _ h_ => TL.offU rfl rfl (TL.nil h_)) ?_
              refine Plan.v 19 [20, 21, 22, 23, 24, 25, 26, 27, 28] (by kernel_rfl) (by kernel_rfl) (by kernel_rfl) (by kernel_rfl) rfl (fun _ _ h_ => TL.offU rfl rfl (TL.nil h_)) ?_
              refine Plan.v 20 [21, 22, 23, 24, 25, 26, 27, 28] (by kernel_rfl) (by kernel_rfl) (by kernel_rfl) (by kernel_rfl) rfl (fun _ _ h_ => TL.offU rfl rfl (TL.nil h_)) ?_
              refine Plan.v 21 [22, 23, 24, 25, 26, 27, 28] (by kernel_rfl) (by kernel_rfl) (by kernel_rfl) (by kernel_rfl) rfl (fun _ _ h_ => TL.offU rfl rfl (TL.nil h_)) ?_
              refine Plan.v 22 [23, 24, 25, 26, 27, 28] (by kernel_rfl) (by kernel_rfl) (by kernel_rfl) (by kernel_rfl) rfl (fun _ _ h_ => TL.offU rfl rfl (TL.nil h_)) ?_
              refine Plan.v 23 [24, 25, 26, 27, 28] (by kernel_rfl) (by kernel_rfl) (by kernel_rfl) (by kernel_rfl) rfl (fun _ _ h_ => TL.offU rfl rfl (TL.nil h_)) ?_
              refine Plan.v 24 [25, 26, 27, 28] (by kernel_rfl) (by kernel_rfl) (by kernel_rfl) (by kernel_rfl) rfl (fun _ _ h_ => TL.offU rfl rfl (TL.nil h_)) ?_
              refine Plan.v 25 [26, 27, 28] (by kernel_rfl) (by kernel_rfl) (by kernel_rfl) (by kernel_rfl) rfl (fun _ _ h_ => TL.offU rfl rfl (TL.nil h_)) ?_
              refine Plan.v 26 [27, 28] (by kernel_rfl) (by kernel_rfl) (by kernel_rfl) (by kernel_rfl) rfl (fun _ _ h_ => TL.off rfl rfl rfl (TL.nil h_)) ?_
              refine Plan.v 27 [28] (by kernel_rfl) (by kernel_rfl) (by kernel_rfl) (by kernel_rfl) rfl (fun _ _ h_ => R.pkFE rfl rfl (by conv => lhs; whnf) (TL.nil h_)) ?_
              refine Plan.v 28 [] (by kernel_rfl) (by kernel_rfl) (by kernel_rfl) (by kernel_rfl) rfl (fun _ _ h_ => R.asE rfl (by conv => lhs; whnf) (TL.nil h_)) ?_
              refine Plan.done (Post.thnN ?_)
              -- cut r5, way yyn
              exact ⟨(), s5, ⟨rfl, rfl⟩, rfl, congrArg Value.bool (by rw [Bool.eq_iff_iff]; unfold goodB; simp only [decide_eq_true_eq, Bool.false_eq_true, false_iff, true_iff]; omega), rfl, rfl, rfl, trivial⟩
          · refine Plan.v 9 [10, 11, 12, 13, 14, 15, 16, 17, 18, 19, 20, 21, 22, 23, 24, 25, 26, 27, 28] (by kernel_rfl) (by kernel_rfl) (by kernel_rfl) (by kernel_rfl) rfl (fun _ _ h_ => TL.off rfl rfl rfl (TL.nil h_)) ?_
            refine Plan.v 10 [11, 12, 13, 14, 15, 16, 17, 18, 19, 20, 21, 22, 23, 24, 25, 26, 27, 28] (by kernel_rfl) (by kernel_rfl) (by kernel_rfl) (by kernel_rfl) rfl (fun _ _ h_ => TL.off rfl rfl rfl (TL.nil h_)) ?_
            refine Plan.v 11 [12, 13, 14, 15, 16, 17, 18, 19, 20, 21, 22, 23, 24, 25, 26, 27, 28] (by kernel_rfl) (by kernel_rfl) (by kernel_rfl) (by kernel_rfl) rfl (fun _ _ h_ => TL.off rfl rfl rfl (TL.nil h_)) ?_
            refine Plan.v 12 [13, 14, 15, 16, 17, 18, 19, 20, 21, 22, 23, 24, 25, 26, 27, 28] (by kernel_rfl) (by kernel_rfl) (by kernel_rfl) (by kernel_rfl) rfl (fun _ _ h_ => R.pkFE rfl rfl (by conv => lhs; whnf) (TL.nil h_)) ?_
            refine Plan.v 13 [14, 15, 16, 17, 18, 19, 20, 21, 22, 23, 24, 25, 26, 27, 28] (by kernel_rfl) (by kernel_rfl) (by kernel_rfl) (by kernel_rfl) rfl (fun _ _ h_ => R.mvE rfl (by conv => lhs; whnf) (TL.nil h_)) ?_
            refine Plan.v 14 [15, 16, 17, 18, 19, 20, 21, 22, 23, 24, 25, 26, 27, 28] (by kernel_rfl) (by kernel_rfl) (by kernel_rfl) (by kernel_rfl) rfl (fun _ _ h_ => TL.off rfl rfl rfl (TL.nil h_)) ?_
            refine Plan.v 15 [16, 17, 18, 19, 20, 21, 22, 23, 24, 25, 26, 27, 28] (by kernel_rfl) (by kernel_rfl) (by kernel_rfl) (by kernel_rfl) rfl (fun _ _ h_ => TL.off rfl rfl rfl (TL.nil h_)) ?_
            refine Plan.v 16 [17, 18, 19, 20, 21, 22, 23, 24, 25, 26, 27, 28] (by kernel_rfl) (by kernel_rfl) (by kernel_rfl) (by kernel_rfl) rfl (fun _ _ h_ => TL.off rfl rfl rfl (TL.nil h_)) ?_
            refine Plan.v 17 [18, 19, 20, 21, 22, 23, 24, 25, 26, 27, 28] (by kernel_rfl) (by kernel_rfl) (by kernel_rfl) (by kernel_rfl) rfl (fun _ _ h_ => TL.offU rfl rfl (TL.nil h_)) ?_
            refine Plan.v 18 [19, 20, 21, 22, 23, 24, 25, 26, 27, 28] (by kernel_rfl) (by kernel_rfl) (by kernel_rfl) (by kernel_rfl) rfl (fun _ _ h_ => TL.offU rfl rfl (TL.nil h_)) ?_
            refine Plan.v 19 [20, 21, 22, 23, 24, 25, 26, 27, 28] (by kernel_rfl) (by kernel_rfl) (by kernel_rfl) (by kernel_rfl) rfl (fun _ _ h_ => TL.offU rfl rfl (TL.nil h_)) ?_
            refine Plan.v 20 [21, 22, 23, 24, 25, 26, 27, 28] (by kernel_rfl) (by kernel_rfl) (by kernel_rfl) (by kernel_rfl) rfl (fun _ _ h_ => TL.offU rfl rfl (TL.nil h_)) ?_
            refine Plan.v 21 [22, 23, 24, 25, 26, 27, 28] (by kernel_rfl) (by kernel_rfl) (by kernel_rfl) (by kernel_rfl) rfl (fun _ _ h_ => TL.offU rfl rfl (TL.nil h_)) ?_
            refine Plan.v 22 [23, 24, 25, 26, 27, 28] (by kernel_rfl) (by kernel_rfl) (by kernel_rfl) (by kernel_rfl) rfl (fun _ _ h_ => TL.offU rfl rfl (TL.nil h_)) ?_
            refine Plan.v 23 [24, 25, 26, 27, 28] (by kernel_rfl) (by kernel_rfl) (by kernel_rfl) (by kernel_rfl) rfl (fun _ _ h_ => TL.offU rfl rfl (TL.nil h_)) ?_
            refine Plan.v 24 [25, 26, 27, 28] (by kernel_rfl) (by kernel_rfl) (by kernel_rfl) (by kernel_rfl) rfl (fun _ _ h_ => TL.offU rfl rfl (TL.nil h_)) ?_
            refine Plan.v 25 [26, 27, 28] (by kernel_rfl) (by kernel_rfl) (by kernel_rfl) (by kernel_rfl) rfl (fun _ _ h_ => TL.offU rfl rfl (TL.nil h_)) ?_
            refine Plan.v 26 [27, 28] (by kernel_rfl) (by kernel_rfl) (by kernel_rfl) (by kernel_rfl) rfl (fun _ _ h_ => TL.off rfl rfl rfl (TL.nil h_)) ?_
            refine Plan.v 27 [28] (by kernel_rfl) (by kernel_rfl) (by kernel_rfl) (by kernel_rfl) rfl (fun _ _ h_ => R.pkFE rfl rfl (by conv => lhs; whnf) (TL.nil h_)) ?_
            refine Plan.v 28 [] (by kernel_rfl) (by kernel_rfl) (by kernel_rfl) (by kernel_rfl) rfl (fun _ _ h_ => R.asE rfl (by conv => lhs; whnf) (TL.nil h_)) ?_
            refine Plan.done (Post.thnN ?_)
            -- cut r5, way yn
            exact ⟨(), s5, ⟨rfl, rfl⟩, rfl, congrArg Value.bool (by rw [Bool.eq_iff_iff]; unfold goodB; simp only [decide_eq_true_eq, Bool.false_eq_true, false_iff, true_iff]; omega), rfl, rfl, rfl, trivial⟩
        · refine Plan.v 4 [5, 6, 7, 8, 9, 10, 11, 12, 13, 14, 15, 16, 17, 18, 19, 20, 21, 22, 23, 24, 25, 26, 27, 28] (by kernel_rfl) (by kernel_rfl) (by kernel_rfl) (by kernel_rfl) rfl (fun _ _ h_ => TL.off rfl rfl rfl (TL.nil h_)) ?_
          refine Plan.v 5 [6, 7, 8, 9, 10, 11, 12, 13, 14, 15, 16, 17, 18, 19, 20, 21, 22, 23, 24, 25, 26, 27, 28] (by kernel_rfl) (by kernel_rfl) (by kernel_rfl) (by kernel_rfl) rfl (fun _ _ h_ => TL.off rfl rfl rfl (TL.nil h_)) ?_
          refine Plan.v 6 [7, 8, 9, 10, 11, 12, 13, 14, 15, 16, 17, 18, 19, 20, 21, 22, 23, 24, 25, 26, 27, 28] (by kernel_rfl) (by kernel_rfl) (by kernel_rfl) (by kernel_rfl) rfl (fun _ _ h_ => TL.off rfl rfl rfl (TL.nil h_)) ?_
          refine Plan.v 7 [8, 9, 10, 11, 12, 13, 14, 15, 16, 17, 18, 19, 20, 21, 22, 23, 24, 25, 26, 27, 28] (by kernel_rfl) (by kernel_rfl) (by kernel_rfl) (by kernel_rfl) rfl (fun _ _ h_ => R.pkFE rfl rfl (by conv => lhs; whnf) (TL.nil h_)) ?_
          refine Plan.v 8 [9, 10, 11, 12, 13, 14, 15, 16, 17, 18, 19, 20, 21, 22, 23, 24, 25, 26, 27, 28] (by kernel_rfl) (by kernel_rfl) (by kernel_rfl) (by kernel_rfl) rfl (fun _ _ h_ => R.mvE rfl (by conv => lhs; whnf) (TL.nil h_)) ?_
          refine Plan.v 9 [10, 11, 12, 13, 14, 15, 16, 17, 18, 19, 20, 21, 22, 23, 24, 25, 26, 27, 28] (by kernel_rfl) (by kernel_rfl) (by kernel_rfl) (by kernel_rfl) rfl (fun _ _ h_ => TL.off rfl rfl rfl (TL.nil h_)) ?_
          refine Plan.v 10 [11, 12, 13, 14, 15, 16, 17, 18, 19, 20, 21, 22, 23, 24, 25, 26, 27, 28] (by kernel_rfl) (by kernel_rfl) (by kernel_rfl) (by kernel_rfl) rfl (fun _ _ h_ => TL.off rfl rfl rfl (TL.nil h_)) ?_
          refine Plan.v 11 [12, 13, 14, 15, 16, 17, 18, 19, 20, 21, 22, 23, 24, 25, 26, 27, 28] (by kernel_rfl) (by kernel_rfl) (by kernel_rfl) (by kernel_rfl) rfl (fun _ _ h_ => TL.off rfl rfl rfl (TL.nil h_)) ?_
          refine Plan.v 12 [13, 14, 15, 16, 17, 18, 19, 20, 21, 22, 23, 24, 25, 26, 27, 28] (by kernel_rfl) (by kernel_rfl) (by kernel_rfl) (by kernel_rfl) rfl (fun _ _ h_ => R.pkFE rfl rfl (by conv => lhs; whnf) (TL.nil h_)) ?_
          refine Plan.v 13 [14, 15, 16, 17, 18, 19, 20, 21, 22, 23, 24, 25, 26, 27, 28] (by kernel_rfl) (by kernel_rfl) (by kernel_rfl) (by kernel_rfl) rfl (fun _ _ h_ => R.mvE rfl (by conv => lhs; whnf) (TL.nil h_)) ?_
          refine Plan.v 14 [15, 16, 17, 18, 19, 20, 21, 22, 23, 24, 25, 26, 27, 28] (by kernel_rfl) (by kernel_rfl) (by kernel_rfl) (by kernel_rfl) rfl (fun _ _ h_ => TL.off rfl rfl rfl (TL.nil h_)) ?_
          refine Plan.v 15 [16, 17, 18, 19, 20, 21, 22, 23, 24, 25, 26, 27, 28] (by kernel_rfl) (by kernel_rfl) (by kernel_rfl) (by kernel_rfl) rfl (fun _ _ h_ => TL.off rfl rfl rfl (TL.nil h_)) ?_
          refine Plan.v 16 [17, 18, 19, 20, 21, 22, 23, 24, 25, 26, 27, 28] (by kernel_rfl) (by kernel_rfl) (by kernel_rfl) (by kernel_rfl) rfl (fun _ _ h_ => TL.off rfl rfl rfl (TL.nil h_)) ?_
          refine Plan.v 17 [18, 19, 20, 21, 22, 23, 24, 25, 26, 27, 28] (by kernel_rfl) (by kernel_rfl) (by kernel_rfl) (by kernel_rfl) rfl (fun _ _ h_ => TL.offU rfl rfl (TL.nil h_)) ?_
          refine Plan.v 18 [19, 20, 21, 22, 23, 24, 25, 26, 27, 28] (by kernel_rfl) (by kernel_rfl) (by kernel_rfl) (by kernel_rfl) rfl (fun _ _ h_ => TL.offU rfl rfl (TL.nil h_)) ?_
          refine Plan.v 19 [20, 21, 22, 23, 24, 25, 26, 27, 28] (by kernel_rfl) (by kernel_rfl) (by kernel_rfl) (by kernel_rfl) rfl (fun _ _ h_ => TL.offU rfl rfl (TL.nil h_)) ?_
          refine Plan.v 20 [21, 22, 23, 24, 25, 26, 27, 28] (by kernel_rfl) (by kernel_rfl) (by kernel_rfl) (by kernel_rfl) rfl (fun _ _ h_ => TL.offU rfl rfl (TL.nil h_)) ?_
          refine Plan.v 21 [22, 23, 24, 25, 26, 27, 28] (by kernel_rfl) (by kernel_rfl) (by kernel_rfl) (by kernel_rfl) rfl (fun _ _ h_ => TL.offU rfl rfl (TL.nil h_)) ?_
          refine Plan.v 22 [23, 24, 25, 26, 27, 28] (by kernel_rfl) (by kernel_rfl) (by kernel_rfl) (by kernel_rfl) rfl (fun _ _ h_ => TL.offU rfl rfl (TL.nil h_)) ?_
          refine Plan.v 23 [24, 25, 26, 27, 28] (by kernel_rfl) (by kernel_rfl) (by kernel_rfl) (by kernel_rfl) rfl (fun _ _ h_ => TL.offU rfl rfl (TL.nil h_)) ?_
          refine Plan.v 24 [25, 26, 27, 28] (by kernel_rfl) (by kernel_rfl) (by kernel_rfl) (by kernel_rfl) rfl (fun _ _ h_ => TL.offU rfl rfl (TL.nil h_)) ?_
          refine Plan.v 25 [26, 27, 28] (by kernel_rfl) (by kernel_rfl) (by kernel_rfl) (by kernel_rfl) rfl (fun _ _ h_ => TL.offU rfl rfl (TL.nil h_)) ?_
          refine Plan.v 26 [27, 28] (by kernel_rfl) (by kernel_rfl) (by kernel_rfl) (by kernel_rfl) rfl (fun _ _ h_ => TL.off rfl rfl rfl (TL.nil h_)) ?_
          refine Plan.v 27 [28] (by kernel_rfl) (by kernel_rfl) (by kernel_rfl) (by kernel_rfl) rfl (fun _ _ h_ => R.pkFE rfl rfl (by conv => lhs; whnf) (TL.nil h_)) ?_
          refine Plan.v 28 [] (by kernel_rfl) (by kernel_rfl) (by kernel_rfl) (by kernel_rfl) rfl (fun _ _ h_ => R.asE rfl (by conv => lhs; whnf) (TL.nil h_)) ?_
          refine Plan.done (Post.thnN ?_)
          -- cut r5, way n
          exact ⟨(), s5, ⟨rfl, rfl⟩, rfl, congrArg Value.bool (by rw [Bool.eq_iff_iff]; unfold goodB; simp only [decide_eq_true_eq, Bool.false_eq_true, false_iff, true_iff]; omega), rfl, rfl, rfl, trivial⟩
      · intro _ σ_r5 H_r5 L_r5 ds_r5 s_r5 hI_r5
        obtain ⟨rfl, rfl⟩ := hI_r5
        refine T.seq ?_
        refine T.region ?_
        refine R.mvE rfl (by conv => lhs; whnf) ?_
        refine R.not rfl rfl ?_
        refine TL.nil (Post.thnN ?_)
        refine T.cond rfl (fun c42 => ?_) (fun c42 => ?_)
        · have hbad : rightD d = false := right_fail hy (by simpa using c42)
          refine T.exit (Post.blkE rfl (Post.thnE (Post.thnE (Post.blkX ?_))))
          refine id (Post.thnN ?_)
          refine T.seq ?_
          refine T.seq ?_
          refine T.region ?_
          refine R.mvE rfl (by conv => lhs; whnf) ?_
          refine R.not rfl rfl ?_
          refine TL.nil (Post.thnN ?_)
          refine T.set 45 (.bool true) (congrArg Value.bool (by simpa using c42)) ?_
          refine T.condY rfl ?_
          refine T.seq ?_
          refine T.region ?_
          refine R.asE rfl (by conv => lhs; whnf) ?_
          refine TL.nil (Post.thnN ?_)
          refine T.ret (Post.thnR (Post.ngR ?_))
          -- way yy
          exact fin1 rfl rfl ⟨rfl, congrArg (Value.int .i64) (by rw [hbad]; rfl)⟩
        · refine T.skip (Post.blkN ?_)
          refine id (Post.thnN ?_)
          refine T.region ?_
          refine R.addI rfl rfl rfl (by omega) ?_
          refine R.mvE rfl (by conv => lhs; whnf) ?_
          refine TL.nil (Post.thnN ?_)
          -- round's end, way yn
          have hgd : goodB d k y = true := by simpa using c42
          exact ⟨k + 1, s_0.trans s_r5, ⟨by omega, rfl, rfl, right_step hg hy hgd⟩, by omega, rfl, congrArg Value.bool hgd, rfl, rfl, rfl, trivial⟩
    · have hall : rightD d = true := by rw [show k = d.length by omega, List.take_length] at hg; exact hg
      refine T.exit (Post.thnE (Post.thnE (Post.blkX ?_)))
      refine id (Post.thnN ?_)
      refine T.seq ?_
      refine T.seq ?_
      refine T.region ?_
      refine R.mvE rfl (by conv => lhs; whnf) ?_
      refine R.not rfl rfl ?_
      refine TL.nil (Post.thnN ?_)
      refine T.condN rfl ?_
      refine T.skip (Post.thnN ?_)
      refine T.seq ?_
      refine T.region ?_
      refine R.asE rfl (by conv => lhs; whnf) ?_
      refine TL.nil (Post.thnN ?_)
      refine T.ret (Post.ngR ?_)
      -- way n
      exact fin1 rfl rfl ⟨rfl, congrArg (Value.int .i64) (by rw [hall]; rfl)⟩


set_option maxHeartbeats 1600000 in
theorem dat1_c (H : Heap) (y : Lk) (n : Int) : Fv Tryz.prog (fnv 135) [.agg #[.int .i64 y.1, .int .i64 y.2], .int .i64 n] H (.int .i64 (cmpI y.1 n)) := by
  refine Fc.of_body (N := 9) Tryz.func135 rfl (by kernel_rfl) rfl rfl ?_
  intro w0
  refine T.seq ?_
  refine T.region ?_
  refine R.box rfl (by conv => lhs; whnf) ?_
  intro b2
  refine R.asE rfl (by conv => lhs; whnf) ?_
  refine TL.nil (Post.thnN ?_)
  refine T.seq ?_
  refine T.shut .hd ?_
  intro H2 s2 q2
  have h2 : H2 b2 = some (.cells #[.int .i64 y.1, .int .i64 y.2] 29) := shut1 q2
  refine T.region ?_
  refine R.fldA Tryz.underlying29 rfl Tryz.sizeOf3 (by decide) rfl rfl ?_
  refine R.ldH Tryz.isAgg3 rfl rfl (h2) rfl ?_
  refine R.mvE rfl (by conv => lhs; whnf) ?_
  refine R.callv rfl rfl rfl (compareI3_c _ _ _) ?_
  refine R.asE rfl (by conv => lhs; whnf) ?_
  refine TL.nil (Post.thnN ?_)
  refine T.ret ?_
  exact fin1 rfl rfl ⟨rfl, rfl⟩


set_option maxHeartbeats 1600000 in
theorem dbs_c (H : Heap) (v : Value) (d : List Lk) (n : Int) (hr : RdS pairE H v d) (hl : d.length ≤ 1048576) (hd : rightD d = true) : Fp Tryz.prog (fnv 134) [v, .int .i64 n, fnv 135] H (fun v' _ => ∃ i : Nat, v' = .tuple #[.int .i64 i, .bool (match d[i]? with | some y => decide (y.1 = n) | none => false)] ∧ BSI d n i) := by
  refine Fc.of_body (N := 49) Tryz.func134 rfl (by kernel_rfl) rfl rfl ?_
  intro w0
  obtain ⟨A, c, rfl, hc1, hc2, hr⟩ := hr.shape
  have hup := up_fst hd
  have hml : (d.map (·.1)).length = d.length := List.length_map _
  refine T.seq ?_
  refine T.region ?_
  refine R.asE rfl (by conv => lhs; whnf) ?_
  refine R.asE rfl (by conv => lhs; whnf) ?_
  refine TL.nil (Post.thnN ?_)
  refine T.seq ?_
  refine T.region ?_
  refine R.mvE rfl (by conv => lhs; whnf) ?_
  refine R.len Tryz.underlying23 rfl rfl ?_
  refine R.asE rfl (by conv => lhs; whnf) ?_
  refine TL.nil (Post.thnN ?_)
  refine T.seq ?_
  refine T.region ?_
  refine R.mvE rfl (by conv => lhs; whnf) ?_
  refine R.asE rfl (by conv => lhs; whnf) ?_
  refine R.asE rfl (by conv => lhs; whnf) ?_
  refine TL.nil (Post.thnN ?_)
  refine T.seq ?_
  refine T.block ?_
  refine T.loop (ι := Nat × Nat) (fun q H' L' ds' => (q.1 ≤ q.2 ∧ q.2 ≤ d.length) ∧ (∀ (j : Nat) y, j < q.1 → (d.map (·.1))[j]? = some y → y < n) ∧ (∀ (j : Nat) y, q.2 ≤ j → (d.map (·.1))[j]? = some y → n ≤ y)) (fun q => [(0, .slice A d.length c), (1, .int .i64 n), (2, fnv 135), (8, .int .i64 d.length), (9, .int .i64 q.1), (10, .int .i64 q.2)]) (fun q => q.2 - q.1) ((0, d.length)) ?_ ?_ ?_
  · exact ⟨⟨Nat.zero_le _, Nat.le_refl _⟩, fun j y h => absurd h (Nat.not_lt_zero _), fun j y h1 h2 => absurd (List.getElem?_eq_some_iff.1 h2).1 (by have : d.length ≤ j := h1; omega)⟩
  · exact ⟨rfl, rfl, rfl, rfl, rfl, rfl, trivial⟩
  · intro q σ0 H_0 L_0 ds_0 s_0 hI_0
    obtain ⟨hq, hlo, hhi⟩ := hI_0
    refine T.seq ?_
    refine T.seq ?_
    refine T.region ?_
    refine R.mvE rfl (by conv => lhs; whnf) ?_
    refine R.mvE rfl (by conv => lhs; whnf) ?_
    refine R.lss rfl rfl rfl ?_
    refine TL.nil (Post.thnN ?_)
    refine T.condD rfl (fun c17 => ?_) (fun c17 => ?_)
    · have hlt : (q.1 + q.2) / 2 < d.length := by omega
      obtain ⟨y, hy⟩ := getk hlt
      have hy1 := get_fst hy
      refine T.skip (Post.thnN ?_)
      refine T.block ?_
      refine T.seq ?_
      refine T.region ?_
      refine R.mvE rfl (by conv => lhs; whnf) ?_
      refine R.mvE rfl (by conv => lhs; whnf) ?_
      refine R.addI rfl rfl rfl (by omega) ?_
      refine R.conv Tryz.underlying3 Tryz.underlying109 rfl rfl ?_
      refine R.shr rfl rfl rfl (by omega) ?_
      refine R.conv Tryz.underlying109 Tryz.underlying3 rfl rfl ?_
      refine TL.set 23 (.int .i64 (((q.1 + q.2) / 2 : Nat) : Int)) (congrArg _ (mid_eq _ _ (by omega))) ?_
      refine R.asE rfl (by conv => lhs; whnf) ?_
      refine TL.nil (Post.thnN ?_)
      refine T.seq ?_
      refine T.region ?_
      refine R.mvE rfl (by conv => lhs; whnf) ?_
      refine R.mvE rfl (by conv => lhs; whnf) ?_
      refine R.mvE rfl (by conv => lhs; whnf) ?_
      obtain ⟨b27, o27, i27, e27⟩ := (hr.mono s_0).elem (hy)
      refine R.ixp Tryz.underlying23 Tryz.sizeOf29 rfl rfl rfl (by omega) i27 ?_
      refine R.ldP Tryz.isAgg29 Tryz.sizeOf29 rfl rfl (e27) ?_
      refine R.mvE rfl (by conv => lhs; whnf) ?_
      refine R.callv rfl rfl rfl (dat1_c _ y n) ?_
      refine R.lss rfl rfl rfl ?_
      refine TL.nil (Post.thnN ?_)
      refine T.condD rfl (fun c31 => ?_) (fun c31 => ?_)
      · have hlt1 : y.1 < n := cmpI_lt0.1 c31
        refine T.region ?_
        refine R.mvE rfl (by conv => lhs; whnf) ?_
        refine R.addI rfl rfl rfl (by omega) ?_
        refine R.asE rfl (by conv => lhs; whnf) ?_
        refine TL.nil (Post.blkN ?_)
        refine id (Post.thnN ?_)
        -- round's end, way yy
        exact ⟨((q.1 + q.2) / 2 + 1, q.2), s_0, ⟨⟨by show (q.1 + q.2) / 2 + 1 ≤ q.2; omega, hq.2⟩, fun j z h1 h2 => bs_lo hup hy1 hlt1 (by have : j < (q.1 + q.2) / 2 + 1 := h1; omega) h2, hhi⟩, by show q.2 - ((q.1 + q.2) / 2 + 1) < q.2 - q.1; omega, ⟨rfl, rfl, rfl, rfl, rfl, rfl, trivial⟩⟩
      · have hlt1 : ¬ y.1 < n := fun h => c31 (cmpI_lt0.2 h)
        refine T.region ?_
        refine R.mvE rfl (by conv => lhs; whnf) ?_
        refine R.asE rfl (by conv => lhs; whnf) ?_
        refine TL.nil (Post.blkN ?_)
        refine id (Post.thnN ?_)
        -- round's end, way yn
        exact ⟨(q.1, (q.1 + q.2) / 2), s_0, ⟨⟨by show q.1 ≤ (q.1 + q.2) / 2; omega, by show (q.1 + q.2) / 2 ≤ d.length; omega⟩, hlo, fun j z h1 h2 => bs_hi hup hy1 hlt1 (by have : (q.1 + q.2) / 2 ≤ j := h1; omega) h2⟩, by show (q.1 + q.2) / 2 - q.1 < q.2 - q.1; omega, ⟨rfl, rfl, rfl, rfl, rfl, rfl, trivial⟩⟩
    · have hqq : q.2 = q.1 := by omega
      rw [hqq] at hhi
      have hB := at_pos hd (show q.1 ≤ d.length by omega) hlo hhi
      refine T.exit (Post.thnE (Post.thnE (Post.blkX ?_)))
      refine id (Post.thnN ?_)
      refine T.seq ?_
      refine T.region ?_
      refine R.mvE rfl (by conv => lhs; whnf) ?_
      refine R.mvE rfl (by conv => lhs; whnf) ?_
      refine R.mvE rfl (by conv => lhs; whnf) ?_
      refine R.lss rfl rfl rfl ?_
      refine R.mvE rfl (by conv => lhs; whnf) ?_
      refine TL.gsplitD 39 rfl (fun g39 => ?_) (fun g39 => ?_)
      · have hlt : q.1 < d.length := by omega
        obtain ⟨y0, hy0⟩ := getk hlt
        refine R.mvE rfl (by conv => lhs; whnf) ?_
        refine R.mvE rfl (by conv => lhs; whnf) ?_
        refine R.mvE rfl (by conv => lhs; whnf) ?_
        obtain ⟨b43, o43, i43, e43⟩ := (hr.mono s_0).elem (hy0)
        refine R.ixp Tryz.underlying23 Tryz.sizeOf29 rfl rfl rfl (by omega) i43 ?_
        refine R.ldP Tryz.isAgg29 Tryz.sizeOf29 rfl rfl (e43) ?_
        refine R.mvE rfl (by conv => lhs; whnf) ?_
        refine R.callv rfl rfl rfl (dat1_c _ y0 n) ?_
        refine R.eql rfl rfl rfl ?_
        refine R.pkTE rfl rfl (by conv => lhs; whnf) ?_
        refine R.asE rfl (by conv => lhs; whnf) ?_
        refine R.asE rfl (by conv => lhs; whnf) ?_
        refine TL.nil (Post.thnN ?_)
        refine T.ret ?_
        -- way ny
        exact fin2 rfl rfl rfl ⟨rfl, q.1, by rw [hy0]; exact congrArg (fun b => Value.tuple #[.int .i64 (q.1 : Int), .bool b]) (decide_eq_decide.2 cmpI_zero0), hB⟩
      · have hno : d[q.1]? = none := List.getElem?_eq_none (by omega)
        refine TL.off rfl rfl rfl ?_
        refine TL.off rfl rfl rfl ?_
        refine TL.off rfl rfl rfl ?_
        refine TL.off rfl rfl rfl ?_
        refine TL.off rfl rfl rfl ?_
        refine TL.off rfl rfl rfl ?_
        refine TL.off rfl rfl rfl ?_
        refine TL.off rfl rfl rfl ?_
        refine R.pkFE rfl rfl (by conv => lhs; whnf) ?_
        refine R.asE rfl (by conv => lhs; whnf) ?_
        refine R.asE rfl (by conv => lhs; whnf) ?_
        refine TL.nil (Post.thnN ?_)
        refine T.ret ?_
        -- way nn
        exact fin2 rfl rfl rfl ⟨rfl, q.1, by rw [hno]; rfl, hB⟩


set_option maxHeartbeats 1600000 in
theorem dat_c (H : Heap) (v : Value) (d : List Lk) (n : Int) (hr : RdS pairE H v d) (hl : d.length ≤ 1048576) (hd : rightD d = true) : Fv Tryz.prog (fnv 67) [v, .int .i64 n] H (.int .i64 (atD d n)) := by
  refine Fc.of_body (N := 20) Tryz.func67 rfl (by kernel_rfl) rfl rfl ?_
  intro w0
  obtain ⟨A, c, rfl, hc1, hc2, hr⟩ := hr.shape
  refine T.seq ?_
  refine T.region ?_
  refine R.asE rfl (by conv => lhs; whnf) ?_
  refine TL.nil (Post.thnN ?_)
  refine T.seq ?_
  refine T.region ?_
  refine R.mvE rfl (by conv => lhs; whnf) ?_
  refine R.mvE rfl (by conv => lhs; whnf) ?_
  refine R.callp rfl rfl rfl (dbs_c _ _ d n hr hl hd) ?_
  intro v10 H10 s10 q10
  obtain ⟨i, rfl, hB⟩ := q10
  have hat := bs_at hd hB
  refine R.mvE rfl (by conv => lhs; whnf) ?_
  refine R.ext rfl rfl rfl ?_
  refine R.ext rfl rfl rfl ?_
  refine R.asE rfl (by conv => lhs; whnf) ?_
  refine R.asE rfl (by conv => lhs; whnf) ?_
  refine TL.nil (Post.thnN ?_)
  refine T.seq ?_
  refine T.seq ?_
  refine T.region ?_
  refine R.mvE rfl (by conv => lhs; whnf) ?_
  refine R.not rfl rfl ?_
  refine TL.nil (Post.thnN ?_)
  refine T.cond rfl (fun c14 => ?_) (fun c14 => ?_)
  · refine T.seq ?_
    refine T.region ?_
    refine R.asE rfl (by conv => lhs; whnf) ?_
    refine TL.nil (Post.thnN ?_)
    refine T.ret (Post.thnR ?_)
    -- way y
    exact fin1 rfl rfl ⟨rfl, congrArg (Value.int .i64) (by
      rw [hat]
      cases e : d[i]? with
      | none => rfl
      | some y =>
        rw [e] at c14
        have : y.1 ≠ n := by simpa using c14
        simp [this])⟩
  · obtain ⟨y, hy⟩ : ∃ y, d[i]? = some y := by
      cases e : d[i]? with
      | some y => exact ⟨y, rfl⟩
      | none => rw [e] at c14; cases c14
    rw [hy] at c14 hat
    have hyn : y.1 = n := by simpa using c14
    refine T.skip (Post.thnN ?_)
    refine T.seq ?_
    refine T.region ?_
    refine R.mvE rfl (by conv => lhs; whnf) ?_
    refine R.mvE rfl (by conv => lhs; whnf) ?_
    obtain ⟨b17, o17, i17, e17⟩ := (hr.mono s10).elem (hy)
    refine R.ixp Tryz.underlying23 Tryz.sizeOf29 rfl rfl rfl (by omega) i17 ?_
    refine R.fldA Tryz.underlying29 rfl Tryz.sizeOf3 (by decide) rfl rfl ?_
    refine R.ldC Tryz.isAgg3 rfl rfl (ElemAt.snd1 e17) ?_
    refine R.asE rfl (by conv => lhs; whnf) ?_
    refine TL.nil (Post.thnN ?_)
    refine T.ret ?_
    -- way n
    exact fin1 rfl rfl ⟨rfl, congrArg (Value.int .i64) (by rw [hat]; simp [hyn])⟩


set_option maxHeartbeats 1600000 in
theorem dAt_c (H : Heap) (v : Value) (d : List Lk) (n : Int) (hr : RdS pairE H v d) (hl : d.length ≤ 1048576) : Fv Tryz.prog (fnv 20) [v, .int .i64 n] H (.int .i64 (if rightD d then atD d n else 0)) := by
  refine Fc.of_body (N := 11) Tryz.func20 rfl (by kernel_rfl) rfl rfl ?_
  intro w0
  obtain ⟨A, c, rfl, hc1, hc2, hr⟩ := hr.shape
  refine T.seq ?_
  refine T.region ?_
  refine R.asE rfl (by conv => lhs; whnf) ?_
  refine TL.nil (Post.thnN ?_)
  refine T.seq ?_
  refine T.seq ?_
  refine T.region ?_
  refine R.mvE rfl (by conv => lhs; whnf) ?_
  refine R.callv rfl rfl rfl (dcheck_c _ _ d hr) ?_
  refine R.neq rfl rfl rfl ?_
  refine TL.nil (Post.thnN ?_)
  refine T.condD rfl (fun c7 => ?_) (fun c7 => ?_)
  · have hd : rightD d = false := by
      cases h : rightD d with
      | false => rfl
      | true => rw [h] at c7; exact absurd rfl c7
    refine T.seq ?_
    refine T.region ?_
    refine R.asE rfl (by conv => lhs; whnf) ?_
    refine TL.nil (Post.thnN ?_)
    refine T.ret (Post.thnR ?_)
    -- way y
    exact fin1 rfl rfl ⟨rfl, congrArg (Value.int .i64) (by rw [hd]; rfl)⟩
  · have hd : rightD d = true := by
      cases h : rightD d with
      | true => rfl
      | false => rw [h] at c7; exact absurd c7 (by decide)
    refine T.skip (Post.thnN ?_)
    refine T.seq ?_
    refine T.region ?_
    refine R.mvE rfl (by conv => lhs; whnf) ?_
    refine R.mvE rfl (by conv => lhs; whnf) ?_
    refine R.callv rfl rfl rfl (dat_c _ _ d n hr hl hd) ?_
    refine R.asE rfl (by conv => lhs; whnf) ?_
    refine TL.nil (Post.thnN ?_)
    refine T.ret ?_
    -- way n
    exact fin1 rfl rfl ⟨rfl, congrArg (Value.int .i64) (by rw [hd]; rfl)⟩


set_option maxHeartbeats 1600000 in
theorem dord1_c (H : Heap) (b2 : Nat) (u : Value) (d : List Lk) (h2 : H b2 = some (.cells #[u] 23)) (hr : RdS pairE H u d) (hl : d.length ≤ 1048576) (hd : rightD d = true) (a b : Int) : Fv Tryz.prog (.func (.func 69) #[] ([.pointer (some ⟨b2, 0, none⟩)] : List Value).toArray) [.int .i64 a, .int .i64 b] H (.int .i64 (cmpO d a b)) := by
  refine Fc.of_body (N := 18) Tryz.func69 rfl (by kernel_rfl) rfl rfl ?_
  intro w0
  refine T.seq ?_
  refine T.region ?_
  refine R.asE rfl (by conv => lhs; whnf) ?_
  refine TL.nil (Post.thnN ?_)
  refine T.seq ?_
  refine T.draw Tryz_mixed (by kernel_rfl) ?_
  refine Plan.v 0 [1, 2, 3, 4, 5, 6, 7, 8, 9, 10, 11, 12] (by kernel_rfl) (by kernel_rfl) (by kernel_rfl) (by kernel_rfl) rfl (fun _ _ h_ => R.ldH Tryz.isAgg23 rfl rfl (h2) rfl (TL.nil h_)) ?_
  refine Plan.v 1 [2, 3, 4, 5, 6, 7, 8, 9, 10, 11, 12] (by kernel_rfl) (by kernel_rfl) (by kernel_rfl) (by kernel_rfl) rfl (fun _ _ h_ => R.mvE rfl (by conv => lhs; whnf) (TL.nil h_)) ?_
  refine Plan.v 2 [3, 4, 5, 6, 7, 8, 9, 10, 11, 12] (by kernel_rfl) (by kernel_rfl) (by kernel_rfl) (by kernel_rfl) rfl (fun _ _ h_ => R.callv rfl rfl rfl (dat_c _ _ d a hr hl hd) (TL.nil h_)) ?_
  refine Plan.v 3 [4, 5, 6, 7, 8, 9, 10, 11, 12] (by kernel_rfl) (by kernel_rfl) (by kernel_rfl) (by kernel_rfl) rfl (fun _ _ h_ => R.ldH Tryz.isAgg23 rfl rfl (h2) rfl (TL.nil h_)) ?_
  refine Plan.v 4 [5, 6, 7, 8, 9, 10, 11, 12] (by kernel_rfl) (by kernel_rfl) (by kernel_rfl) (by kernel_rfl) rfl (fun _ _ h_ => R.mvE rfl (by conv => lhs; whnf) (TL.nil h_)) ?_
  refine Plan.v 5 [6, 7, 8, 9, 10, 11, 12] (by kernel_rfl) (by kernel_rfl) (by kernel_rfl) (by kernel_rfl) rfl (fun _ _ h_ => R.callv rfl rfl rfl (dat_c _ _ d b hr hl hd) (TL.nil h_)) ?_
  refine Plan.v 6 [7, 8, 9, 10, 11, 12] (by kernel_rfl) (by kernel_rfl) (by kernel_rfl) (by kernel_rfl) rfl (fun _ _ h_ => R.callv rfl rfl rfl (compareI3_c _ _ _) (TL.nil h_)) ?_
  refine Plan.v 7 [8, 9, 10, 11, 12] (by kernel_rfl) (by kernel_rfl) (by kernel_rfl) (by kernel_rfl) rfl (fun _ _ h_ => R.mvE rfl (by conv => lhs; whnf) (TL.nil h_)) ?_
  refine Plan.v 8 [9, 10, 11, 12] (by kernel_rfl) (by kernel_rfl) (by kernel_rfl) (by kernel_rfl) rfl (fun _ _ h_ => R.mvE rfl (by conv => lhs; whnf) (TL.nil h_)) ?_
  refine Plan.v 9 [10, 11, 12] (by kernel_rfl) (by kernel_rfl) (by kernel_rfl) (by kernel_rfl) rfl (fun _ _ h_ => R.callv rfl rfl rfl (compareI3_c _ _ _) (TL.nil h_)) ?_
  refine Plan.s1 10 [11, 12] (by kernel_rfl) (by kernel_rfl) rfl ?_
  refine R.bsN [_, _] rfl Tryz.underlying24 Tryz.sizeOf3 Tryz.zeroValue3 rfl rfl rfl rfl rfl rfl ?_
  intro b16
  refine TL.shut .hd ?_
  intro H16 s16 q16
  refine TL.nil (Plan.e1 (s16) ?_)
  refine Plan.v 11 [12] (by kernel_rfl) (by kernel_rfl) (by kernel_rfl) (by kernel_rfl) rfl (fun _ _ h_ => R.callv rfl rfl rfl (or_c _ _ _ (RdS.lit2 q16)) (TL.nil h_)) ?_
  refine Plan.v 12 [] (by kernel_rfl) (by kernel_rfl) (by kernel_rfl) (by kernel_rfl) rfl (fun _ _ h_ => R.asE rfl (by conv => lhs; whnf) (TL.nil h_)) ?_
  refine Plan.done (Post.thnN ?_)
  refine T.ret ?_
  exact fin1 rfl rfl ⟨rfl, congrArg (Value.int .i64) (cmpP_or (atD d a, a) (atD d b, b))⟩


theorem dsort_c (H : Heap) (b2 : Nat) (u : Value) (d : List Lk) (h2 : H b2 = some (.cells #[u] 23)) (hr : RdS pairE H u d) (hl : d.length ≤ 1048576) (hd : rightD d = true) (v : Value) (xs : List Int) (ch : Chunk) (ho : OwnS (intE .i64) 3 H v xs ch) (hx : xs.length ≤ 1099511627776) :
    Fc Tryz.prog (fnv 68) [v, (.func (.func 69) #[] ([.pointer (some ⟨b2, 0, none⟩)] : List Value).toArray)] H [ch] (fun _ H' L' => H' = H ∧ ∃ c', L' = [c'] ∧ OwnS (intE .i64) 3 H v (refO d xs) c') := by
  rw [← sortO_eq]
  exact sortF1_fc Tryz.func68 rfl (by kernel_rfl) (fun blk off size w h1 h3 => cmp_lays1 Tryz.func69 rfl (by kernel_rfl) (fun a b => dord1_c H b2 u d h2 hr hl hd a b) blk off size w h1 h3)
    (fun blk off cap da w hlay hH hblk hsz => Any.slices_SortFunc_total Tryz.sortF1 (Value.int .i64) (fun _ => rfl) (cmpO d) (swo_cmpO d) 69 _ blk off cap da w (enters_of Tryz.func69 (by kernel_rfl) rfl) hlay hH hblk hsz (tot_cmpO d))
    (fun p cap fv w => AnyF.slices_SortFunc_none { Tryz.sortF1 with } p cap fv w) ho hx

set_option maxHeartbeats 1600000 in
theorem dOrder_c (H : Heap) (v u : Value) (d : List Lk) (xs : List Int) (hr : RdS pairE H v d) (hl : d.length ≤ 1048576) (hr2 : RdS (intE .i64) H u xs) (hx : xs.length ≤ 1048576) : Fc Tryz.prog (fnv 22) [v, u] H [] (fun v' H' L' => ∃ c, L' = [c] ∧ OwnS (intE .i64) 3 H' v' (refO (okD d) xs) c) := by
  refine Fc.of_body (N := 19) Tryz.func22 rfl (by kernel_rfl) rfl rfl ?_
  intro w0
  obtain ⟨A, c, rfl, hc1, hc2, hr⟩ := hr.shape
  obtain ⟨A2, c2, rfl, hc3, hc4, hr2⟩ := hr2.shape
  refine T.seq ?_
  refine T.region ?_
  refine R.box rfl (by conv => lhs; whnf) ?_
  intro b2
  refine R.asE rfl (by conv => lhs; whnf) ?_
  refine TL.nil (Post.thnN ?_)
  refine T.seq ?_
  refine T.region ?_
  refine R.mvE rfl (by conv => lhs; whnf) ?_
  refine R.len Tryz.underlying24 rfl rfl ?_
  refine R.mks (z0 := 0) (zc := [.int .i64 0]) Tryz_ty24 (zcells_of (z := .int .i64 0) (by kernel_rfl)) (fun _ => rfl) rfl rfl rfl (by omega) (by omega) ?_
  intro v8 c8 w8
  refine R.asE rfl (by conv => lhs; whnf) ?_
  refine TL.nil (Post.thnN ?_)
  refine T.seq ?_
  refine T.region ?_
  refine R.mvE rfl (by conv => lhs; whnf) ?_
  refine R.mvE rfl (by conv => lhs; whnf) ?_
  obtain ⟨cs11, y11, r11⟩ := Src.rdA hr2
  refine R.copy (dd := some 11) Tryz_ty24 rfl (fun q h => by cases h; rfl) rfl rfl w8 .hd (r11 _) y11 (by simp) ?_
  intro c11 w11
  refine TL.nil (Post.thnN ?_)
  refine T.cut (ι := Value) (fun w H' L' ds' => L' = [c11, [(b2, .cells #[w] 23)]] ∧ ds' = [] ∧ RdS pairE H' w (okD d)) (fun w => [(2, .pointer (some ⟨b2, 0, none⟩)), (5, v8)]) ?_ ?_
  · refine T.seq ?_
    refine T.region ?_
    refine R.ld Tryz.isAgg23 rfl rfl (by repeat (first | exact .hd | refine .tl ?_)) rfl ?_
    refine R.callv rfl rfl rfl (dcheck_c _ _ d hr) ?_
    refine R.neq rfl rfl rfl ?_
    refine TL.nil (Post.thnN ?_)
    refine T.condD rfl (fun c14 => ?_) (fun c14 => ?_)
    · have hd : rightD d = false := by
        cases h : rightD d with
        | false => rfl
        | true => rw [h] at c14; exact absurd rfl c14
      refine T.region ?_
      refine R.st Tryz.sizeOf23 rfl rfl (by conv => lhs; whnf) rfl (by first | exact .hd | exact .tl .hd | exact .tl (.tl .hd) | exact .tl (.tl (.tl .hd)) | exact .tl (.tl (.tl (.tl .hd))) | exact .tl (.tl (.tl (.tl (.tl .hd)))) | exact .tl (.tl (.tl (.tl (.tl (.tl .hd))))) | exact .tl (.tl (.tl (.tl (.tl (.tl (.tl .hd)))))) | exact .tl (.tl (.tl (.tl (.tl (.tl (.tl (.tl .hd))))))) | exact .tl (.tl (.tl (.tl (.tl (.tl (.tl (.tl (.tl .hd))))))))) ?_
      refine TL.nil (Post.thnN ?_)
      -- cut c14, way y
      exact ⟨.slice none 0 0, HLe.refl _, ⟨rfl, rfl, by unfold okD; rw [hd]; exact RdS.nil⟩, rfl, rfl, trivial⟩
    · have hd : rightD d = true := by
        cases h : rightD d with
        | true => rfl
        | false => rw [h] at c14; exact absurd c14 (by decide)
      refine T.skip (Post.thnN ?_)
      -- cut c14, way n
      exact ⟨.slice A d.length c, HLe.refl _, ⟨rfl, rfl, by unfold okD; rw [hd]; exact hr⟩, rfl, rfl, trivial⟩
  · intro w σ_c14 H_c14 L_c14 ds_c14 s_c14 hI_c14
    obtain ⟨rfl, rfl, hw⟩ := hI_c14
    have hokl : (okD d).length ≤ 1048576 := by unfold okD; split <;> first | omega | simp
    refine T.seq ?_
    refine T.shut (.tl .hd) ?_
    intro H2 s2 q2
    have h2 : H2 b2 = some (.cells #[w] 23) := shut1 q2
    refine T.region ?_
    refine R.mvE rfl (by conv => lhs; whnf) ?_
    refine R.mkf (cs := [_]) rfl rfl ?_
    refine TL.call [true] rfl rfl rfl (dsort_c _ b2 w (okD d) h2 (hw.mono s2) hokl (okD_right d) _ xs c11 (w11.mono (s_c14.trans s2)) (by omega)) ?_
    intro v17 H17 L17 s17 q17
    obtain ⟨rfl, c17, rfl, w17⟩ := q17
    refine TL.nil (Post.thnN ?_)
    refine T.seq ?_
    refine T.region ?_
    refine R.mvE rfl (by conv => lhs; whnf) ?_
    refine R.asE rfl (by conv => lhs; whnf) ?_
    refine TL.nil (Post.thnN ?_)
    refine T.ret ?_
    exact fin1L [c17] rfl rfl (List.Sublist.refl _) ⟨_, rfl, w17⟩

end Go.SX

set_option linter.unusedVariables false
set_option linter.unusedSimpArgs false
namespace Go.SX
open Go Go.Proofs

theorem Tryzc_eqD (a b : Int × Int) (w : World) : (Op.equalIn 10000 29 (.agg #[.int .i64 a.1, .int .i64 a.2]) (.agg #[.int .i64 b.1, .int .i64 b.2])).run Tryz.prog w = .ok (decide (a = b)) w :=
  run_eq_pair Tryz.underlying29 (by kernel_rfl) (by decide) (by decide) rfl rfl rfl rfl Tryz.underlying3 Tryz.isAgg3 a b w
theorem Tryzc_eqE : Tryz.prog.eqGuardType Tryz.prog.depth 29 = false := by kernel_rfl

set_option maxHeartbeats 1600000 in
theorem equalD_c (H : Heap) (v u : Value) (xs ys : List Lk) (hr : RdS pairE H v xs) (hr2 : RdS pairE H u ys) : Fv Tryz.prog (fnv 16) [v, u] H (.bool (decide (xs = ys))) := by
  refine Fc.of_body (N := 26) Tryz.func16 rfl (by kernel_rfl) rfl rfl ?_
  intro w0
  obtain ⟨A, c, rfl, hc1, hc2, hr⟩ := hr.shape
  obtain ⟨A2, c2, rfl, hc3, hc4, hr2⟩ := hr2.shape
  refine T.seq ?_
  refine T.region ?_
  refine R.asE rfl (by conv => lhs; whnf) ?_
  refine TL.nil (Post.thnN ?_)
  refine T.seq ?_
  refine T.seq ?_
  refine T.region ?_
  refine R.mvE rfl (by conv => lhs; whnf) ?_
  refine R.len Tryz.underlying23 rfl rfl ?_
  refine R.mvE rfl (by conv => lhs; whnf) ?_
  refine R.len Tryz.underlying23 rfl rfl ?_
  refine R.neq rfl rfl rfl ?_
  refine TL.nil (Post.thnN ?_)
  refine T.condD rfl (fun c10 => ?_) (fun c10 => ?_)
  · refine T.seq ?_
    refine T.region ?_
    refine R.asE rfl (by conv => lhs; whnf) ?_
    refine TL.nil (Post.thnN ?_)
    refine T.ret (Post.thnR ?_)
    -- way y
    exact fin1 rfl rfl ⟨rfl, congrArg Value.bool (decide_eq_false (fun e => c10 (by rw [e]))).symm⟩
  · refine T.skip (Post.thnN ?_)
    refine T.seq ?_
    refine T.seq ?_
    refine T.region ?_
    refine R.mvE rfl (by conv => lhs; whnf) ?_
    refine R.len Tryz.underlying23 rfl rfl ?_
    refine R.mvE rfl (by conv => lhs; whnf) ?_
    refine TL.nil (Post.thnN ?_)
    refine T.block ?_
    refine T.loop (ι := Nat) (fun k H' L' ds' => k ≤ xs.length ∧ xs.take k = ys.take k) (fun k => [(0, .slice A xs.length c), (1, .slice A2 ys.length c2), (12, .int .i64 xs.length), (13, .int .i64 k)]) (fun k => xs.length - k) (0) ?_ ?_ ?_
    · exact ⟨Nat.zero_le _, rfl⟩
    · exact ⟨rfl, rfl, rfl, rfl, trivial⟩
    · intro k σ0 H_0 L_0 ds_0 s_0 hI_0
      obtain ⟨hk, hw⟩ := hI_0
      refine T.seq ?_
      refine T.region ?_
      refine R.lss rfl rfl rfl ?_
      refine TL.nil (Post.thnN ?_)
      refine T.seq ?_
      refine T.condD rfl (fun c14 => ?_) (fun c14 => ?_)
      · have hlt : k < xs.length := by omega
        obtain ⟨a, hx⟩ := getk hlt
        obtain ⟨b, hy⟩ := getk (xs := ys) (k := k) (by omega)
        refine T.skip (Post.thnN ?_)
        refine T.seq ?_
        refine T.block ?_
        refine T.seq ?_
        refine T.region ?_
        refine R.mvE rfl (by conv => lhs; whnf) ?_
        refine R.asE rfl (by conv => lhs; whnf) ?_
        refine TL.nil (Post.thnN ?_)
        refine T.seq ?_
        refine T.draw Tryz_mixed (by kernel_rfl) ?_
        refine Plan.v 0 [1, 2, 3, 4, 5, 6, 7, 8] (by kernel_rfl) (by kernel_rfl) (by kernel_rfl) (by kernel_rfl) rfl (fun _ _ h_ => R.mvE rfl (by conv => lhs; whnf) (TL.nil h_)) ?_
        refine Plan.v 1 [2, 3, 4, 5, 6, 7, 8] (by kernel_rfl) (by kernel_rfl) (by kernel_rfl) (by kernel_rfl) rfl (fun _ _ h_ => R.mvE rfl (by conv => lhs; whnf) (TL.nil h_)) ?_
        obtain ⟨b18, o18, i18, e18⟩ := (hr.mono s_0).elem (hx)
        refine Plan.v 2 [3, 4, 5, 6, 7, 8] (by kernel_rfl) (by kernel_rfl) (by kernel_rfl) (by kernel_rfl) rfl (fun _ _ h_ => R.ixp Tryz.underlying23 Tryz.sizeOf29 rfl rfl rfl (by omega) i18 (TL.nil h_)) ?_
        refine Plan.v 3 [4, 5, 6, 7, 8] (by kernel_rfl) (by kernel_rfl) (by kernel_rfl) (by kernel_rfl) rfl (fun _ _ h_ => R.ldP Tryz.isAgg29 Tryz.sizeOf29 rfl rfl (e18) (TL.nil h_)) ?_
        refine Plan.v 4 [5, 6, 7, 8] (by kernel_rfl) (by kernel_rfl) (by kernel_rfl) (by kernel_rfl) rfl (fun _ _ h_ => R.mvE rfl (by conv => lhs; whnf) (TL.nil h_)) ?_
        refine Plan.v 5 [6, 7, 8] (by kernel_rfl) (by kernel_rfl) (by kernel_rfl) (by kernel_rfl) rfl (fun _ _ h_ => R.mvE rfl (by conv => lhs; whnf) (TL.nil h_)) ?_
        obtain ⟨b22, o22, i22, e22⟩ := (hr2.mono s_0).elem (hy)
        refine Plan.v 6 [7, 8] (by kernel_rfl) (by kernel_rfl) (by kernel_rfl) (by kernel_rfl) rfl (fun _ _ h_ => R.ixp Tryz.underlying23 Tryz.sizeOf29 rfl rfl rfl (by omega) i22 (TL.nil h_)) ?_
        refine Plan.v 7 [8] (by kernel_rfl) (by kernel_rfl) (by kernel_rfl) (by kernel_rfl) rfl (fun _ _ h_ => R.ldP Tryz.isAgg29 Tryz.sizeOf29 rfl rfl (e22) (TL.nil h_)) ?_
        refine Plan.v 8 [] (by kernel_rfl) (by kernel_rfl) (by kernel_rfl) (by kernel_rfl) rfl (fun _ _ h_ => R.neP (a := a) (b := b) Tryzc_eqD Tryzc_eqE rfl rfl rfl (TL.nil h_)) ?_
        refine Plan.done (Post.thnN ?_)
        refine T.condD rfl (fun c24 => ?_) (fun c24 => ?_)
        · refine T.seq ?_
          refine T.region ?_
          refine R.asE rfl (by conv => lhs; whnf) ?_
          refine TL.nil (Post.thnN ?_)
          refine T.ret (Post.blkR (Post.thnR (Post.thnR (Post.blkR (Post.thnR ?_)))))
          -- way nyy
          exact fin1 rfl rfl ⟨rfl, congrArg Value.bool (decide_eq_false (ne_of_get hx hy c24)).symm⟩
        · refine T.skip (Post.blkN ?_)
          refine id (Post.thnN ?_)
          refine T.region ?_
          refine R.addI rfl rfl rfl (by omega) ?_
          refine R.mvE rfl (by conv => lhs; whnf) ?_
          refine TL.nil (Post.thnN ?_)
          -- round's end, way nyn
          exact ⟨k + 1, s_0, ⟨by omega, take_eq_of hw hx (by rw [hy]; exact congrArg some (Decidable.of_not_not c24).symm)⟩, by omega, ⟨rfl, rfl, rfl, rfl, trivial⟩⟩
      · refine T.exit (Post.thnE (Post.thnE (Post.blkX ?_)))
        refine id (Post.thnN ?_)
        refine T.seq ?_
        refine T.region ?_
        refine R.asE rfl (by conv => lhs; whnf) ?_
        refine TL.nil (Post.thnN ?_)
        refine T.ret ?_
        -- way nn
        obtain rfl : k = xs.length := by omega
        have e1 : xs = ys := by
          rw [List.take_length, show xs.length = ys.length by omega, List.take_length] at hw; exact hw
        exact fin1 rfl rfl ⟨rfl, congrArg Value.bool (decide_eq_true e1).symm⟩


end Go.SX

set_option linter.unusedVariables false
set_option linter.unusedSimpArgs false
namespace Go.SX
open Go Go.Proofs

end Go.SX

set_option linter.unusedVariables false
set_option linter.unusedSimpArgs false
namespace Go.SX
open Go Go.Proofs

set_option maxHeartbeats 1600000 in
theorem deleteFP_c (H : Heap) (v fv : Value) (xs : List Lk) (ch : Chunk) (p : Lk → Bool) (ho : OwnS pairE 45 H v xs ch) (hp : ∀ H', HLe H H' → ∀ y : Lk, Fv Tryz.prog fv [.agg #[.int .i64 y.1, .int .i64 y.2]] H' (.bool (p y))) : Fc Tryz.prog (fnv 37) [v, fv] H [ch] (fun v' H' L' => ∃ c', L' = [c'] ∧ OwnS pairE 45 H' v' (xs.filter (fun y => !p y)) c') := by
  refine Fc.of_body (N := 42) Tryz.func37 rfl (by kernel_rfl) rfl rfl ?_
  intro w0
  obtain ⟨A, cap, rfl, hc1, hc2⟩ := ho.shape
  refine T.seq ?_
  refine T.region ?_
  refine R.asE rfl (by conv => lhs; whnf) ?_
  refine TL.nil (Post.thnN ?_)
  refine T.seq ?_
  refine T.region ?_
  refine R.mvE rfl (by conv => lhs; whnf) ?_
  refine R.mvE rfl (by conv => lhs; whnf) ?_
  refine TL.call [true] rfl rfl rfl (Fv.borrow (fun H2 hl hc => indexFP_c H2 _ fv xs p (ho.read hl hc) (fun H3 h3 y => hp H3 (hl.trans h3) y))) ?_
  intro v10 H10 L10 s10 q10
  obtain ⟨rfl, rfl⟩ := q10
  refine R.asE rfl (by conv => lhs; whnf) ?_
  refine TL.nil (Post.thnN ?_)
  refine T.seq ?_
  refine T.seq ?_
  refine T.region ?_
  refine R.mvE rfl (by conv => lhs; whnf) ?_
  refine R.eql rfl rfl rfl ?_
  refine TL.nil (Post.thnN ?_)
  refine T.condD rfl (fun c12 => ?_) (fun c12 => ?_)
  · refine T.seq ?_
    refine T.region ?_
    refine R.mvE rfl (by conv => lhs; whnf) ?_
    refine R.asE rfl (by conv => lhs; whnf) ?_
    refine TL.nil (Post.thnN ?_)
    refine T.ret (Post.thnR ?_)
    -- way y
    exact fin1L [ch] rfl rfl (List.Sublist.refl _) ⟨_, rfl, by rw [fidx_no c12]; exact ho.mono s10⟩
  · obtain ⟨i0, z0, hi0, hz0, hp0, hlow⟩ := fidx_some c12
    have hil0 := (List.getElem?_eq_some_iff.1 hz0).1
    refine T.skip (Post.thnN ?_)
    refine T.seq ?_
    refine T.seq ?_
    refine T.region ?_
    refine R.mvE rfl (by conv => lhs; whnf) ?_
    refine R.addI rfl rfl rfl (by omega) ?_
    refine R.asE rfl (by conv => lhs; whnf) ?_
    refine TL.nil (Post.thnN ?_)
    refine T.block ?_
    refine T.loop (ι := Nat × Nat × List Lk × Chunk) (fun ⟨i, j, cur, c2⟩ H' L' ds' => (i + 1 ≤ j ∧ j ≤ xs.length ∧ cur.length = xs.length) ∧ L' = [c2] ∧ ds' = [] ∧ OwnS pairE 45 H' (.slice A cur.length cap) cur c2 ∧ cur.take i = (xs.take j).filter (fun y => !p y) ∧ (∀ q, j ≤ q → cur[q]? = xs[q]?)) (fun ⟨i, j, cur, c2⟩ => [(0, .slice A xs.length cap), (1, fv), (5, .int .i64 i), (6, .int .i64 j)]) (fun ⟨i, j, cur, c2⟩ => xs.length - j) ((i0, i0 + 1, xs, ch)) ?_ ?_ ?_
    · exact ⟨⟨Nat.le_refl _, by show i0 + 1 ≤ _; omega, rfl⟩, rfl, rfl, ho.mono s10, by show xs.take i0 = (xs.take (i0 + 1)).filter _; rw [filt_snoc hz0, hp0]; exact (filtD_pre (fun j y h1 h2 => by rw [hlow j y h1 h2]; rfl)).symm, fun q _ => rfl⟩
    · exact ⟨rfl, rfl, congrArg (Value.int .i64) hi0, congrArg (Value.int .i64) (by omega), trivial⟩
    · intro ⟨i, j, cur, c2⟩ σ0 H_0 L_0 ds_0 s_0 hI_0
      obtain ⟨⟨hij, hj, hcl⟩, rfl, rfl, hw, htk, hrest⟩ := hI_0
      refine T.seq ?_
      refine T.seq ?_
      refine T.region ?_
      refine R.mvE rfl (by conv => lhs; whnf) ?_
      refine R.mvE rfl (by conv => lhs; whnf) ?_
      refine R.len Tryz.underlying22 rfl rfl ?_
      refine R.lss rfl rfl rfl ?_
      refine TL.nil (Post.thnN ?_)
      refine T.condD rfl (fun c19 => ?_) (fun c19 => ?_)
      · have hlt : j < xs.length := by omega
        obtain ⟨y, hy⟩ := getk hlt
        have hcy : cur[j]? = some y := by rw [hrest _ (Nat.le_refl _)]; exact hy
        obtain ⟨yi, hci⟩ := getk (xs := cur) (k := i) (by omega)
        obtain ⟨b3, k3, cs3, l3, hce3, hve3, ix3, hR3, hcs3⟩ := hw.elem hcy
        obtain rfl : l3 = [.int .i64 y.1, .int .i64 y.2] := hR3
        obtain ⟨b5, k5, cs5, l5, hce5, hve5, ix5, hR5, hcs5⟩ := hw.elem hci
        subst hce3
        obtain ⟨rfl, rfl⟩ : b3 = b5 ∧ cs3 = cs5 := by simpa using hce5
        rw [hcl] at ix3 ix5
        refine T.skip (Post.thnN ?_)
        refine T.seq ?_
        refine T.block ?_
        refine T.seq ?_
        refine T.region ?_
        refine R.mvE rfl (by conv => lhs; whnf) ?_
        refine R.mvE rfl (by conv => lhs; whnf) ?_
        refine R.ixp Tryz.underlying22 Tryz.sizeOf45 rfl rfl rfl (by omega) ix3 ?_
        refine R.ldAt Tryz.isAgg45 Tryz.sizeOf45 rfl rfl .hd rfl hcs3 ?_
        refine R.alloc Tryz.zeroValue45 rfl ?_
        intro b7
        refine R.stA (old := [.int .i64 0, .int .i64 0]) Tryz.sizeOf45 rfl rfl rfl rfl rfl (by intro v hv; simp at hv; rcases hv with rfl | rfl <;> rfl) .hd ?_
        refine TL.nil (Post.thnN ?_)
        refine T.seq ?_
        refine T.shut .hd ?_
        intro H7 s7 q7
        have h7 : H7 b7 = some (.cells #[.int .i64 y.1, .int .i64 y.2] 45) := shut1 q7
        refine T.region ?_
        refine R.mvE rfl (by conv => lhs; whnf) ?_
        refine R.ldAH Tryz.isAgg45 Tryz.sizeOf45 rfl rfl rfl h7 ?_
        refine R.callv rfl rfl rfl (hp _ (s10.trans (s_0.trans s7)) y) ?_
        refine R.not rfl rfl ?_
        refine TL.nil (Post.thnN ?_)
        refine T.cond rfl (fun c29 => ?_) (fun c29 => ?_)
        · refine T.seq ?_
          refine T.region ?_
          refine R.mvE rfl (by conv => lhs; whnf) ?_
          refine R.mvE rfl (by conv => lhs; whnf) ?_
          refine R.ldAH Tryz.isAgg45 Tryz.sizeOf45 rfl rfl rfl h7 ?_
          refine R.ixp Tryz.underlying22 Tryz.sizeOf45 rfl rfl rfl (by omega) ix5 ?_
          refine R.stEA (y := y) (l := [.int .i64 y.1, .int .i64 y.2]) Tryz.sizeOf45 rfl (hw.mono s7) .hd (by rw [hcl]; exact ix5) rfl rfl rfl ?_
          intro c33 w33
          refine TL.nil (Post.thnN ?_)
          refine T.region ?_
          refine R.mvE rfl (by conv => lhs; whnf) ?_
          refine R.addI rfl rfl rfl (by omega) ?_
          refine R.asE rfl (by conv => lhs; whnf) ?_
          refine TL.nil (Post.blkN ?_)
          refine id (Post.thnN ?_)
          refine T.region ?_
          refine R.mvE rfl (by conv => lhs; whnf) ?_
          refine R.addI rfl rfl rfl (by omega) ?_
          refine R.asE rfl (by conv => lhs; whnf) ?_
          refine TL.nil (Post.thnN ?_)
          -- round's end, way nyy
          exact ⟨(i + 1, j + 1, cur.set i y, c33), s_0.trans s7, ⟨⟨by show i + 1 + 1 ≤ j + 1; omega, by show j + 1 ≤ _; omega, by rw [List.length_set]; exact hcl⟩, rfl, rfl, by rw [List.length_set]; exact w33, by rw [set_take (by omega), htk, filt_snoc hy, if_pos c29], fun q hq => by rw [List.getElem?_set_ne (by omega)]; exact hrest q (by omega)⟩, by show xs.length - (j + 1) < xs.length - j; omega, ⟨rfl, rfl, rfl, rfl, trivial⟩⟩
        · refine T.skip (Post.blkN ?_)
          refine id (Post.thnN ?_)
          refine T.region ?_
          refine R.mvE rfl (by conv => lhs; whnf) ?_
          refine R.addI rfl rfl rfl (by omega) ?_
          refine R.asE rfl (by conv => lhs; whnf) ?_
          refine TL.nil (Post.thnN ?_)
          -- round's end, way nyn
          exact ⟨(i, j + 1, cur, [(b3, .cells cs3 45)]), s_0.trans s7, ⟨⟨by show i + 1 ≤ j + 1; omega, by show j + 1 ≤ _; omega, hcl⟩, rfl, rfl, hw.mono s7, by rw [htk, filt_snoc hy, if_neg (by rw [c29]; simp)], fun q hq => hrest q (by omega)⟩, by show xs.length - (j + 1) < xs.length - j; omega, ⟨rfl, rfl, rfl, rfl, trivial⟩⟩
      · have hje : j = xs.length := by omega
        rw [hje, List.take_length] at htk
        have hil : (cur.take i).length = i := by simp; omega
        refine T.exit (Post.thnE (Post.thnE (Post.blkX ?_)))
        refine id (Post.thnN ?_)
        refine T.seq ?_
        refine T.region ?_
        refine R.mvE rfl (by conv => lhs; whnf) ?_
        refine R.mvE rfl (by conv => lhs; whnf) ?_
        refine R.sL Tryz.underlying22 Tryz.sizeOf45 rfl rfl rfl (by omega) (by omega) ?_
        refine R.clr (dd := none) (xs := cur.take i) Tryz_ty22 (zone_of (z := .agg #[.int .i64 0, .int .i64 0]) (by kernel_rfl) (by intro v hv; simp [Value.cells] at hv; rcases hv with rfl | rfl <;> rfl)) rfl (fun q h => by cases h) (m := xs.length) (by rw [hil]; rfl) (by rw [hil]; exact own_take0 hw (by omega)) .hd (by omega) (by omega) ?_
        intro c38 w38
        refine TL.nil (Post.thnN ?_)
        refine T.seq ?_
        refine T.region ?_
        refine R.mvE rfl (by conv => lhs; whnf) ?_
        refine R.mvE rfl (by conv => lhs; whnf) ?_
        refine R.sH Tryz.underlying22 Tryz.sizeOf45 rfl rfl rfl (by omega) (by omega) ?_
        refine R.asE rfl (by conv => lhs; whnf) ?_
        refine TL.nil (Post.thnN ?_)
        refine T.ret ?_
        -- way nn
        refine fin1L [c38] rfl rfl (List.Sublist.refl _) ⟨_, rfl, ?_⟩
        show OwnS pairE 45 _ (slcV (.slice A xs.length cap) 0 i cap 2) (xs.filter (fun y => !p y)) c38
        rw [slc_take0, ← htk]
        rw [hil] at w38
        exact w38


set_option maxHeartbeats 1600000 in
theorem dless1_c (H : Heap) (b5 : Nat) (m y : Lk) (h5 : H b5 = some (.cells #[.int .i64 m.1, .int .i64 m.2] 45)) : Fv Tryz.prog (.func (.func 83) #[] ([.pointer (some ⟨b5, 0, none⟩)] : List Value).toArray) [.agg #[.int .i64 y.1, .int .i64 y.2]] H (.bool (decide (y = m))) := by
  refine Fc.of_body (N := 7) Tryz.func83 rfl (by kernel_rfl) rfl rfl ?_
  intro w0
  refine T.seq ?_
  refine T.region ?_
  refine R.box rfl (by conv => lhs; whnf) ?_
  intro b2
  refine R.asE rfl (by conv => lhs; whnf) ?_
  refine TL.nil (Post.thnN ?_)
  refine T.seq ?_
  refine T.shut .hd ?_
  intro H2 s2 q2
  have h2 : H2 b2 = some (.cells #[.int .i64 y.1, .int .i64 y.2] 45) := shut1 q2
  refine T.region ?_
  refine R.ldAH Tryz.isAgg45 Tryz.sizeOf45 rfl rfl rfl h2 ?_
  refine R.ldAH Tryz.isAgg45 Tryz.sizeOf45 rfl rfl rfl (s2 _ _ h5) ?_
  refine R.eqP (a := y) (b := m) Tryzc_eqP Tryzc_eqG rfl rfl rfl ?_
  refine R.asE rfl (by conv => lhs; whnf) ?_
  refine TL.nil (Post.thnN ?_)
  refine T.ret ?_
  exact fin1 rfl rfl ⟨rfl, rfl⟩


set_option maxHeartbeats 1600000 in
theorem dsame_c (H : Heap) (v u : Value) (d xs : List Lk) (m : Lk) (hrd : RdS pairE H v d) (hr : RdS pairE H u xs) (hl : xs.length ≤ 500) : Fv Tryz.prog (fnv 80) [v, u, .agg #[.int .i64 m.1, .int .i64 m.2]] H (.int .i64 (sameR d xs m)) := by
  refine Fc.of_body (N := 31) Tryz.func80 rfl (by kernel_rfl) rfl rfl ?_
  intro w0
  refine T.seq ?_
  refine T.region ?_
  refine R.box rfl (by conv => lhs; whnf) ?_
  intro b5
  refine R.asE rfl (by conv => lhs; whnf) ?_
  refine TL.nil (Post.thnN ?_)
  refine T.seq ?_
  refine T.shut .hd ?_
  intro H5 s5 q5
  have h5 : H5 b5 = some (.cells #[.int .i64 m.1, .int .i64 m.2] 45) := shut1 q5
  refine T.region ?_
  refine R.mvE rfl (by conv => lhs; whnf) ?_
  refine R.callp rfl rfl rfl (dOf_c _ _ xs (hr.mono s5) (by omega)) ?_
  intro v13 H13 s13 q13
  obtain ⟨w13, rfl, g13⟩ := q13
  refine R.mvE rfl (by conv => lhs; whnf) ?_
  refine R.ext rfl rfl rfl ?_
  refine R.ext rfl rfl rfl ?_
  refine R.asE rfl (by conv => lhs; whnf) ?_
  refine R.asE rfl (by conv => lhs; whnf) ?_
  refine TL.nil (Post.thnN ?_)
  refine T.seq ?_
  refine T.seq ?_
  refine T.region ?_
  refine R.mvE rfl (by conv => lhs; whnf) ?_
  refine R.neq rfl rfl rfl ?_
  refine TL.nil (Post.thnN ?_)
  refine T.condD rfl (fun c17 => ?_) (fun c17 => ?_)
  · refine T.seq ?_
    refine T.region ?_
    refine R.mvE rfl (by conv => lhs; whnf) ?_
    refine R.asE rfl (by conv => lhs; whnf) ?_
    refine TL.nil (Post.thnN ?_)
    refine T.ret (Post.thnR ?_)
    -- way y
    exact fin1 rfl rfl ⟨rfl, congrArg (Value.int .i64) (by unfold sameR; rw [if_pos c17])⟩
  · refine T.skip (Post.thnN ?_)
    refine T.seq ?_
    refine T.seq ?_
    refine T.region ?_
    refine R.mvE rfl (by conv => lhs; whnf) ?_
    refine R.mvE rfl (by conv => lhs; whnf) ?_
    refine R.callv rfl rfl rfl (equalD_c _ _ _ _ _ (hrd.mono (s5.trans s13)) g13) ?_
    refine R.not rfl rfl ?_
    refine TL.nil (Post.thnN ?_)
    refine T.cond rfl (fun c22 => ?_) (fun c22 => ?_)
    · have hne : d ≠ (ofDR xs).1 := by simpa using c22
      refine T.seq ?_
      refine T.region ?_
      refine R.asE rfl (by conv => lhs; whnf) ?_
      refine TL.nil (Post.thnN ?_)
      refine T.ret (Post.thnR ?_)
      -- way ny
      exact fin1 rfl rfl ⟨rfl, congrArg (Value.int .i64) (by unfold sameR; rw [if_neg c17, if_pos hne])⟩
    · have heq : d = (ofDR xs).1 := by simpa using c22
      refine T.skip (Post.thnN ?_)
      refine T.seq ?_
      refine T.seq ?_
      refine T.region ?_
      refine R.ldAH Tryz.isAgg45 Tryz.sizeOf45 rfl rfl rfl (s13 _ _ h5) ?_
      refine R.bs (e := 45) (cs := [.int .i64 m.1, .int .i64 m.2]) rfl (fun _ => by kernel_rfl) ?_
      intro b25
      refine TL.shut .hd ?_
      intro H25 s25 q25
      have l25 : RdS pairE H25 _ [m] := RdS.litP [m] q25 rfl
      refine R.callp rfl rfl rfl (of_c _ _ [m] l25 (by simp)) ?_
      intro v26 H26 s26 q26
      obtain ⟨w26, rfl, g26⟩ := q26
      refine R.mvE rfl (by conv => lhs; whnf) ?_
      refine R.ext rfl rfl rfl ?_
      refine R.ext rfl rfl rfl ?_
      refine R.asE rfl (by conv => lhs; whnf) ?_
      refine R.asE rfl (by conv => lhs; whnf) ?_
      refine TL.nil (Post.thnN ?_)
      refine T.seq ?_
      refine T.region ?_
      refine R.mvE rfl (by conv => lhs; whnf) ?_
      refine R.neq rfl rfl rfl ?_
      refine TL.nil (Post.thnN ?_)
      refine T.condD rfl (fun c30 => ?_) (fun c30 => ?_)
      · have hlk : linkB m = false := by
          cases h : linkB m with
          | false => rfl
          | true => rw [ofR_one, h] at c30; exact absurd rfl c30
        refine T.seq ?_
        refine T.region ?_
        refine R.asE rfl (by conv => lhs; whnf) ?_
        refine TL.nil (Post.thnN ?_)
        refine T.ret (Post.thnR ?_)
        -- way nny
        exact fin1 rfl rfl ⟨rfl, congrArg (Value.int .i64) (by unfold sameR; rw [if_neg c17, if_neg (fun h => h heq), if_pos hlk])⟩
      · have hlk : linkB m = true := by
          cases h : linkB m with
          | true => rfl
          | false => rw [ofR_one, h] at c30; exact absurd c30 (by decide)
        refine T.skip (Post.thnN ?_)
        refine T.seq ?_
        refine T.region ?_
        refine R.asE rfl (by conv => lhs; whnf) ?_
        refine TL.nil (Post.thnN ?_)
        refine T.ret ?_
        -- way nnn
        exact fin1 rfl rfl ⟨rfl, congrArg (Value.int .i64) (by unfold sameR; rw [if_neg c17, if_neg (fun h => h heq), if_neg (by rw [hlk]; simp)])⟩


set_option maxHeartbeats 1600000 in
theorem danew_c (H : Heap) (v u : Value) (d xs : List Lk) (a : Int) (hrd : RdS pairE H v d) (hr : RdS pairE H u xs) (hA : Acyc xs) (hl : xs.length ≤ 1000) (hld : d.length ≤ 100000) (hkeep : ∀ y ∈ d, y.1 ∉ (wavesL true xs a).flatten → y.2 = depL xs y.1) : Fc Tryz.prog (fnv 82) [v, u, .int .i64 a] H [] (fun v' H' L' => ∃ c, L' = [c] ∧ OwnS pairE 29 H' v' (ofD xs) c) := by
  refine Fc.of_body (N := 87) Tryz.func82 rfl (by kernel_rfl) rfl rfl ?_
  intro w0
  obtain ⟨A, c, rfl, hc1, hc2, hr⟩ := hr.shape
  obtain ⟨A2, c2, rfl, hc3, hc4, hrd⟩ := hrd.shape
  have hall := all_len xs
  refine T.seq ?_
  refine T.region ?_
  refine R.asE rfl (by conv => lhs; whnf) ?_
  refine TL.nil (Post.thnN ?_)
  refine T.seq ?_
  refine T.region ?_
  refine R.mkm rfl ?_
  intro b20
  refine R.asE rfl (by conv => lhs; whnf) ?_
  refine TL.nil (Post.thnN ?_)
  refine T.seq ?_
  refine T.seq ?_
  refine T.region ?_
  refine R.mvE rfl (by conv => lhs; whnf) ?_
  refine R.mvE rfl (by conv => lhs; whnf) ?_
  refine R.callp rfl rfl rfl (cwaves_c _ _ xs a hr hl true) ?_
  intro v23 H23 s23 q23
  obtain ⟨A23, c23, rfl, m23, n23, q23⟩ := q23.shape
  refine R.len Tryz.underlying114 rfl rfl ?_
  refine R.mvE rfl (by conv => lhs; whnf) ?_
  refine TL.nil (Post.thnN ?_)
  refine T.block ?_
  refine T.loop (ι := Nat × Array MapEntry × Nat × MapL) (fun ⟨k, es, ck, m⟩ H' L' ds' => k ≤ (wavesL true xs a).length ∧ ds' = [] ∧ L' = [[(b20, .map es ck)]] ∧ MapIs .i64 es m ∧ MetIs m ((wavesL true xs a).take k).flatten) (fun ⟨k, es, ck, m⟩ => [(0, .slice A2 d.length c2), (1, .slice A xs.length c), (7, .map (some b20)), (23, .slice A23 (wavesL true xs a).length c23), (24, .int .i64 (wavesL true xs a).length), (25, .int .i64 k)]) (fun ⟨k, es, ck, m⟩ => (wavesL true xs a).length - k) ((0, #[], 0, [])) ?_ ?_ ?_
  · exact ⟨Nat.zero_le _, rfl, rfl, mapIs_nil _, MetIs.nil⟩
  · exact ⟨rfl, rfl, rfl, rfl, rfl, rfl, trivial⟩
  · intro ⟨k, es, ck, m⟩ σ0 H_0 L_0 ds_0 s_0 hI_0
    obtain ⟨hk, rfl, rfl, hm, hM⟩ := hI_0
    refine T.seq ?_
    refine T.region ?_
    refine R.lss rfl rfl rfl ?_
    refine TL.nil (Post.thnN ?_)
    refine T.seq ?_
    refine T.condD rfl (fun c26 => ?_) (fun c26 => ?_)
    · have hlt : k < (wavesL true xs a).length := by omega
      obtain ⟨w, hw⟩ := getk hlt
      refine T.skip (Post.thnN ?_)
      refine T.seq ?_
      refine T.block ?_
      refine T.seq ?_
      refine T.region ?_
      obtain ⟨b27, o27, i27, e27⟩ := (q23.mono s_0).elem (hw)
      refine R.ixp Tryz.underlying114 Tryz.sizeOf24 rfl rfl rfl (by omega) i27 ?_
      obtain ⟨v28, k28, r28⟩ := (e27).sl
      obtain ⟨A28, c28, rfl, m28, n28, r28⟩ := r28.shape
      refine R.ldC Tryz.isAgg24 rfl rfl k28 ?_
      refine R.asE rfl (by conv => lhs; whnf) ?_
      refine TL.nil (Post.thnN ?_)
      refine T.seq ?_
      refine T.region ?_
      refine R.mvE rfl (by conv => lhs; whnf) ?_
      refine R.len Tryz.underlying24 rfl rfl ?_
      refine R.mvE rfl (by conv => lhs; whnf) ?_
      refine TL.nil (Post.thnN ?_)
      refine T.block ?_
      refine T.loop (ι := Nat × Array MapEntry × Nat × MapL) (fun ⟨i, es2, ck2, m2⟩ H' L' ds' => i ≤ w.length ∧ ds' = [] ∧ L' = [[(b20, .map es2 ck2)]] ∧ MapIs .i64 es2 m2 ∧ MetIs m2 (((wavesL true xs a).take k).flatten ++ w.take i)) (fun ⟨i, es2, ck2, m2⟩ => [(0, .slice A2 d.length c2), (1, .slice A xs.length c), (7, .map (some b20)), (9, .slice A28 w.length c28), (23, .slice A23 (wavesL true xs a).length c23), (24, .int .i64 (wavesL true xs a).length), (25, .int .i64 k), (29, .slice A28 w.length c28), (30, .int .i64 w.length), (31, .int .i64 i)]) (fun ⟨i, es2, ck2, m2⟩ => w.length - i) ((0, es, ck, m)) ?_ ?_ ?_
      · exact ⟨Nat.zero_le _, rfl, rfl, hm, by rw [List.take_zero, List.append_nil]; exact hM⟩
      · exact ⟨rfl, rfl, rfl, rfl, rfl, rfl, rfl, rfl, rfl, rfl, trivial⟩
      · intro ⟨i, es2, ck2, m2⟩ σ1 H_1 L_1 ds_1 s_1 hI_1
        obtain ⟨hi, rfl, rfl, hm2, hM2⟩ := hI_1
        refine T.seq ?_
        refine T.region ?_
        refine R.lss rfl rfl rfl ?_
        refine TL.nil (Post.thnN ?_)
        refine T.seq ?_
        refine T.condD rfl (fun c32 => ?_) (fun c32 => ?_)
        · have hlt2 : i < w.length := by omega
          obtain ⟨v, hv⟩ := getk hlt2
          refine T.skip (Post.thnN ?_)
          refine T.seq ?_
          refine T.block ?_
          refine T.seq ?_
          refine T.region ?_
          obtain ⟨b33, o33, i33, e33⟩ := (r28.mono s_1).elem (hv)
          refine R.ixp Tryz.underlying24 Tryz.sizeOf3 rfl rfl rfl (by omega) i33 ?_
          refine R.ldC Tryz.isAgg3 rfl rfl (e33).int ?_
          refine R.asE rfl (by conv => lhs; whnf) ?_
          refine TL.nil (Post.thnN ?_)
          refine T.region ?_
          refine R.mvE rfl (by conv => lhs; whnf) ?_
          refine R.mvE rfl (by conv => lhs; whnf) ?_
          refine R.mup Tryz.underlying157 Tryz.underlying3 rfl rfl rfl rfl .hd hm2 ?_
          intro es36 ck36 i36
          refine TL.nil (Post.blkN ?_)
          refine id (Post.thnN ?_)
          refine T.region ?_
          refine R.addI rfl rfl rfl (by omega) ?_
          refine R.mvE rfl (by conv => lhs; whnf) ?_
          refine TL.nil (Post.thnN ?_)
          -- round's end, way yy
          exact ⟨(i + 1, es36, ck36, mput m2 v (.bool true)), s_1, ⟨by show i + 1 ≤ _; omega, rfl, rfl, i36, by rw [flat_snoc hv]; exact hM2.put v⟩, by show w.length - (i + 1) < w.length - i; omega, ⟨rfl, rfl, rfl, rfl, rfl, rfl, rfl, rfl, rfl, rfl, trivial⟩⟩
        · refine T.exit (Post.thnE (Post.thnE (Post.blkX ?_)))
          refine id (Post.blkN ?_)
          refine id (Post.thnN ?_)
          refine T.region ?_
          refine R.addI rfl rfl rfl (by omega) ?_
          refine R.mvE rfl (by conv => lhs; whnf) ?_
          refine TL.nil (Post.thnN ?_)
          -- round's end, way yn
          have hfull : i = w.length := by omega
          rw [hfull, List.take_length] at hM2
          exact ⟨(k + 1, es2, ck2, m2), s_0.trans s_1, ⟨by show k + 1 ≤ _; omega, rfl, rfl, hm2, by rw [take_snoc _ _ _ hw, List.flatten_append, List.flatten_cons, List.flatten_nil, List.append_nil]; exact hM2⟩, by show (wavesL true xs a).length - (k + 1) < (wavesL true xs a).length - k; omega, ⟨rfl, rfl, rfl, rfl, rfl, rfl, trivial⟩⟩
    · have hkx : k = (wavesL true xs a).length := by omega
      rw [hkx, List.take_length] at hM
      refine T.exit (Post.thnE (Post.thnE (Post.blkX ?_)))
      refine id (Post.thnN ?_)
      refine T.seq ?_
      refine T.region ?_
      refine R.mkm rfl ?_
      intro b39
      refine R.alloc Tryz.zeroValue93 rfl ?_
      intro b12
      refine R.st Tryz.sizeOf93 rfl rfl (by conv => lhs; whnf) rfl (by first | exact .hd | exact .tl .hd | exact .tl (.tl .hd) | exact .tl (.tl (.tl .hd)) | exact .tl (.tl (.tl (.tl .hd))) | exact .tl (.tl (.tl (.tl (.tl .hd)))) | exact .tl (.tl (.tl (.tl (.tl (.tl .hd))))) | exact .tl (.tl (.tl (.tl (.tl (.tl (.tl .hd)))))) | exact .tl (.tl (.tl (.tl (.tl (.tl (.tl (.tl .hd))))))) | exact .tl (.tl (.tl (.tl (.tl (.tl (.tl (.tl (.tl .hd))))))))) ?_
      refine TL.nil (Post.thnN ?_)
      refine T.seq ?_
      refine T.shut .hd ?_
      intro H12 s12 q12
      have h12 : H12 b12 = some (.cells #[.map (some b39)] 93) := shut1 q12
      refine T.region ?_
      refine R.mvE rfl (by conv => lhs; whnf) ?_
      refine R.callp rfl rfl rfl (outs_c _ _ xs (hr.mono (s23.trans (s_0.trans s12))) hA.1 hl) ?_
      intro v41 H41 s41 q41
      obtain ⟨b41, es41, ck41, m41, rfl, hb41, hm41, hAt41⟩ := q41
      refine R.asE rfl (by conv => lhs; whnf) ?_
      refine TL.nil (Post.thnN ?_)
      refine T.seq ?_
      refine T.seq ?_
      refine T.region ?_
      refine R.mvE rfl (by conv => lhs; whnf) ?_
      refine R.len Tryz.underlying23 rfl rfl ?_
      refine R.mvE rfl (by conv => lhs; whnf) ?_
      refine TL.nil (Post.thnN ?_)
      refine T.block ?_
      refine T.loop (ι := Nat × Array MapEntry × Nat × MapL) (fun ⟨j, es2, ck2, m2⟩ H' L' ds' => j ≤ d.length ∧ ds' = [] ∧ L' = [[(b39, .map es2 ck2)], [(b20, .map es ck)]] ∧ MapIs .i64 es2 m2 ∧ KOK xs m2) (fun ⟨j, es2, ck2, m2⟩ => [(0, .slice A2 d.length c2), (1, .slice A xs.length c), (7, .map (some b20)), (12, .pointer (some ⟨b12, 0, none⟩)), (13, .map (some b41)), (42, .slice A2 d.length c2), (43, .int .i64 d.length), (44, .int .i64 j)]) (fun ⟨j, es2, ck2, m2⟩ => d.length - j) ((0, #[], 0, [])) ?_ ?_ ?_
      · exact ⟨Nat.zero_le _, rfl, rfl, mapIs_nil _, KOK.nil xs⟩
      · exact ⟨rfl, rfl, rfl, rfl, rfl, rfl, rfl, rfl, trivial⟩
      · intro ⟨j, es2, ck2, m2⟩ σ2 H_2 L_2 ds_2 s_2 hI_2
        obtain ⟨hj, rfl, rfl, hm2, hK2⟩ := hI_2
        refine T.seq ?_
        refine T.region ?_
        refine R.lss rfl rfl rfl ?_
        refine TL.nil (Post.thnN ?_)
        refine T.seq ?_
        refine T.condD rfl (fun c45 => ?_) (fun c45 => ?_)
        · have hlt : j < d.length := by omega
          obtain ⟨y, hy⟩ := getk hlt
          refine T.skip (Post.thnN ?_)
          refine T.seq ?_
          refine T.block ?_
          refine T.seq ?_
          refine T.region ?_
          obtain ⟨b46, o46, i46, e46⟩ := (hrd.mono (s23.trans (s_0.trans (s12.trans (s41.trans s_2))))).elem (hy)
          refine R.ixp Tryz.underlying23 Tryz.sizeOf29 rfl rfl rfl (by omega) i46 ?_
          refine R.ldP Tryz.isAgg29 Tryz.sizeOf29 rfl rfl (e46) ?_
          refine R.alloc Tryz.zeroValue29 rfl ?_
          intro b15
          refine R.stA (old := [.int .i64 0, .int .i64 0]) Tryz.sizeOf29 rfl rfl rfl rfl rfl (by intro v hv; simp at hv; rcases hv with rfl | rfl <;> rfl) .hd ?_
          refine TL.nil (Post.thnN ?_)
          refine T.seq ?_
          refine T.shut .hd ?_
          intro H15 s15 q15
          have h15 : H15 b15 = some (.cells #[.int .i64 y.1, .int .i64 y.2] 29) := shut1 q15
          refine T.region ?_
          refine R.mvE rfl (by conv => lhs; whnf) ?_
          refine R.fldA Tryz.underlying29 rfl Tryz.sizeOf3 (by decide) rfl rfl ?_
          refine R.ldH Tryz.isAgg3 rfl rfl (h15) rfl ?_
          refine R.lku Tryz.underlying157 Tryz.underlying3 Tryz.zeroValue4 rfl rfl rfl (.tl .hd) hm ?_
          refine TL.set 51 (.bool (decide (y.1 ∈ (wavesL true xs a).flatten))) (hM y.1) ?_
          refine R.notD rfl rfl ?_
          refine TL.nil (Post.thnN ?_)
          refine T.condD rfl (fun c52 => ?_) (fun c52 => ?_)
          · refine T.region ?_
            refine R.ldH Tryz.isAgg93 rfl rfl (((s41.trans (s_2.trans s15)) _ _ h12)) rfl ?_
            refine R.fldA Tryz.underlying29 rfl Tryz.sizeOf3 (by decide) rfl rfl ?_
            refine R.ldH Tryz.isAgg3 rfl rfl (h15) rfl ?_
            refine R.fldA Tryz.underlying29 rfl Tryz.sizeOf3 (by decide) rfl rfl ?_
            refine R.ldH Tryz.isAgg3 rfl rfl (h15) rfl ?_
            refine R.mup Tryz.underlying93 Tryz.underlying3 rfl rfl rfl rfl .hd hm2 ?_
            intro es57 ck57 i57
            refine TL.nil (Post.blkN ?_)
            refine id (Post.thnN ?_)
            refine T.region ?_
            refine R.addI rfl rfl rfl (by omega) ?_
            refine R.mvE rfl (by conv => lhs; whnf) ?_
            refine TL.nil (Post.thnN ?_)
            -- round's end, way nyy
            exact ⟨(j + 1, es57, ck57, mput m2 y.1 (.int .i64 y.2)), s_2.trans s15, ⟨by show j + 1 ≤ _; omega, rfl, rfl, i57, hK2.put (hkeep y (List.mem_of_getElem? hy) c52)⟩, by show d.length - (j + 1) < d.length - j; omega, ⟨rfl, rfl, rfl, rfl, rfl, rfl, rfl, rfl, trivial⟩⟩
          · refine T.skip (Post.blkN ?_)
            refine id (Post.thnN ?_)
            refine T.region ?_
            refine R.addI rfl rfl rfl (by omega) ?_
            refine R.mvE rfl (by conv => lhs; whnf) ?_
            refine TL.nil (Post.thnN ?_)
            -- round's end, way nyn
            exact ⟨(j + 1, es2, ck2, m2), s_2.trans s15, ⟨by show j + 1 ≤ _; omega, rfl, rfl, hm2, hK2⟩, by show d.length - (j + 1) < d.length - j; omega, ⟨rfl, rfl, rfl, rfl, rfl, rfl, rfl, rfl, trivial⟩⟩
        · refine T.exit (Post.thnE (Post.thnE (Post.blkX ?_)))
          refine id (Post.thnN ?_)
          refine T.seq ?_
          refine T.seq ?_
          refine T.draw Tryz_mixed (by kernel_rfl) ?_
          refine Plan.v 0 [1, 2, 3, 4] (by kernel_rfl) (by kernel_rfl) (by kernel_rfl) (by kernel_rfl) rfl (fun _ _ h_ => R.mvE rfl (by conv => lhs; whnf) (TL.nil h_)) ?_
          refine Plan.v 1 [2, 3, 4] (by kernel_rfl) (by kernel_rfl) (by kernel_rfl) (by kernel_rfl) rfl (fun _ _ h_ => R.mvE rfl (by conv => lhs; whnf) (TL.nil h_)) ?_
          refine Plan.v 3 [2, 4] (by kernel_rfl) (by kernel_rfl) (by kernel_rfl) (by kernel_rfl) rfl (fun _ _ h_ => R.ldH Tryz.isAgg93 rfl rfl (((s41.trans s_2) _ _ h12)) rfl (TL.nil h_)) ?_
          refine Plan.s1 2 [4] (by kernel_rfl) (by kernel_rfl) rfl ?_
          refine TL.call [] rfl rfl rfl (all_c _ _ xs (hr.mono (s23.trans (s_0.trans (s12.trans (s41.trans s_2))))) hl) ?_
          intro v61 H61 L61 s61 q61
          obtain ⟨c61, rfl, w61⟩ := q61
          refine TL.shut .hd ?_
          intro HF61 sF61 qF61
          have f61 := w61.read sF61 qF61
          refine TL.nil (Plan.e1 ((s61.trans sF61)) ?_)
          refine Plan.s1 4 [] (by kernel_rfl) (by kernel_rfl) rfl ?_
          refine R.callp rfl rfl rfl (rises_c _ b39 b41 es41 ck41 m41 xs ((s_2.trans (s61.trans sF61)) _ _ hb41) hm41 (fun j => (hAt41 j).mono (s_2.trans (s61.trans sF61))) hA hl _ (allL xs) f61 (fun n hn => all_pos hA hn)) ?_
          intro v63 H63 s63 q63
          obtain ⟨lb, rfl, hit⟩ := q63
          refine TL.nil (Plan.e1 (s63) ?_)
          refine Plan.done (Post.thnN ?_)
          refine T.block ?_
          refine T.rangeFuncR rfl rfl (enters_of Tryz.func131 (by kernel_rfl) rfl) hit (fun _ _ _ h => by subst h; rfl) rfl (fun pre H' L' => L' = [[(b20, .map es ck)]]) (fun c pre H' L' => False) (fun _ _ _ _ _ h => h) (fun _ _ _ _ _ _ h => h) (⟨es2, ck2, m2, rfl, hm2, hK2, fun y h => by simp at h⟩) ?_ ?_ ?_ ?_
          · rfl
          · intro l0 r0 w0 pre y vs Hr0 cR0 Lr0 sr0 hp0 hI0 hR0 hY0
            obtain rfl := hI0
            obtain rfl := hY0
            obtain ⟨es3, ck3, m3, rfl, hm3, hK3, hn3⟩ := hR0
            have hyd : y.2 = depL xs y.1 := by
              obtain ⟨n, hn, e⟩ := List.mem_map.1 (hp0.subset (List.mem_append_right _ (List.mem_singleton.2 rfl)))
              rw [← e]
            refine T.region ?_
            refine R.alloc Tryz.zeroValue29 rfl ?_
            intro b16
            refine R.stA (old := [.int .i64 0, .int .i64 0]) Tryz.sizeOf29 rfl rfl rfl rfl rfl (by intro v hv; simp at hv; rcases hv with rfl | rfl <;> rfl) .hd ?_
            refine TL.nil ?_
            refine onlyN.mk ?_
            refine T.block ?_
            refine T.shut .hd ?_
            intro H16 s16 q16
            have h16 : H16 b16 = some (.cells #[.int .i64 y.1, .int .i64 y.2] 29) := shut1 q16
            refine T.region ?_
            refine R.ldH Tryz.isAgg93 rfl rfl (((s41.trans (s_2.trans (s61.trans (sF61.trans (s63.trans (sr0.trans s16)))))) _ _ h12)) rfl ?_
            refine R.fldA Tryz.underlying29 rfl Tryz.sizeOf3 (by decide) rfl rfl ?_
            refine R.ldH Tryz.isAgg3 rfl rfl (h16) rfl ?_
            refine R.fldA Tryz.underlying29 rfl Tryz.sizeOf3 (by decide) rfl rfl ?_
            refine R.ldH Tryz.isAgg3 rfl rfl (h16) rfl ?_
            refine R.mup Tryz.underlying93 Tryz.underlying3 rfl rfl rfl rfl .hd hm3 ?_
            intro es69 ck69 i69
            refine TL.nil (Post.blkN ?_)
            refine id ?_
            -- way nnb
            exact ⟨_, _, rfl, ⟨es69, ck69, _, rfl, i69, hK3.put hyd, fun z hz => KLe.put m3 y.1 _ z.1 (hn3 z hz)⟩, rfl⟩
          · intro D0 Hr0 cR0 Lr0 sr0 hR0 hI0
            obtain rfl := hI0
            obtain ⟨es4, ck4, m4, rfl, hm4, hK4, hn4⟩ := hR0
            refine id (Post.blkN ?_)
            refine id (Post.thnN ?_)
            refine T.seq ?_
            refine T.region ?_
            refine R.asE rfl (by conv => lhs; whnf) ?_
            refine TL.nil (Post.thnN ?_)
            refine T.seq ?_
            refine T.seq ?_
            refine T.nilc ?_
            refine T.region ?_
            refine R.mvE rfl (by conv => lhs; whnf) ?_
            refine TL.call [] rfl rfl rfl (all_c _ _ xs (hr.mono (s23.trans (s_0.trans (s12.trans (s41.trans (s_2.trans (s61.trans (sF61.trans (s63.trans sr0))))))))) hl) ?_
            intro v71 H71 L71 s71 q71
            obtain ⟨c71, rfl, w71⟩ := q71
            refine TL.shut .hd ?_
            intro HF71 sF71 qF71
            have f71 := w71.read sF71 qF71
            obtain ⟨A71, k71, hv71, m71, n71, f71⟩ := f71.shape
            refine TL.set 71 (.slice A71 (allL xs).length k71) hv71 ?_
            refine R.len Tryz.underlying24 rfl rfl ?_
            refine R.mvE rfl (by conv => lhs; whnf) ?_
            refine TL.nil (Post.thnN ?_)
            refine T.block ?_
            refine T.loop (ι := Nat × Value × Chunk) (fun ⟨q, vw, cw⟩ H' L' ds' => q ≤ (allL xs).length ∧ ds' = [D0] ∧ L' = [cw, [(b39, .map es4 ck4)], [(b20, .map es ck)]] ∧ OwnS pairE 29 H' vw (((allL xs).take q).map (fun n => (n, depL xs n))) cw) (fun ⟨q, vw, cw⟩ => [(12, .pointer (some ⟨b12, 0, none⟩)), (17, vw), (71, .slice A71 (allL xs).length k71), (72, .int .i64 (allL xs).length), (73, .int .i64 q)]) (fun ⟨q, vw, cw⟩ => (allL xs).length - q) ((0, .slice none 0 0, [])) ?_ ?_ ?_
            · exact ⟨Nat.zero_le _, rfl, rfl, OwnS.nil⟩
            · exact ⟨rfl, rfl, rfl, rfl, rfl, trivial⟩
            · intro ⟨q, vw, cw⟩ σ3 H_3 L_3 ds_3 s_3 hI_3
              obtain ⟨hq, rfl, rfl, ho⟩ := hI_3
              refine T.seq ?_
              refine T.region ?_
              refine R.lss rfl rfl rfl ?_
              refine TL.nil (Post.thnN ?_)
              refine T.seq ?_
              refine T.condD rfl (fun c74 => ?_) (fun c74 => ?_)
              · have hlt : q < (allL xs).length := by omega
                obtain ⟨y, hy⟩ := getk hlt
                refine T.skip (Post.thnN ?_)
                refine T.seq ?_
                refine T.block ?_
                refine T.seq ?_
                refine T.region ?_
                obtain ⟨b75, o75, i75, e75⟩ := (f71.mono s_3).elem (hy)
                refine R.ixp Tryz.underlying24 Tryz.sizeOf3 rfl rfl rfl (by omega) i75 ?_
                refine R.ldC Tryz.isAgg3 rfl rfl (e75).int ?_
                refine R.asE rfl (by conv => lhs; whnf) ?_
                refine TL.nil (Post.thnN ?_)
                refine T.region ?_
                refine R.mvE rfl (by conv => lhs; whnf) ?_
                refine R.mvE rfl (by conv => lhs; whnf) ?_
                refine R.ldH Tryz.isAgg93 rfl rfl (((s41.trans (s_2.trans (s61.trans (sF61.trans (s63.trans (sr0.trans (s71.trans (sF71.trans s_3)))))))) _ _ h12)) rfl ?_
                refine R.mvE rfl (by conv => lhs; whnf) ?_
                refine R.lku Tryz.underlying93 Tryz.underlying3 Tryz.zeroValue3 rfl rfl rfl (.tl .hd) hm4 ?_
                refine TL.set 81 (.int .i64 (depL xs y)) (hK4.is (hn4 (y, depL xs y) (List.mem_map.2 ⟨y, List.mem_of_getElem? hy, rfl⟩))) ?_
                refine R.bld (cs := [.int .i64 y, .int .i64 (depL xs y)]) rfl (fun _ => by kernel_rfl) ?_
                refine R.bs (e := 29) (cs := [.int .i64 y, .int .i64 (depL xs y)]) rfl (fun _ => by kernel_rfl) ?_
                intro b83
                refine R.app (ys := [(y, depL xs y)]) Tryz_ty23 rfl rfl rfl ho (.tl .hd) (Src.lit (vs := [.int .i64 y, .int .i64 (depL xs y)]) .hd) ⟨[.int .i64 y, .int .i64 (depL xs y)], [], rfl, rfl, rfl⟩ (by simp; omega) (by simp; omega) ?_
                intro v84 c84 w84
                refine TL.del (.tl .hd) ?_
                refine R.asE rfl (by conv => lhs; whnf) ?_
                refine TL.nil (Post.blkN ?_)
                refine id (Post.thnN ?_)
                refine T.region ?_
                refine R.addI rfl rfl rfl (by omega) ?_
                refine R.mvE rfl (by conv => lhs; whnf) ?_
                refine TL.nil (Post.thnN ?_)
                -- round's end, way nndy
                exact ⟨(q + 1, v84, c84), s_3, ⟨by show q + 1 ≤ _; omega, rfl, rfl, by rw [take_snoc _ _ _ hy, List.map_append]; exact w84⟩, by show (allL xs).length - (q + 1) < (allL xs).length - q; omega, ⟨rfl, rfl, rfl, rfl, rfl, trivial⟩⟩
              · have hqx : q = (allL xs).length := by omega
                rw [hqx, List.take_length] at ho
                refine T.exit (Post.thnE (Post.thnE (Post.blkX ?_)))
                refine id (Post.thnN ?_)
                refine T.seq ?_
                refine T.region ?_
                refine R.mvE rfl (by conv => lhs; whnf) ?_
                refine R.asE rfl (by conv => lhs; whnf) ?_
                refine TL.nil (Post.thnN ?_)
                refine T.ret ?_
                -- way nndn
                exact fin1L [cw] rfl rfl (List.Sublist.cons_cons _ (List.nil_sublist _)) ⟨_, rfl, ho⟩
          · intro D0 c0 pre y Hr0 cR0 Lr0 sr0 hp0 hR0 hI0
            exact hI0.elim


set_option maxHeartbeats 1600000 in
theorem dmore_c (H : Heap) (v u : Value) (d xs : List Lk) (m : Lk) (hrd : RdS pairE H v d) (hr : RdS pairE H u xs) (hl : xs.length ≤ 500) (hld : d.length ≤ 100000) : Fp Tryz.prog (fnv 32) [v, u, .agg #[.int .i64 m.1, .int .i64 m.2]] H (fun v' H' => ∃ w, v' = .tuple #[w, .int .i64 (moreR d xs m).2] ∧ RdS pairE H' w (moreR d xs m).1) := by
  refine Fc.of_body (N := 46) Tryz.func32 rfl (by kernel_rfl) rfl rfl ?_
  intro w0
  obtain ⟨A, c, rfl, hc1, hc2, hr⟩ := hr.shape
  refine T.seq ?_
  refine T.region ?_
  refine R.box rfl (by conv => lhs; whnf) ?_
  intro b5
  refine R.asE rfl (by conv => lhs; whnf) ?_
  refine R.asE rfl (by conv => lhs; whnf) ?_
  refine TL.nil (Post.thnN ?_)
  refine T.seq ?_
  refine T.seq ?_
  refine T.shut .hd ?_
  intro H5 s5 q5
  have h5 : H5 b5 = some (.cells #[.int .i64 m.1, .int .i64 m.2] 45) := shut1 q5
  refine T.region ?_
  refine R.mvE rfl (by conv => lhs; whnf) ?_
  refine R.mvE rfl (by conv => lhs; whnf) ?_
  refine R.ldAH Tryz.isAgg45 Tryz.sizeOf45 rfl rfl rfl h5 ?_
  refine R.callv rfl rfl rfl (dsame_c _ _ _ d xs m (hrd.mono s5) (hr.mono s5) hl) ?_
  refine R.asE rfl (by conv => lhs; whnf) ?_
  refine TL.nil (Post.thnN ?_)
  refine T.seq ?_
  refine T.region ?_
  refine R.mvE rfl (by conv => lhs; whnf) ?_
  refine R.neq rfl rfl rfl ?_
  refine TL.nil (Post.thnN ?_)
  refine T.condD rfl (fun c16 => ?_) (fun c16 => ?_)
  · refine T.seq ?_
    refine T.region ?_
    refine R.mvE rfl (by conv => lhs; whnf) ?_
    refine R.asE rfl (by conv => lhs; whnf) ?_
    refine R.asE rfl (by conv => lhs; whnf) ?_
    refine TL.nil (Post.thnN ?_)
    refine T.ret (Post.thnR ?_)
    -- way y
    exact fin2 rfl rfl rfl ⟨rfl, _, by rw [moreR_a c16]; rfl, by rw [moreR_a c16]; exact RdS.nil⟩
  · have hs0 : sameR d xs m = 0 := Decidable.of_not_not c16
    obtain ⟨hA, hd, hm⟩ := sameR_ok hs0
    refine T.skip (Post.thnN ?_)
    refine T.seq ?_
    refine T.block ?_
    refine T.seq ?_
    refine T.region ?_
    refine R.mvE rfl (by conv => lhs; whnf) ?_
    refine R.ldAH Tryz.isAgg45 Tryz.sizeOf45 rfl rfl rfl h5 ?_
    refine R.callv rfl rfl rfl (containsP_c _ _ xs m (hr.mono s5)) ?_
    refine R.asE rfl (by conv => lhs; whnf) ?_
    refine TL.nil (Post.thnN ?_)
    refine T.cond rfl (fun c18 => ?_) (fun c18 => ?_)
    · have hin : m ∈ xs := anyD_mem.1 c18
      refine T.seq ?_
      refine T.region ?_
      refine R.asE rfl (by conv => lhs; whnf) ?_
      refine R.asE rfl (by conv => lhs; whnf) ?_
      refine TL.nil (Post.thnN ?_)
      refine T.ret (Post.blkR (Post.thnR ?_))
      -- way ny
      exact fin2 rfl rfl rfl ⟨rfl, _, by rw [moreR_b hs0 hin]; rfl, by rw [moreR_b hs0 hin]; exact RdS.nil⟩
    · have hin : m ∉ xs := anyD_not c18
      refine T.seq ?_
      refine T.region ?_
      refine R.mvE rfl (by conv => lhs; whnf) ?_
      refine R.fldA Tryz.underlying45 rfl Tryz.sizeOf3 (by decide) rfl rfl ?_
      refine R.ldH Tryz.isAgg3 rfl rfl (h5) rfl ?_
      refine R.fldA Tryz.underlying45 rfl Tryz.sizeOf3 (by decide) rfl rfl ?_
      refine R.ldH Tryz.isAgg3 rfl rfl (h5) rfl ?_
      refine R.callv rfl rfl rfl (closes_c _ _ xs m.1 (hr.mono s5) (by omega) m.2) ?_
      refine R.asE rfl (by conv => lhs; whnf) ?_
      refine TL.nil (Post.thnN ?_)
      refine T.cond rfl (fun c22 => ?_) (fun c22 => ?_)
      · refine T.seq ?_
        refine T.region ?_
        refine R.asE rfl (by conv => lhs; whnf) ?_
        refine R.asE rfl (by conv => lhs; whnf) ?_
        refine TL.nil (Post.thnN ?_)
        refine T.ret (Post.blkR (Post.thnR ?_))
        -- way nny
        exact fin2 rfl rfl rfl ⟨rfl, _, by rw [moreR_c hs0 hin c22]; rfl, by rw [moreR_c hs0 hin c22]; exact RdS.nil⟩
      · refine T.skip (Post.blkN ?_)
        refine id (Post.thnN ?_)
        refine T.seq ?_
        refine T.draw Tryz_mixed (by kernel_rfl) ?_
        refine Plan.v 0 [1, 2, 3, 4, 5, 6, 7, 8, 9, 10] (by kernel_rfl) (by kernel_rfl) (by kernel_rfl) (by kernel_rfl) rfl (fun _ _ h_ => R.mvE rfl (by conv => lhs; whnf) (TL.nil h_)) ?_
        refine Plan.v 2 [1, 3, 4, 5, 6, 7, 8, 9, 10] (by kernel_rfl) (by kernel_rfl) (by kernel_rfl) (by kernel_rfl) rfl (fun _ _ h_ => R.ldAH Tryz.isAgg45 Tryz.sizeOf45 rfl rfl rfl h5 (TL.nil h_)) ?_
        refine Plan.s2 1 3 [3, 4, 5, 6, 7, 8, 9, 10] [1, 4, 5, 6, 7, 8, 9, 10] (by kernel_rfl) (by kernel_rfl) (by kernel_rfl) rfl rfl ?_ ?_
        · refine TL.call [] rfl rfl rfl (cloneP22_c _ _ _ (hr.mono s5) (by omega)) ?_
          intro v31 H31 L31 s31 q31
          obtain ⟨c31, rfl, w31⟩ := q31
          refine TL.nil (Plan.e1 (s31) ?_)
          refine Plan.s1 3 [4, 5, 6, 7, 8, 9, 10] (by kernel_rfl) (by kernel_rfl) rfl ?_
          refine R.bs (e := 45) (cs := [.int .i64 m.1, .int .i64 m.2]) rfl (fun _ => by kernel_rfl) ?_
          intro b33
          refine TL.nil (Plan.e1 (HLe.refl _) ?_)
          refine Plan.s1 4 [5, 6, 7, 8, 9, 10] (by kernel_rfl) (by kernel_rfl) rfl ?_
          refine R.app (ys := [m]) Tryz_ty22 rfl rfl rfl w31 (by first | exact .hd | exact .tl .hd | exact .tl (.tl .hd) | exact .tl (.tl (.tl .hd)) | exact .tl (.tl (.tl (.tl .hd))) | exact .tl (.tl (.tl (.tl (.tl .hd)))) | exact .tl (.tl (.tl (.tl (.tl (.tl .hd))))) | exact .tl (.tl (.tl (.tl (.tl (.tl (.tl .hd)))))) | exact .tl (.tl (.tl (.tl (.tl (.tl (.tl (.tl .hd))))))) | exact .tl (.tl (.tl (.tl (.tl (.tl (.tl (.tl (.tl .hd))))))))) (Src.lit (vs := [.int .i64 m.1, .int .i64 m.2]) (by first | exact .hd | exact .tl .hd | exact .tl (.tl .hd) | exact .tl (.tl (.tl .hd)) | exact .tl (.tl (.tl (.tl .hd))) | exact .tl (.tl (.tl (.tl (.tl .hd)))) | exact .tl (.tl (.tl (.tl (.tl (.tl .hd))))) | exact .tl (.tl (.tl (.tl (.tl (.tl (.tl .hd)))))) | exact .tl (.tl (.tl (.tl (.tl (.tl (.tl (.tl .hd))))))) | exact .tl (.tl (.tl (.tl (.tl (.tl (.tl (.tl (.tl .hd)))))))))) ⟨[.int .i64 m.1, .int .i64 m.2], [], rfl, rfl, rfl⟩ (by simp; omega) (by simp; omega) ?_
          intro v34 c34 w34
          refine TL.shut .hd ?_
          intro H34 s34 q34
          have g34 := w34.read s34 q34
          refine TL.nil (Plan.e1 (s34) ?_)
          refine Plan.s1 5 [6, 7, 8, 9, 10] (by kernel_rfl) (by kernel_rfl) rfl ?_
          refine R.callp rfl rfl rfl (of_c _ _ (xs ++ [m]) g34 (by simp; omega)) ?_
          intro v35 H35 s35 q35
          obtain ⟨w35, rfl, g35⟩ := q35
          have hof := more_of hA (by omega) hm
          refine TL.nil (Plan.e1 (s35) ?_)
          refine Plan.v 6 [7, 8, 9, 10] (by kernel_rfl) (by kernel_rfl) (by kernel_rfl) (by kernel_rfl) rfl (fun _ _ h_ => R.mvE rfl (by conv => lhs; whnf) (TL.nil h_)) ?_
          refine Plan.v 7 [8, 9, 10] (by kernel_rfl) (by kernel_rfl) (by kernel_rfl) (by kernel_rfl) rfl (fun _ _ h_ => R.ext rfl rfl rfl (TL.nil h_)) ?_
          refine Plan.v 8 [9, 10] (by kernel_rfl) (by kernel_rfl) (by kernel_rfl) (by kernel_rfl) rfl (fun _ _ h_ => R.ext rfl rfl rfl (TL.nil h_)) ?_
          refine Plan.v 9 [10] (by kernel_rfl) (by kernel_rfl) (by kernel_rfl) (by kernel_rfl) rfl (fun _ _ h_ => R.asE rfl (by conv => lhs; whnf) (TL.nil h_)) ?_
          refine Plan.v 10 [] (by kernel_rfl) (by kernel_rfl) (by kernel_rfl) (by kernel_rfl) rfl (fun _ _ h_ => R.asE rfl (by conv => lhs; whnf) (TL.nil h_)) ?_
          refine Plan.done (Post.thnN ?_)
          refine T.seq ?_
          refine T.seq ?_
          refine T.region ?_
          refine R.mvE rfl (by conv => lhs; whnf) ?_
          refine R.neq rfl rfl rfl ?_
          refine TL.nil (Post.thnN ?_)
          refine T.set 39 (.bool false) (congrArg Value.bool (decide_eq_false (fun h => h (by rw [hof])))) ?_
          refine T.condN rfl ?_
          refine T.skip (Post.thnN ?_)
          refine T.seq ?_
          refine T.region ?_
          refine R.mvE rfl (by conv => lhs; whnf) ?_
          refine R.mvE rfl (by conv => lhs; whnf) ?_
          refine R.fldA Tryz.underlying45 rfl Tryz.sizeOf3 (by decide) rfl rfl ?_
          refine R.ldH Tryz.isAgg3 rfl rfl (((s31.trans (s34.trans s35)) _ _ h5)) rfl ?_
          refine TL.call [] rfl rfl rfl (danew_c _ _ _ d (ofP (xs ++ [m])) m.1 (hrd.mono (s5.trans (s31.trans (s34.trans s35)))) (by rw [hof] at g35; exact g35) (more_acyc hA (by omega) hm c22) (by have := ofP_len (xs ++ [m]); simp at this; omega) hld (by rw [hd]; exact more_keep hA (by omega) hm c22)) ?_
          intro v45 H45 L45 s45 q45
          obtain ⟨c45, rfl, w45⟩ := q45
          refine TL.shut .hd ?_
          intro HF45 sF45 qF45
          have f45 := w45.read sF45 qF45
          refine R.asE rfl (by conv => lhs; whnf) ?_
          refine R.asE rfl (by conv => lhs; whnf) ?_
          refine TL.nil (Post.thnN ?_)
          refine T.ret ?_
          -- way nnn0
          exact fin2 rfl rfl rfl ⟨rfl, _, by rw [moreR_d hs0 hin c22]; rfl, by rw [moreR_d hs0 hin c22]; exact f45⟩
        · refine R.bs (e := 45) (cs := [.int .i64 m.1, .int .i64 m.2]) rfl (fun _ => by kernel_rfl) ?_
          intro b33
          refine TL.nil (Plan.e1 (HLe.refl _) ?_)
          refine Plan.s1 1 [4, 5, 6, 7, 8, 9, 10] (by kernel_rfl) (by kernel_rfl) rfl ?_
          refine TL.call [] rfl rfl rfl (cloneP22_c _ _ _ (hr.mono s5) (by omega)) ?_
          intro v31 H31 L31 s31 q31
          obtain ⟨c31, rfl, w31⟩ := q31
          refine TL.nil (Plan.e1 (s31) ?_)
          refine Plan.s1 4 [5, 6, 7, 8, 9, 10] (by kernel_rfl) (by kernel_rfl) rfl ?_
          refine R.app (ys := [m]) Tryz_ty22 rfl rfl rfl w31 (by first | exact .hd | exact .tl .hd | exact .tl (.tl .hd) | exact .tl (.tl (.tl .hd)) | exact .tl (.tl (.tl (.tl .hd))) | exact .tl (.tl (.tl (.tl (.tl .hd)))) | exact .tl (.tl (.tl (.tl (.tl (.tl .hd))))) | exact .tl (.tl (.tl (.tl (.tl (.tl (.tl .hd)))))) | exact .tl (.tl (.tl (.tl (.tl (.tl (.tl (.tl .hd))))))) | exact .tl (.tl (.tl (.tl (.tl (.tl (.tl (.tl (.tl .hd))))))))) (Src.lit (vs := [.int .i64 m.1, .int .i64 m.2]) (by first | exact .hd | exact .tl .hd | exact .tl (.tl .hd) | exact .tl (.tl (.tl .hd)) | exact .tl (.tl (.tl (.tl .hd))) | exact .tl (.tl (.tl (.tl (.tl .hd)))) | exact .tl (.tl (.tl (.tl (.tl (.tl .hd))))) | exact .tl (.tl (.tl (.tl (.tl (.tl (.tl .hd)))))) | exact .tl (.tl (.tl (.tl (.tl (.tl (.tl (.tl .hd))))))) | exact .tl (.tl (.tl (.tl (.tl (.tl (.tl (.tl (.tl .hd)))))))))) ⟨[.int .i64 m.1, .int .i64 m.2], [], rfl, rfl, rfl⟩ (by simp; omega) (by simp; omega) ?_
          intro v34 c34 w34
          refine TL.shut .hd ?_
          intro H34 s34 q34
          have g34 := w34.read s34 q34
          refine TL.nil (Plan.e1 (s34) ?_)
          refine Plan.s1 5 [6, 7, 8, 9, 10] (by kernel_rfl) (by kernel_rfl) rfl ?_
          refine R.callp rfl rfl rfl (of_c _ _ (xs ++ [m]) g34 (by simp; omega)) ?_
          intro v35 H35 s35 q35
          obtain ⟨w35, rfl, g35⟩ := q35
          have hof := more_of hA (by omega) hm
          refine TL.nil (Plan.e1 (s35) ?_)
          refine Plan.v 6 [7, 8, 9, 10] (by kernel_rfl) (by kernel_rfl) (by kernel_rfl) (by kernel_rfl) rfl (fun _ _ h_ => R.mvE rfl (by conv => lhs; whnf) (TL.nil h_)) ?_
          refine Plan.v 7 [8, 9, 10] (by kernel_rfl) (by kernel_rfl) (by kernel_rfl) (by kernel_rfl) rfl (fun _ _ h_ => R.ext rfl rfl rfl (TL.nil h_)) ?_
          refine Plan.v 8 [9, 10] (by kernel_rfl) (by kernel_rfl) (by kernel_rfl) (by kernel_rfl) rfl (fun _ _ h_ => R.ext rfl rfl rfl (TL.nil h_)) ?_
          refine Plan.v 9 [10] (by kernel_rfl) (by kernel_rfl) (by kernel_rfl) (by kernel_rfl) rfl (fun _ _ h_ => R.asE rfl (by conv => lhs; whnf) (TL.nil h_)) ?_
          refine Plan.v 10 [] (by kernel_rfl) (by kernel_rfl) (by kernel_rfl) (by kernel_rfl) rfl (fun _ _ h_ => R.asE rfl (by conv => lhs; whnf) (TL.nil h_)) ?_
          refine Plan.done (Post.thnN ?_)
          refine T.seq ?_
          refine T.seq ?_
          refine T.region ?_
          refine R.mvE rfl (by conv => lhs; whnf) ?_
          refine R.neq rfl rfl rfl ?_
          refine TL.nil (Post.thnN ?_)
          refine T.set 39 (.bool false) (congrArg Value.bool (decide_eq_false (fun h => h (by rw [hof])))) ?_
          refine T.condN rfl ?_
          refine T.skip (Post.thnN ?_)
          refine T.seq ?_
          refine T.region ?_
          refine R.mvE rfl (by conv => lhs; whnf) ?_
          refine R.mvE rfl (by conv => lhs; whnf) ?_
          refine R.fldA Tryz.underlying45 rfl Tryz.sizeOf3 (by decide) rfl rfl ?_
          refine R.ldH Tryz.isAgg3 rfl rfl (((s31.trans (s34.trans s35)) _ _ h5)) rfl ?_
          refine TL.call [] rfl rfl rfl (danew_c _ _ _ d (ofP (xs ++ [m])) m.1 (hrd.mono (s5.trans (s31.trans (s34.trans s35)))) (by rw [hof] at g35; exact g35) (more_acyc hA (by omega) hm c22) (by have := ofP_len (xs ++ [m]); simp at this; omega) hld (by rw [hd]; exact more_keep hA (by omega) hm c22)) ?_
          intro v45 H45 L45 s45 q45
          obtain ⟨c45, rfl, w45⟩ := q45
          refine TL.shut .hd ?_
          intro HF45 sF45 qF45
          have f45 := w45.read sF45 qF45
          refine R.asE rfl (by conv => lhs; whnf) ?_
          refine R.asE rfl (by conv => lhs; whnf) ?_
          refine TL.nil (Post.thnN ?_)
          refine T.ret ?_
          -- way nnn1
          exact fin2 rfl rfl rfl ⟨rfl, _, by rw [moreR_d hs0 hin c22]; rfl, by rw [moreR_d hs0 hin c22]; exact f45⟩


set_option maxHeartbeats 1600000 in
theorem dless_c (H : Heap) (v u : Value) (d xs : List Lk) (m : Lk) (hrd : RdS pairE H v d) (hr : RdS pairE H u xs) (hl : xs.length ≤ 500) (hld : d.length ≤ 100000) : Fp Tryz.prog (fnv 33) [v, u, .agg #[.int .i64 m.1, .int .i64 m.2]] H (fun v' H' => ∃ w, v' = .tuple #[w, .int .i64 (lessR d xs m).2] ∧ RdS pairE H' w (lessR d xs m).1) := by
  refine Fc.of_body (N := 30) Tryz.func33 rfl (by kernel_rfl) rfl rfl ?_
  intro w0
  obtain ⟨A, c, rfl, hc1, hc2, hr⟩ := hr.shape
  refine T.seq ?_
  refine T.region ?_
  refine R.box rfl (by conv => lhs; whnf) ?_
  intro b5
  refine R.asE rfl (by conv => lhs; whnf) ?_
  refine R.asE rfl (by conv => lhs; whnf) ?_
  refine TL.nil (Post.thnN ?_)
  refine T.seq ?_
  refine T.seq ?_
  refine T.shut .hd ?_
  intro H5 s5 q5
  have h5 : H5 b5 = some (.cells #[.int .i64 m.1, .int .i64 m.2] 45) := shut1 q5
  refine T.region ?_
  refine R.mvE rfl (by conv => lhs; whnf) ?_
  refine R.mvE rfl (by conv => lhs; whnf) ?_
  refine R.ldAH Tryz.isAgg45 Tryz.sizeOf45 rfl rfl rfl h5 ?_
  refine R.callv rfl rfl rfl (dsame_c _ _ _ d xs m (hrd.mono s5) (hr.mono s5) hl) ?_
  refine R.asE rfl (by conv => lhs; whnf) ?_
  refine TL.nil (Post.thnN ?_)
  refine T.seq ?_
  refine T.region ?_
  refine R.mvE rfl (by conv => lhs; whnf) ?_
  refine R.neq rfl rfl rfl ?_
  refine TL.nil (Post.thnN ?_)
  refine T.condD rfl (fun c15 => ?_) (fun c15 => ?_)
  · refine T.seq ?_
    refine T.region ?_
    refine R.mvE rfl (by conv => lhs; whnf) ?_
    refine R.asE rfl (by conv => lhs; whnf) ?_
    refine R.asE rfl (by conv => lhs; whnf) ?_
    refine TL.nil (Post.thnN ?_)
    refine T.ret (Post.thnR ?_)
    -- way y
    exact fin2 rfl rfl rfl ⟨rfl, _, by rw [lessR_a c15]; rfl, by rw [lessR_a c15]; exact RdS.nil⟩
  · have hs0 : sameR d xs m = 0 := Decidable.of_not_not c15
    obtain ⟨hA, hd, hm⟩ := sameR_ok hs0
    refine T.skip (Post.thnN ?_)
    refine T.seq ?_
    refine T.seq ?_
    refine T.region ?_
    refine R.mvE rfl (by conv => lhs; whnf) ?_
    refine R.ldAH Tryz.isAgg45 Tryz.sizeOf45 rfl rfl rfl h5 ?_
    refine R.callv rfl rfl rfl (containsP_c _ _ xs m (hr.mono s5)) ?_
    refine R.not rfl rfl ?_
    refine TL.nil (Post.thnN ?_)
    refine T.cond rfl (fun c20 => ?_) (fun c20 => ?_)
    · have hin : m ∉ xs := anyD_not (by simpa using c20)
      refine T.seq ?_
      refine T.region ?_
      refine R.asE rfl (by conv => lhs; whnf) ?_
      refine R.asE rfl (by conv => lhs; whnf) ?_
      refine TL.nil (Post.thnN ?_)
      refine T.ret (Post.thnR ?_)
      -- way ny
      exact fin2 rfl rfl rfl ⟨rfl, _, by rw [lessR_b hs0 hin]; rfl, by rw [lessR_b hs0 hin]; exact RdS.nil⟩
    · have hin : m ∈ xs := anyD_mem.1 (by simpa using c20)
      refine T.skip (Post.thnN ?_)
      refine T.seq ?_
      refine T.region ?_
      refine R.mvE rfl (by conv => lhs; whnf) ?_
      refine TL.call [] rfl rfl rfl (cloneP22_c _ _ _ (hr.mono s5) (by omega)) ?_
      intro v22 H22 L22 s22 q22
      obtain ⟨c22, rfl, w22⟩ := q22
      refine R.mkf (cs := [_]) rfl rfl ?_
      refine TL.call [true] rfl rfl rfl (deleteFP_c _ _ _ xs c22 (fun y => decide (y = m)) w22 (fun H2 h2 y => dless1_c H2 b5 m y ((s22.trans h2) _ _ h5))) ?_
      intro v24 H24 L24 s24 q24
      obtain ⟨c24, rfl, w24⟩ := q24
      refine TL.shut .hd ?_
      intro HF24 sF24 qF24
      have f24 := w24.read sF24 qF24
      refine R.asE rfl (by conv => lhs; whnf) ?_
      refine TL.nil (Post.thnN ?_)
      refine T.seq ?_
      refine T.region ?_
      refine R.mvE rfl (by conv => lhs; whnf) ?_
      refine R.mvE rfl (by conv => lhs; whnf) ?_
      refine R.fldA Tryz.underlying45 rfl Tryz.sizeOf3 (by decide) rfl rfl ?_
      refine R.ldH Tryz.isAgg3 rfl rfl (((s22.trans (s24.trans sF24)) _ _ h5)) rfl ?_
      refine TL.call [] rfl rfl rfl (danew_c _ _ _ d (delL xs m) m.1 (hrd.mono (s5.trans (s22.trans (s24.trans sF24)))) f24 (del_acyc m hA) (by have := List.length_filter_le (fun y => !decide (y = m)) xs; unfold delL; omega) hld (by rw [hd]; exact less_keep m hA)) ?_
      intro v29 H29 L29 s29 q29
      obtain ⟨c29, rfl, w29⟩ := q29
      refine TL.shut .hd ?_
      intro HF29 sF29 qF29
      have f29 := w29.read sF29 qF29
      refine R.asE rfl (by conv => lhs; whnf) ?_
      refine R.asE rfl (by conv => lhs; whnf) ?_
      refine TL.nil (Post.thnN ?_)
      refine T.ret ?_
      -- way nn
      exact fin2 rfl rfl rfl ⟨rfl, _, by rw [lessR_c hs0 hin]; rfl, by rw [lessR_c hs0 hin]; exact f29⟩

end Go.SX

set_option linter.unusedVariables false
set_option linter.unusedSimpArgs false
namespace Go.SX
open Go Go.Proofs

set_option maxHeartbeats 1600000 in
theorem own17_c (H : Heap) (v : Value) (xs : List Lk) (hr : RdS pairE H v xs) : Fc Tryz.prog (fnv 11) [v] H [] (fun v' H' L' => ∃ c, L' = [c] ∧ OwnS pairE 45 H' v' (xs.take 22) c) := by
  refine Fc.of_body (N := 9) Tryz.func11 rfl (by kernel_rfl) rfl rfl ?_
  intro w0
  obtain ⟨A, c, rfl, hc1, hc2, hr⟩ := hr.shape
  have hm : min xs.length 22 ≤ xs.length := Nat.min_le_left _ _
  refine T.seq ?_
  refine T.region ?_
  refine R.asE rfl (by conv => lhs; whnf) ?_
  refine TL.nil (Post.thnN ?_)
  refine T.seq ?_
  refine T.region ?_
  refine R.mvE rfl (by conv => lhs; whnf) ?_
  refine R.mvE rfl (by conv => lhs; whnf) ?_
  refine R.len Tryz.underlying22 rfl rfl ?_
  refine R.min2 rfl rfl rfl ?_
  refine TL.set 6 (.int .i64 ((min xs.length 22 : Nat) : Int)) (congrArg _ (minN _ 22)) ?_
  refine R.sH Tryz.underlying22 Tryz.sizeOf45 rfl rfl rfl  (by omega) (by omega)  ?_
  refine TL.call [] rfl rfl rfl (cloneP22_c _ _ _ (hr.takeC hm hc1) (by simp; omega)) ?_
  intro v8 H8 L8 s8 q8
  obtain ⟨c8, rfl, w8⟩ := q8
  rw [Int.toNat_natCast, takeMin] at w8
  refine R.asE rfl (by conv => lhs; whnf) ?_
  refine TL.nil (Post.thnN ?_)
  refine T.ret ?_
  exact fin1L [c8] rfl rfl (List.Sublist.refl _) ⟨_, rfl, w8⟩


set_option maxHeartbeats 1600000 in
theorem small17_c (H : Heap) : Fp Tryz.prog (fnv 59) [] H (fun v' H' => RdS pairE H' v' smallD) := by
  refine Fc.of_body (N := 5) Tryz.func59 rfl (by kernel_rfl) rfl rfl ?_
  intro w0
  refine T.seq ?_
  refine T.region ?_
  refine R.asE rfl (by conv => lhs; whnf) ?_
  refine TL.nil (Post.thnN ?_)
  refine T.seq ?_
  refine T.region ?_
  refine R.bld (cs := [.int .i64 3, .int .i64 4]) rfl (fun _ => by kernel_rfl) ?_
  refine R.bld (cs := [.int .i64 3, .int .i64 5]) rfl (fun _ => by kernel_rfl) ?_
  refine R.bld (cs := [.int .i64 4, .int .i64 5]) rfl (fun _ => by kernel_rfl) ?_
  refine R.bs (e := 45) (cs := [.int .i64 3, .int .i64 4, .int .i64 3, .int .i64 5, .int .i64 4, .int .i64 5]) rfl (fun _ => by kernel_rfl) ?_
  intro b4
  refine TL.shut .hd ?_
  intro H4 s4 q4
  have l4 : RdS pairE H4 _ [(3, 4), (3, 5), (4, 5)] := RdS.litP [(3, 4), (3, 5), (4, 5)] q4 rfl
  refine R.asE rfl (by conv => lhs; whnf) ?_
  refine TL.nil (Post.thnN ?_)
  refine T.ret ?_
  exact fin1 rfl rfl ⟨rfl, l4⟩


set_option maxHeartbeats 1600000 in
theorem wakes17_c (H : Heap) : Fv Tryz.prog (fnv 10) [] H (.bool true) := by
  refine Fc.of_body (N := 60) Tryz.func10 rfl (by kernel_rfl) rfl rfl ?_
  intro w0
  refine T.seq ?_
  refine T.region ?_
  refine R.asE rfl (by conv => lhs; whnf) ?_
  refine TL.nil (Post.thnN ?_)
  refine T.seq ?_
  refine T.region ?_
  refine R.callp rfl rfl rfl (small17_c _) ?_
  intro v8 H8 s8 q8
  refine R.callp rfl rfl rfl (dOf_c _ _ smallD q8 (by decide)) ?_
  intro v9 H9 s9 q9
  rw [smallD_of] at q9
  obtain ⟨w9, rfl, g9⟩ := q9
  refine R.mvE rfl (by conv => lhs; whnf) ?_
  refine R.ext rfl rfl rfl ?_
  refine R.ext rfl rfl rfl ?_
  refine R.asE rfl (by conv => lhs; whnf) ?_
  refine R.asE rfl (by conv => lhs; whnf) ?_
  refine TL.nil (Post.thnN ?_)
  refine T.seq ?_
  refine T.region ?_
  refine R.mvE rfl (by conv => lhs; whnf) ?_
  refine R.callp rfl rfl rfl (small17_c _) ?_
  intro v14 H14 s14 q14
  refine R.bld (cs := [.int .i64 5, .int .i64 6]) rfl (fun _ => by kernel_rfl) ?_
  refine R.callp rfl rfl rfl (dmore_c _ _ _ [(3, 2), (4, 1)] smallD (5, 6) (g9.mono s14) q14 (by decide) (by decide)) ?_
  intro v16 H16 s16 q16
  rw [smallD_more] at q16
  obtain ⟨w16, rfl, g16⟩ := q16
  obtain ⟨A16, k16, rfl, m16, n16, g16⟩ := g16.shape
  refine R.mvE rfl (by conv => lhs; whnf) ?_
  refine R.ext rfl rfl rfl ?_
  refine R.ext rfl rfl rfl ?_
  refine R.asE rfl (by conv => lhs; whnf) ?_
  refine R.asE rfl (by conv => lhs; whnf) ?_
  refine TL.nil (Post.thnN ?_)
  refine T.seq ?_
  refine T.region ?_
  refine R.mvE rfl (by conv => lhs; whnf) ?_
  refine R.callp rfl rfl rfl (small17_c _) ?_
  intro v21 H21 s21 q21
  refine R.bld (cs := [.int .i64 5, .int .i64 3]) rfl (fun _ => by kernel_rfl) ?_
  refine R.callp rfl rfl rfl (dmore_c _ _ _ [(3, 2), (4, 1)] smallD (5, 3) (g9.mono (s14.trans (s16.trans s21))) q21 (by decide) (by decide)) ?_
  intro v23 H23 s23 q23
  rw [smallD_cyc] at q23
  obtain ⟨w23, rfl, g23⟩ := q23
  refine R.mvE rfl (by conv => lhs; whnf) ?_
  refine R.ext rfl rfl rfl ?_
  refine R.ext rfl rfl rfl ?_
  refine R.asE rfl (by conv => lhs; whnf) ?_
  refine R.asE rfl (by conv => lhs; whnf) ?_
  refine TL.nil (Post.thnN ?_)
  refine T.seq ?_
  refine T.region ?_
  refine R.mvE rfl (by conv => lhs; whnf) ?_
  refine R.eql rfl rfl rfl ?_
  refine R.mvE rfl (by conv => lhs; whnf) ?_
  refine TL.set 28 (.bool true) (by kernel_rfl) ?_
  refine R.mvE rfl (by conv => lhs; whnf) ?_
  refine R.eql rfl rfl rfl ?_
  refine R.pkTE rfl rfl (by conv => lhs; whnf) ?_
  refine R.mvE rfl (by conv => lhs; whnf) ?_
  refine TL.set 32 (.bool true) (by kernel_rfl) ?_
  refine R.mvE rfl (by conv => lhs; whnf) ?_
  refine R.eql rfl rfl rfl ?_
  refine R.pkTE rfl rfl (by conv => lhs; whnf) ?_
  refine R.mvE rfl (by conv => lhs; whnf) ?_
  refine TL.set 36 (.bool true) (by kernel_rfl) ?_
  refine R.mvE rfl (by conv => lhs; whnf) ?_
  refine R.bld (cs := [.int .i64 3, .int .i64 2]) rfl (fun _ => by kernel_rfl) ?_
  refine R.bld (cs := [.int .i64 4, .int .i64 1]) rfl (fun _ => by kernel_rfl) ?_
  refine R.bs (e := 29) (cs := [.int .i64 3, .int .i64 2, .int .i64 4, .int .i64 1]) rfl (fun _ => by kernel_rfl) ?_
  intro b40
  refine TL.shut .hd ?_
  intro H40 s40 q40
  have l40 : RdS pairE H40 _ [(3, 2), (4, 1)] := RdS.litP [(3, 2), (4, 1)] q40 rfl
  refine R.callv rfl rfl rfl (equalD_c _ _ _ _ _ (g9.mono (s14.trans (s16.trans (s21.trans (s23.trans s40))))) l40) ?_
  refine R.pkTE rfl rfl (by conv => lhs; whnf) ?_
  refine R.mvE rfl (by conv => lhs; whnf) ?_
  refine TL.set 43 (.bool true) (by kernel_rfl) ?_
  refine R.mvE rfl (by conv => lhs; whnf) ?_
  refine R.len Tryz.underlying23 rfl rfl ?_
  refine R.eql rfl rfl rfl ?_
  refine R.pkTE rfl rfl (by conv => lhs; whnf) ?_
  refine R.mvE rfl (by conv => lhs; whnf) ?_
  refine TL.set 48 (.bool true) (by kernel_rfl) ?_
  refine R.mvE rfl (by conv => lhs; whnf) ?_
  refine R.callv rfl rfl rfl (dAt_c _ _ [(3, 3), (4, 2), (5, 1)] 3 (g16.mono (s21.trans (s23.trans s40))) (by decide)) ?_
  refine R.eql rfl rfl rfl ?_
  refine R.pkTE rfl rfl (by conv => lhs; whnf) ?_
  refine R.mvE rfl (by conv => lhs; whnf) ?_
  refine TL.set 53 (.bool true) (by kernel_rfl) ?_
  refine R.mvE rfl (by conv => lhs; whnf) ?_
  refine R.bsN [_, _, _, _] rfl Tryz.underlying24 Tryz.sizeOf3 Tryz.zeroValue3 rfl rfl rfl rfl rfl rfl ?_
  intro b55
  refine TL.shut .hd ?_
  intro H55 s55 q55
  have l55 : RdS (intE .i64) H55 _ [3, 5, 4, 9] := RdS.litN [3, 5, 4, 9] q55 rfl
  refine TL.call [] rfl rfl rfl (dOrder_c _ _ _ [(3, 2), (4, 1)] [3, 5, 4, 9] (g9.mono (s14.trans (s16.trans (s21.trans (s23.trans (s40.trans s55)))))) (by decide) l55 (by decide)) ?_
  intro v56 H56 L56 s56 q56
  obtain ⟨c56, rfl, w56⟩ := q56
  refine TL.shut .hd ?_
  intro HF56 sF56 qF56
  have f56 := w56.read sF56 qF56
  refine R.bsN [_, _, _, _] rfl Tryz.underlying24 Tryz.sizeOf3 Tryz.zeroValue3 rfl rfl rfl rfl rfl rfl ?_
  intro b57
  refine TL.shut .hd ?_
  intro H57 s57 q57
  have l57 : RdS (intE .i64) H57 _ [5, 9, 4, 3] := RdS.litN [5, 9, 4, 3] q57 rfl
  refine R.callv rfl rfl rfl (equalI24_c _ _ _ _ [5, 9, 4, 3] (f56.mono s57) l57) ?_
  refine R.pkTE rfl rfl (by conv => lhs; whnf) ?_
  refine R.asE rfl (by conv => lhs; whnf) ?_
  refine TL.nil (Post.thnN ?_)
  refine T.ret ?_
  exact fin1 rfl rfl ⟨rfl, congrArg Value.bool (by kernel_rfl)⟩

end Go.SX

set_option linter.unusedVariables false
set_option linter.unusedSimpArgs false
namespace Go.SX
open Go Go.Proofs
def windroselaw17_DepthRises_l3 (a1 : Int × Int) (x20 : List (Int × Int)) (x23 : List (Int × Int)) : List (Int × Int) → Unit → LR (Bool) (Unit)
  | [], sl3 => .go ()
  | yl3 :: ysl3, sl3 => LR.seq (if yl3.2 < (if rightD x23 then atD x23 yl3.1 else (0 : Int)) then true else (if ((if rightD x23 then atD x23 yl3.1 else (0 : Int)) : Int) < yl3.2 then (if yl3.1 ≠ a1.1 then ((!(leadsR x20 yl3.1 a1.1))) else false) else false) : Bool) (fun sc4 => if sc4 = true then (.ret false) else (windroselaw17_DepthRises_l3 a1 x20 x23 ysl3 ()))
def windroselaw17_DepthRises_m (a0 : List (Int × Int)) (a1 : Int × Int) : Bool :=
  if ((ofDR (a0.take 22)).2 : Int) ≠ 0 then true else (if ((moreR (ofDR (a0.take 22)).1 (a0.take 22) a1).2 : Int) ≠ 0 then ((decide (((moreR (ofDR (a0.take 22)).1 (a0.take 22) a1).1.length : Int) = 0))) else (LR.seq (((ofR ((a0.take 22) ++ [a1])).1, (ofR ((a0.take 22) ++ [a1])).2) : (List (Int × Int)) × Int) (fun sc1 => LR.seq (if sc1.2 ≠ 0 then true else (if ((ofDR sc1.1).2 : Int) ≠ 0 then true else ((decide (¬ ((moreR (ofDR (a0.take 22)).1 (a0.take 22) a1).1 = (ofDR sc1.1).1))))) : Bool) (fun sc2 => if sc2 = true then false else (LR.on (windroselaw17_DepthRises_l3 a1 (a0.take 22) (ofDR (a0.take 22)).1 (moreR (ofDR (a0.take 22)).1 (a0.take 22) a1).1 ()) (fun r => r) (fun ol3 => if ((lessR (moreR (ofDR (a0.take 22)).1 (a0.take 22) a1).1 sc1.1 a1).2 : Int) = 0 then ((decide ((lessR (moreR (ofDR (a0.take 22)).1 (a0.take 22) a1).1 sc1.1 a1).1 = (ofDR (a0.take 22)).1))) else false))))))
set_option maxHeartbeats 3200000 in
theorem windroselaw17_DepthRises_c (H : Heap) (va0 : Value) (a0 : List (Int × Int)) (ha0 : RdS pairE H va0 a0) (a1 : Int × Int) : Fv Tryz.prog (fnv 7) [va0, .agg #[.int .i64 a1.1, .int .i64 a1.2]] H (.bool (windroselaw17_DepthRises_m a0 a1)) := by
  refine Fc.of_body (N := 117) Tryz.func7 rfl (by kernel_rfl) rfl rfl ?_
  intro w0
  obtain ⟨Aa0, ca0, rfl, hca0, hda0, ha0⟩ := ha0.shape
  refine T.seq ?_
  refine T.region ?_
  refine R.box rfl (by conv => lhs; whnf) ?_
  intro b3
  refine R.asE rfl (by conv => lhs; whnf) ?_
  refine TL.shut .hd ?_
  intro Hb3_41 sb3_41 qb3_41
  have hb3_41 : Hb3_41 b3 = some (.cells #[.int .i64 (a1.1), .int .i64 (a1.2)] 45) := shut1 qb3_41
  refine TL.nil (Post.thnN ?_)
  refine T.seq ?_
  refine T.seq ?_
  refine T.region ?_
  refine R.callv rfl rfl rfl (wakes17_c _) ?_
  refine R.not rfl rfl ?_
  refine TL.nil (Post.thnN ?_)
  refine T.condN rfl ?_
  refine T.skip (Post.thnN ?_)
  refine T.seq ?_
  refine T.region ?_
  refine R.mvE rfl (by conv => lhs; whnf) ?_
  refine TL.call [] rfl rfl rfl (own17_c _ _ a0 (ha0.mono sb3_41)) ?_
  intro v20 H20 L20 s20 q20
  obtain ⟨c20, rfl, w20⟩ := q20
  obtain ⟨x20, e20⟩ : ∃ x, x = (a0.take 22) := ⟨_, rfl⟩
  rw [← e20] at w20
  obtain ⟨A20, p20, rfl, m20, n20⟩ := OwnS.shape w20
  have t20 : x20.length ≤ 22 := by rw [e20, List.length_take]; omega
  refine R.asE rfl (by conv => lhs; whnf) ?_
  refine TL.nil (Post.thnN ?_)
  refine T.seq ?_
  refine T.region ?_
  refine R.mvE rfl (by conv => lhs; whnf) ?_
  refine TL.shut .hd ?_
  intro HF20_42 sF20_42 qF20_42
  have fF20_42 := OwnS.read w20 sF20_42 qF20_42
  refine R.callp rfl rfl rfl (dOf_c _ _ x20 fF20_42 (by first | omega | (simp; done) | (simp; omega) | (simp at *; omega))) ?_
  intro v23 H23 s23 q23
  obtain ⟨v23, rfl, w23⟩ := q23
  obtain ⟨x23, e23⟩ : ∃ x, x = (ofDR x20).1 := ⟨_, rfl⟩
  rw [← e23] at w23
  obtain ⟨A23, p23, rfl, m23, n23, w23⟩ := RdS.shape w23
  have t23 : x23.length ≤ x20.length := by rw [e23]; exact ofDR_len _
  refine R.mvE rfl (by conv => lhs; whnf) ?_
  refine R.ext rfl rfl rfl ?_
  refine R.ext rfl rfl rfl ?_
  refine R.asE rfl (by conv => lhs; whnf) ?_
  refine R.asE rfl (by conv => lhs; whnf) ?_
  refine TL.nil (Post.thnN ?_)
  refine T.seq ?_
  refine T.seq ?_
  refine T.region ?_
  refine R.mvE rfl (by conv => lhs; whnf) ?_
  refine R.neq rfl rfl rfl ?_
  refine TL.nil (Post.thnN ?_)
  refine T.condD rfl (fun c27 => ?_) (fun c27 => ?_)
  · refine T.set 27 (.bool true) (congrArg Value.bool (decide_eq_true c27)) ?_
    refine T.seq ?_
    refine T.region ?_
    refine R.asE rfl (by conv => lhs; whnf) ?_
    refine TL.nil (Post.thnN ?_)
    refine T.has Has.nil ?_
    refine T.ret (Post.thnR ?_)
    have hM : windroselaw17_DepthRises_m a0 a1 = true := by subst e23; subst e20; rw [windroselaw17_DepthRises_m, if_pos c27]
    exact fin1L (v := .bool true) [] rfl rfl (List.Sublist.refl _) ⟨rfl, by rw [hM]⟩
  · refine T.set 27 (.bool false) (congrArg Value.bool (decide_eq_false c27)) ?_
    refine T.skip (Post.thnN ?_)
    refine T.seq ?_
    refine T.region ?_
    refine R.mvE rfl (by conv => lhs; whnf) ?_
    refine R.mvE rfl (by conv => lhs; whnf) ?_
    refine R.ldXH (cs := [.int .i64 (a1.1), .int .i64 (a1.2)]) (l := [.int .i64 (a1.1), .int .i64 (a1.2)]) Tryz.isAgg45 Tryz.sizeOf45 rfl rfl ((s20.trans (sF20_42.trans s23)) _ _ hb3_41) rfl rfl ?_
    refine R.callp rfl rfl rfl (dmore_c _ _ _ x23 x20 a1 w23 (fF20_42.mono s23) (by first | omega | (simp; done) | (simp; omega) | (simp at *; omega)) (by first | omega | (simp; done) | (simp; omega) | (simp at *; omega))) ?_
    intro v32 H32 s32 q32
    obtain ⟨v32, rfl, w32⟩ := q32
    obtain ⟨x32, e32⟩ : ∃ x, x = (moreR x23 x20 a1).1 := ⟨_, rfl⟩
    rw [← e32] at w32
    obtain ⟨A32, p32, rfl, m32, n32, w32⟩ := RdS.shape w32
    have t32 : x32.length ≤ x20.length + 1 := by rw [e32]; exact moreR_len
    refine R.mvE rfl (by conv => lhs; whnf) ?_
    refine R.ext rfl rfl rfl ?_
    refine R.ext rfl rfl rfl ?_
    refine R.asE rfl (by conv => lhs; whnf) ?_
    refine R.asE rfl (by conv => lhs; whnf) ?_
    refine TL.nil (Post.thnN ?_)
    refine T.seq ?_
    refine T.seq ?_
    refine T.region ?_
    refine R.mvE rfl (by conv => lhs; whnf) ?_
    refine R.neq rfl rfl rfl ?_
    refine TL.nil (Post.thnN ?_)
    refine T.condD rfl (fun c36 => ?_) (fun c36 => ?_)
    · refine T.set 36 (.bool true) (congrArg Value.bool (decide_eq_true c36)) ?_
      refine T.seq ?_
      refine T.region ?_
      refine R.mvE rfl (by conv => lhs; whnf) ?_
      refine R.len Tryz.underlying23 rfl rfl ?_
      refine R.eql rfl rfl rfl ?_
      refine R.asE rfl (by conv => lhs; whnf) ?_
      refine TL.nil (Post.thnN ?_)
      refine T.has Has.nil ?_
      refine T.ret (Post.thnR ?_)
      have hM : windroselaw17_DepthRises_m a0 a1 = (decide ((x32.length : Int) = 0)) := by subst e32; subst e23; subst e20; rw [windroselaw17_DepthRises_m, if_neg c27, if_pos c36]
      exact fin1L (v := .bool (decide ((x32.length : Int) = 0))) [] rfl rfl (List.Sublist.refl _) ⟨rfl, by rw [hM]⟩
    · refine T.set 36 (.bool false) (congrArg Value.bool (decide_eq_false c36)) ?_
      refine T.skip (Post.thnN ?_)
      refine T.seq ?_
      refine T.cutK (ι := Value × (List (Int × Int)) × Int) (fun ⟨v9c1, x9c1, n10c1⟩ H' L' ds' => Has L' [] ∧ ds' = [] ∧ RdS pairE H' v9c1 x9c1 ∧ x9c1.length ≤ 30 ∧ (((ofR (x20 ++ [a1])).1, (ofR (x20 ++ [a1])).2) : (List (Int × Int)) × Int) = (x9c1, n10c1)) (fun ⟨v9c1, x9c1, n10c1⟩ => [(3, .pointer (some ⟨b3, 0, none⟩)), (5, .slice A20 x20.length p20), (6, .slice A23 x23.length p23), (8, .slice A32 x32.length p32), (9, v9c1), (10, .int .i64 n10c1)]) ?_ ?_
      · refine T.draw Tryz_mixed (by kernel_rfl) ?_
        refine Plan.v 0 [1, 2, 3, 4, 5, 6, 7, 8, 9, 10] (by kernel_rfl) (by kernel_rfl) (by kernel_rfl) (by kernel_rfl) rfl (fun _ _ h_ => R.mvE rfl (by conv => lhs; whnf) (TL.nil h_)) ?_
        refine Plan.v 2 [1, 3, 4, 5, 6, 7, 8, 9, 10] (by kernel_rfl) (by kernel_rfl) (by kernel_rfl) (by kernel_rfl) rfl (fun _ _ h_ => R.ldXH (cs := [.int .i64 (a1.1), .int .i64 (a1.2)]) (l := [.int .i64 (a1.1), .int .i64 (a1.2)]) Tryz.isAgg45 Tryz.sizeOf45 rfl rfl ((s20.trans (sF20_42.trans (s23.trans s32))) _ _ hb3_41) rfl rfl (TL.nil h_)) ?_
        refine Plan.s2 1 3 [3, 4, 5, 6, 7, 8, 9, 10] [1, 4, 5, 6, 7, 8, 9, 10] (by kernel_rfl) (by kernel_rfl) (by kernel_rfl) rfl rfl ?_ ?_
        · refine TL.call [] rfl rfl rfl (cloneP22_c _ _ x20 (fF20_42.mono (s23.trans s32)) (by first | omega | (simp; done) | (simp; omega) | (simp at *; omega))) ?_
          intro v42 H42 L42 s42 q42
          obtain ⟨c42, rfl, w42⟩ := q42
          obtain ⟨x42, e42⟩ : ∃ x, x = x20 := ⟨_, rfl⟩
          rw [← e42] at w42
          obtain ⟨A42, p42, rfl, m42, n42⟩ := OwnS.shape w42
          have t42 : x42.length = x20.length := by rw [e42]
          refine TL.nil (Plan.e1 (s42) ?_)
          refine Plan.s1 3 [4, 5, 6, 7, 8, 9, 10] (by kernel_rfl) (by kernel_rfl) rfl ?_
          refine R.bs (e := 45) (cs := [.int .i64 (a1.1), .int .i64 (a1.2)]) rfl (fun _ => by kernel_rfl) ?_
          intro b44
          have w44 : OwnS pairE 45 H42 (.slice (some ⟨b44, 0, none⟩) 1 1) [a1] [(b44, .cells #[.int .i64 (a1.1), .int .i64 (a1.2)] 45)] := OwnS.lit (xs := [a1]) (cellsOf_cons (a := [.int .i64 (a1.1), .int .i64 (a1.2)]) rfl cellsOf_nil) (by show 1 ≤ maxLen; decide)
          refine TL.nil (Plan.e1 (HLe.refl _) ?_)
          refine Plan.s1 4 [5, 6, 7, 8, 9, 10] (by kernel_rfl) (by kernel_rfl) rfl ?_
          obtain ⟨k45, y45, r45⟩ := Src.ownA w44
          refine R.app (E := pairE) (e := 45) (xs := x42) (ys := [a1]) Tryz_ty22 rfl rfl rfl w42 (.tl .hd) (r45 _ .hd) y45 (by (try simp only [List.length_append, List.length_cons, List.length_nil, List.length_replicate, List.length_take, List.length_drop]); omega) (by (try simp only [List.length_append, List.length_cons, List.length_nil, List.length_replicate, List.length_take, List.length_drop]); omega) ?_
          intro v45 c45 w45
          obtain ⟨A45, p45, rfl, m45, n45⟩ := OwnS.shape w45
          refine TL.del (.tl .hd) ?_
          refine TL.nil (Plan.e1 (HLe.refl _) ?_)
          refine Plan.s1 5 [6, 7, 8, 9, 10] (by kernel_rfl) (by kernel_rfl) rfl ?_
          refine TL.shut .hd ?_
          intro HF45_44 sF45_44 qF45_44
          have fF45_44 := OwnS.read w45 sF45_44 qF45_44
          refine R.callp rfl rfl rfl (of_c _ _ (x42 ++ [a1]) fF45_44 (by first | omega | (simp; done) | (simp; omega) | (simp at *; omega))) ?_
          intro v46 H46 s46 q46
          obtain ⟨v46, rfl, w46⟩ := q46
          obtain ⟨x46, e46⟩ : ∃ x, x = (ofR (x42 ++ [a1])).1 := ⟨_, rfl⟩
          rw [← e46] at w46
          obtain ⟨A46, p46, rfl, m46, n46, w46⟩ := RdS.shape w46
          have t46 : x46.length ≤ (x42 ++ [a1]).length := by rw [e46]; exact ofR_le _
          refine TL.nil (Plan.e1 ((sF45_44.trans s46)) ?_)
          refine Plan.v 6 [7, 8, 9, 10] (by kernel_rfl) (by kernel_rfl) (by kernel_rfl) (by kernel_rfl) rfl (fun _ _ h_ => R.mvE rfl (by conv => lhs; whnf) (TL.nil h_)) ?_
          refine Plan.v 7 [8, 9, 10] (by kernel_rfl) (by kernel_rfl) (by kernel_rfl) (by kernel_rfl) rfl (fun _ _ h_ => R.ext rfl rfl rfl (TL.nil h_)) ?_
          refine Plan.v 8 [9, 10] (by kernel_rfl) (by kernel_rfl) (by kernel_rfl) (by kernel_rfl) rfl (fun _ _ h_ => R.ext rfl rfl rfl (TL.nil h_)) ?_
          refine Plan.v 9 [10] (by kernel_rfl) (by kernel_rfl) (by kernel_rfl) (by kernel_rfl) rfl (fun _ _ h_ => R.asE rfl (by conv => lhs; whnf) (TL.nil h_)) ?_
          refine Plan.v 10 [] (by kernel_rfl) (by kernel_rfl) (by kernel_rfl) (by kernel_rfl) rfl (fun _ _ h_ => R.asE rfl (by conv => lhs; whnf) (TL.nil h_)) ?_
          refine Plan.done (Post.thnN ?_)
          exact ⟨(.slice A46 x46.length p46, x46, (ofR (x42 ++ [a1])).2), (s42.trans (sF45_44.trans s46)), ⟨Has.nil, rfl, w46, (by first | omega | (simp; done) | (simp; omega) | (simp at *; omega)), (by subst e46; subst e42; rfl)⟩, rfl, rfl, rfl, rfl, rfl, rfl, trivial⟩
        · refine R.bs (e := 45) (cs := [.int .i64 (a1.1), .int .i64 (a1.2)]) rfl (fun _ => by kernel_rfl) ?_
          intro b44
          have w44 : OwnS pairE 45 H32 (.slice (some ⟨b44, 0, none⟩) 1 1) [a1] [(b44, .cells #[.int .i64 (a1.1), .int .i64 (a1.2)] 45)] := OwnS.lit (xs := [a1]) (cellsOf_cons (a := [.int .i64 (a1.1), .int .i64 (a1.2)]) rfl cellsOf_nil) (by show 1 ≤ maxLen; decide)
          refine TL.nil (Plan.e1 (HLe.refl _) ?_)
          refine Plan.s1 1 [4, 5, 6, 7, 8, 9, 10] (by kernel_rfl) (by kernel_rfl) rfl ?_
          refine TL.call [] rfl rfl rfl (cloneP22_c _ _ x20 (fF20_42.mono (s23.trans s32)) (by first | omega | (simp; done) | (simp; omega) | (simp at *; omega))) ?_
          intro v42 H42 L42 s42 q42
          obtain ⟨c42, rfl, w42⟩ := q42
          obtain ⟨x42, e42⟩ : ∃ x, x = x20 := ⟨_, rfl⟩
          rw [← e42] at w42
          obtain ⟨A42, p42, rfl, m42, n42⟩ := OwnS.shape w42
          have t42 : x42.length = x20.length := by rw [e42]
          refine TL.nil (Plan.e1 (s42) ?_)
          refine Plan.s1 4 [5, 6, 7, 8, 9, 10] (by kernel_rfl) (by kernel_rfl) rfl ?_
          obtain ⟨k45, y45, r45⟩ := Src.ownA (OwnS.mono w44 s42)
          refine R.app (E := pairE) (e := 45) (xs := x42) (ys := [a1]) Tryz_ty22 rfl rfl rfl w42 .hd (r45 _ (.tl .hd)) y45 (by (try simp only [List.length_append, List.length_cons, List.length_nil, List.length_replicate, List.length_take, List.length_drop]); omega) (by (try simp only [List.length_append, List.length_cons, List.length_nil, List.length_replicate, List.length_take, List.length_drop]); omega) ?_
          intro v45 c45 w45
          obtain ⟨A45, p45, rfl, m45, n45⟩ := OwnS.shape w45
          refine TL.del (.tl .hd) ?_
          refine TL.nil (Plan.e1 (HLe.refl _) ?_)
          refine Plan.s1 5 [6, 7, 8, 9, 10] (by kernel_rfl) (by kernel_rfl) rfl ?_
          refine TL.shut .hd ?_
          intro HF45_46 sF45_46 qF45_46
          have fF45_46 := OwnS.read w45 sF45_46 qF45_46
          refine R.callp rfl rfl rfl (of_c _ _ (x42 ++ [a1]) fF45_46 (by first | omega | (simp; done) | (simp; omega) | (simp at *; omega))) ?_
          intro v46 H46 s46 q46
          obtain ⟨v46, rfl, w46⟩ := q46
          obtain ⟨x46, e46⟩ : ∃ x, x = (ofR (x42 ++ [a1])).1 := ⟨_, rfl⟩
          rw [← e46] at w46
          obtain ⟨A46, p46, rfl, m46, n46, w46⟩ := RdS.shape w46
          have t46 : x46.length ≤ (x42 ++ [a1]).length := by rw [e46]; exact ofR_le _
          refine TL.nil (Plan.e1 ((sF45_46.trans s46)) ?_)
          refine Plan.v 6 [7, 8, 9, 10] (by kernel_rfl) (by kernel_rfl) (by kernel_rfl) (by kernel_rfl) rfl (fun _ _ h_ => R.mvE rfl (by conv => lhs; whnf) (TL.nil h_)) ?_
          refine Plan.v 7 [8, 9, 10] (by kernel_rfl) (by kernel_rfl) (by kernel_rfl) (by kernel_rfl) rfl (fun _ _ h_ => R.ext rfl rfl rfl (TL.nil h_)) ?_
          refine Plan.v 8 [9, 10] (by kernel_rfl) (by kernel_rfl) (by kernel_rfl) (by kernel_rfl) rfl (fun _ _ h_ => R.ext rfl rfl rfl (TL.nil h_)) ?_
          refine Plan.v 9 [10] (by kernel_rfl) (by kernel_rfl) (by kernel_rfl) (by kernel_rfl) rfl (fun _ _ h_ => R.asE rfl (by conv => lhs; whnf) (TL.nil h_)) ?_
          refine Plan.v 10 [] (by kernel_rfl) (by kernel_rfl) (by kernel_rfl) (by kernel_rfl) rfl (fun _ _ h_ => R.asE rfl (by conv => lhs; whnf) (TL.nil h_)) ?_
          refine Plan.done (Post.thnN ?_)
          exact ⟨(.slice A46 x46.length p46, x46, (ofR (x42 ++ [a1])).2), (s42.trans (sF45_46.trans s46)), ⟨Has.nil, rfl, w46, (by first | omega | (simp; done) | (simp; omega) | (simp at *; omega)), (by subst e46; subst e42; rfl)⟩, rfl, rfl, rfl, rfl, rfl, rfl, trivial⟩
      · intro ⟨v9c1, x9c1, n10c1⟩ σ_c1 H_c1 L_c1 ds_c1 s_c1 hI_c1
        obtain ⟨hLc1, rfl, w9c1, hBc1_0, hTc1⟩ := hI_c1
        obtain ⟨A9c1, p9c1, rfl, m9c1, n9c1_, w9c1⟩ := RdS.shape w9c1
        refine T.has hLc1 ?_
        refine T.seq ?_
        refine T.region ?_
        refine R.mvE rfl (by conv => lhs; whnf) ?_
        refine R.callp rfl rfl rfl (dOf_c _ _ x9c1 w9c1 (by first | omega | (simp; done) | (simp; omega) | (simp at *; omega))) ?_
        intro v51 H51 s51 q51
        obtain ⟨v51, rfl, w51⟩ := q51
        obtain ⟨x51, e51⟩ : ∃ x, x = (ofDR x9c1).1 := ⟨_, rfl⟩
        rw [← e51] at w51
        obtain ⟨A51, p51, rfl, m51, n51, w51⟩ := RdS.shape w51
        have t51 : x51.length ≤ x9c1.length := by rw [e51]; exact ofDR_len _
        refine R.mvE rfl (by conv => lhs; whnf) ?_
        refine R.ext rfl rfl rfl ?_
        refine R.ext rfl rfl rfl ?_
        refine R.asE rfl (by conv => lhs; whnf) ?_
        refine R.asE rfl (by conv => lhs; whnf) ?_
        refine TL.nil (Post.thnN ?_)
        refine T.seq ?_
        refine T.seq ?_
        refine T.cutK (ι := Bool) (fun b65c2 H' L' ds' => Has L' [] ∧ ds' = [] ∧ (if n10c1 ≠ 0 then true else (if ((ofDR x9c1).2 : Int) ≠ 0 then true else ((decide (¬ (x32 = x51))))) : Bool) = b65c2) (fun b65c2 => [(3, .pointer (some ⟨b3, 0, none⟩)), (5, .slice A20 x20.length p20), (6, .slice A23 x23.length p23), (8, .slice A32 x32.length p32), (9, .slice A9c1 x9c1.length p9c1), (65, .bool (b65c2))]) ?_ ?_
        · refine T.region ?_
          refine R.mvE rfl (by conv => lhs; whnf) ?_
          refine R.neq rfl rfl rfl ?_
          refine R.mvE rfl (by conv => lhs; whnf) ?_
          refine TL.gsplitD 56 rfl (fun g56 => ?_) (fun g56 => ?_)
          · refine TL.off rfl rfl rfl ?_
            refine TL.off rfl rfl rfl ?_
            refine R.pkTE rfl rfl (by conv => lhs; whnf) ?_
            refine R.mvE rfl (by conv => lhs; whnf) ?_
            refine TL.off rfl rfl rfl ?_
            refine TL.off rfl rfl rfl ?_
            refine TL.off rfl rfl rfl ?_
            refine TL.off rfl rfl rfl ?_
            refine R.pkTE rfl rfl (by conv => lhs; whnf) ?_
            refine TL.nil (Post.thnN ?_)
            exact ⟨true, HLe.refl _, ⟨Has.nil, rfl, (by rw [if_pos g56])⟩, rfl, rfl, rfl, rfl, rfl, rfl, trivial⟩
          · refine R.mvE rfl (by conv => lhs; whnf) ?_
            refine R.neq rfl rfl rfl ?_
            refine R.pkFE rfl rfl (by conv => lhs; whnf) ?_
            refine R.mvE rfl (by conv => lhs; whnf) ?_
            refine TL.gsplitD 60 rfl (fun g60 => ?_) (fun g60 => ?_)
            · refine TL.off rfl rfl rfl ?_
              refine TL.off rfl rfl rfl ?_
              refine TL.off rfl rfl rfl ?_
              refine TL.off rfl rfl rfl ?_
              refine R.pkTE rfl rfl (by conv => lhs; whnf) ?_
              refine TL.nil (Post.thnN ?_)
              exact ⟨true, HLe.refl _, ⟨Has.nil, rfl, (by rw [if_neg g56, if_pos g60])⟩, rfl, rfl, rfl, rfl, rfl, rfl, trivial⟩
            · refine R.mvE rfl (by conv => lhs; whnf) ?_
              refine R.mvE rfl (by conv => lhs; whnf) ?_
              refine R.callv rfl rfl rfl (equalD_c _ _ _ x32 x51 (w32.mono (s_c1.trans s51)) w51) ?_
              refine R.notD rfl rfl ?_
              refine R.pkFE rfl rfl (by conv => lhs; whnf) ?_
              refine TL.nil (Post.thnN ?_)
              exact ⟨(decide (¬ (x32 = x51))), HLe.refl _, ⟨Has.nil, rfl, (by rw [if_neg g56, if_neg g60])⟩, rfl, rfl, rfl, rfl, rfl, rfl, trivial⟩
        · intro b65c2 σ_c2 H_c2 L_c2 ds_c2 s_c2 hI_c2
          obtain ⟨hLc2, rfl, hTc2⟩ := hI_c2
          refine T.has hLc2 ?_
          refine T.cond rfl (fun c65 => ?_) (fun c65 => ?_)
          · refine T.set 65 (.bool true) (congrArg Value.bool c65) ?_
            refine T.seq ?_
            refine T.region ?_
            refine R.asE rfl (by conv => lhs; whnf) ?_
            refine TL.nil (Post.thnN ?_)
            refine T.has Has.nil ?_
            refine T.ret (Post.thnR ?_)
            have hM : windroselaw17_DepthRises_m a0 a1 = false := by subst e51; subst e32; subst e23; subst e20; rw [windroselaw17_DepthRises_m, if_neg c27, if_neg c36, hTc1, LR.seq_go, hTc2, LR.seq_go, if_t c65]
            exact fin1L (v := .bool false) [] rfl rfl (List.Sublist.refl _) ⟨rfl, by rw [hM]⟩
          · refine T.set 65 (.bool false) (congrArg Value.bool c65) ?_
            refine T.skip (Post.thnN ?_)
            refine T.seq ?_
            refine T.seq ?_
            refine T.region ?_
            refine R.mvE rfl (by conv => lhs; whnf) ?_
            refine R.len Tryz.underlying23 rfl rfl ?_
            refine R.mvE rfl (by conv => lhs; whnf) ?_
            refine TL.nil (Post.thnN ?_)
            refine T.block ?_
            refine T.loop (ι := Nat) (fun kl3 H' L' ds' => kl3 ≤ x32.length ∧ Has L' [] ∧ ds' = [] ∧ windroselaw17_DepthRises_l3 a1 x20 x23 (x32.drop kl3) () = windroselaw17_DepthRises_l3 a1 x20 x23 x32 ()) (fun kl3 => [(68, .int .i64 (kl3 : Int)), (3, .pointer (some ⟨b3, 0, none⟩)), (5, .slice A20 x20.length p20), (6, .slice A23 x23.length p23), (8, .slice A32 x32.length p32), (9, .slice A9c1 x9c1.length p9c1), (66, .slice A32 x32.length p32), (67, .int .i64 (x32.length : Int))]) (fun kl3 => x32.length - kl3) 0 ?_ ?_ ?_
            · exact ⟨(by omega), Has.nil, rfl, (by rfl)⟩
            · exact ⟨rfl, rfl, rfl, rfl, rfl, rfl, rfl, rfl, trivial⟩
            · intro kl3 σ_l3 H_l3 L_l3 ds_l3 s_l3 hI_l3
              obtain ⟨hkl3, hI_l3⟩ := hI_l3
              obtain ⟨hLl3, rfl, hQl3⟩ := hI_l3
              refine T.has hLl3 ?_
              refine T.seq ?_
              refine T.region ?_
              refine R.lss rfl rfl rfl ?_
              refine TL.nil (Post.thnN ?_)
              refine T.seq ?_
              refine T.condD rfl (fun c69 => ?_) (fun c69 => ?_)
              · have hltl3 : kl3 < x32.length := by omega
                obtain ⟨yl3, hyl3⟩ := getk (xs := x32) (k := kl3) (by omega)
                refine T.skip (Post.thnN ?_)
                refine T.seq ?_
                refine T.block ?_
                refine T.seq ?_
                refine T.region ?_
                obtain ⟨b70, o70, i70, e70⟩ := RdS.elem (w32.mono (s_c1.trans (s51.trans (s_c2.trans s_l3)))) hyl3
                obtain ⟨l70, g70, k70⟩ := e70
                obtain rfl : l70 = [.int .i64 (yl3.1), .int .i64 (yl3.2)] := g70
                refine R.ixp Tryz.underlying23 Tryz.sizeOf29 rfl rfl rfl (by omega) i70 ?_
                refine R.ldK (l := [.int .i64 (yl3.1), .int .i64 (yl3.2)]) Tryz.isAgg29 Tryz.sizeOf29 rfl rfl k70 rfl ?_
                refine R.alloc Tryz.zeroValue29 rfl ?_
                intro b14
                refine R.stX (old := [.int .i64 0, .int .i64 0]) (l := [.int .i64 (yl3.1), .int .i64 (yl3.2)]) (new := [.int .i64 (yl3.1), .int .i64 (yl3.2)]) (et := 29) Tryz.sizeOf29 rfl rfl rfl rfl rfl (by decide) rfl (all_one rfl) .hd ?_
                refine TL.shut .hd ?_
                intro Hb14_47 sb14_47 qb14_47
                have hb14_47 : Hb14_47 b14 = some (.cells #[.int .i64 (yl3.1), .int .i64 (yl3.2)] 29) := shut1 qb14_47
                refine TL.nil (Post.thnN ?_)
                refine T.seq ?_
                refine T.region ?_
                refine R.mvE rfl (by conv => lhs; whnf) ?_
                refine R.fldA Tryz.underlying29 rfl Tryz.sizeOf3 (by decide) rfl rfl ?_
                refine R.ldH Tryz.isAgg3 rfl rfl hb14_47 rfl ?_
                refine R.callv rfl rfl rfl (dAt_c _ _ x23 yl3.1 (w23.mono (s32.trans (s_c1.trans (s51.trans (s_c2.trans (s_l3.trans sb14_47)))))) (by first | omega | (simp; done) | (simp; omega) | (simp at *; omega))) ?_
                refine R.asE rfl (by conv => lhs; whnf) ?_
                refine TL.nil (Post.thnN ?_)
                refine T.seq ?_
                refine T.cutK (ι := Bool) (fun b101c4 H' L' ds' => Has L' [] ∧ ds' = [] ∧ (if yl3.2 < (if rightD x23 then atD x23 yl3.1 else (0 : Int)) then true else (if ((if rightD x23 then atD x23 yl3.1 else (0 : Int)) : Int) < yl3.2 then (if yl3.1 ≠ a1.1 then ((!(leadsR x20 yl3.1 a1.1))) else false) else false) : Bool) = b101c4) (fun b101c4 => [(3, .pointer (some ⟨b3, 0, none⟩)), (5, .slice A20 x20.length p20), (6, .slice A23 x23.length p23), (8, .slice A32 x32.length p32), (9, .slice A9c1 x9c1.length p9c1), (66, .slice A32 x32.length p32), (67, .int .i64 (x32.length : Int)), (68, .int .i64 (kl3 : Int)), (101, .bool (b101c4))]) ?_ ?_
                · refine T.region ?_
                  refine R.fldA Tryz.underlying29 rfl Tryz.sizeOf3 (by decide) rfl rfl ?_
                  refine R.ldH Tryz.isAgg3 rfl rfl hb14_47 rfl ?_
                  refine R.mvE rfl (by conv => lhs; whnf) ?_
                  refine R.lss rfl rfl rfl ?_
                  refine R.mvE rfl (by conv => lhs; whnf) ?_
                  refine TL.gsplitD 80 rfl (fun g80 => ?_) (fun g80 => ?_)
                  · refine TL.off rfl rfl rfl ?_
                    refine TL.off rfl rfl rfl ?_
                    refine TL.off rfl rfl rfl ?_
                    refine TL.off rfl rfl rfl ?_
                    refine TL.off rfl rfl rfl ?_
                    refine TL.offU rfl rfl ?_
                    refine TL.offU rfl rfl ?_
                    refine TL.offU rfl rfl ?_
                    refine TL.offU rfl rfl ?_
                    refine TL.offU rfl rfl ?_
                    refine TL.off rfl rfl rfl ?_
                    refine TL.off rfl rfl rfl ?_
                    refine TL.offU rfl rfl ?_
                    refine TL.offU rfl rfl ?_
                    refine TL.offU rfl rfl ?_
                    refine TL.offU rfl rfl ?_
                    refine TL.offU rfl rfl ?_
                    refine TL.offU rfl rfl ?_
                    refine TL.offU rfl rfl ?_
                    refine TL.off rfl rfl rfl ?_
                    refine R.pkTE rfl rfl (by conv => lhs; whnf) ?_
                    refine TL.nil (Post.thnN ?_)
                    exact ⟨true, HLe.refl _, ⟨Has.nil, rfl, (by rw [if_pos g80])⟩, rfl, rfl, rfl, rfl, rfl, rfl, rfl, rfl, rfl, trivial⟩
                  · refine R.fldA Tryz.underlying29 rfl Tryz.sizeOf3 (by decide) rfl rfl ?_
                    refine R.ldH Tryz.isAgg3 rfl rfl hb14_47 rfl ?_
                    refine R.mvE rfl (by conv => lhs; whnf) ?_
                    refine R.gtr rfl rfl rfl ?_
                    refine R.mvE rfl (by conv => lhs; whnf) ?_
                    refine TL.gsplitD 85 rfl (fun g85 => ?_) (fun g85 => ?_)
                    · refine R.fldA Tryz.underlying29 rfl Tryz.sizeOf3 (by decide) rfl rfl ?_
                      refine R.ldH Tryz.isAgg3 rfl rfl hb14_47 rfl ?_
                      refine R.fldA Tryz.underlying45 rfl Tryz.sizeOf3 (by decide) rfl rfl ?_
                      refine R.ldH Tryz.isAgg3 rfl rfl ((s20.trans (sF20_42.trans (s23.trans (s32.trans (s_c1.trans (s51.trans (s_c2.trans (s_l3.trans sb14_47)))))))) _ _ hb3_41) rfl ?_
                      refine R.neq rfl rfl rfl ?_
                      refine R.pkTE rfl rfl (by conv => lhs; whnf) ?_
                      refine R.mvE rfl (by conv => lhs; whnf) ?_
                      refine TL.gsplitD 92 rfl (fun g92 => ?_) (fun g92 => ?_)
                      · refine R.mvE rfl (by conv => lhs; whnf) ?_
                        refine R.fldA Tryz.underlying29 rfl Tryz.sizeOf3 (by decide) rfl rfl ?_
                        refine R.ldH Tryz.isAgg3 rfl rfl hb14_47 rfl ?_
                        refine R.fldA Tryz.underlying45 rfl Tryz.sizeOf3 (by decide) rfl rfl ?_
                        refine R.ldH Tryz.isAgg3 rfl rfl ((s20.trans (sF20_42.trans (s23.trans (s32.trans (s_c1.trans (s51.trans (s_c2.trans (s_l3.trans sb14_47)))))))) _ _ hb3_41) rfl ?_
                        refine R.callv rfl rfl rfl (leads_c _ _ x20 yl3.1 (fF20_42.mono (s23.trans (s32.trans (s_c1.trans (s51.trans (s_c2.trans (s_l3.trans sb14_47))))))) (by first | omega | (simp; done) | (simp; omega) | (simp at *; omega)) a1.1) ?_
                        refine R.not rfl rfl ?_
                        refine R.pkTE rfl rfl (by conv => lhs; whnf) ?_
                        refine R.pkFE rfl rfl (by conv => lhs; whnf) ?_
                        refine TL.nil (Post.thnN ?_)
                        exact ⟨(!(leadsR x20 yl3.1 a1.1)), HLe.refl _, ⟨Has.nil, rfl, (by rw [if_neg g80, if_pos g85, if_pos g92])⟩, rfl, rfl, rfl, rfl, rfl, rfl, rfl, rfl, rfl, trivial⟩
                      · refine TL.off rfl rfl rfl ?_
                        refine TL.off rfl rfl rfl ?_
                        refine TL.off rfl rfl rfl ?_
                        refine TL.off rfl rfl rfl ?_
                        refine TL.off rfl rfl rfl ?_
                        refine TL.off rfl rfl rfl ?_
                        refine TL.off rfl rfl rfl ?_
                        refine R.pkFE rfl rfl (by conv => lhs; whnf) ?_
                        refine R.pkFE rfl rfl (by conv => lhs; whnf) ?_
                        refine TL.nil (Post.thnN ?_)
                        exact ⟨false, HLe.refl _, ⟨Has.nil, rfl, (by rw [if_neg g80, if_pos g85, if_neg g92])⟩, rfl, rfl, rfl, rfl, rfl, rfl, rfl, rfl, rfl, trivial⟩
                    · refine TL.off rfl rfl rfl ?_
                      refine TL.off rfl rfl rfl ?_
                      refine TL.off rfl rfl rfl ?_
                      refine TL.off rfl rfl rfl ?_
                      refine TL.off rfl rfl rfl ?_
                      refine R.pkFE rfl rfl (by conv => lhs; whnf) ?_
                      refine R.mvE rfl (by conv => lhs; whnf) ?_
                      refine TL.off rfl rfl rfl ?_
                      refine TL.off rfl rfl rfl ?_
                      refine TL.off rfl rfl rfl ?_
                      refine TL.off rfl rfl rfl ?_
                      refine TL.off rfl rfl rfl ?_
                      refine TL.off rfl rfl rfl ?_
                      refine TL.off rfl rfl rfl ?_
                      refine R.pkFE rfl rfl (by conv => lhs; whnf) ?_
                      refine R.pkFE rfl rfl (by conv => lhs; whnf) ?_
                      refine TL.nil (Post.thnN ?_)
                      exact ⟨false, HLe.refl _, ⟨Has.nil, rfl, (by rw [if_neg g80, if_neg g85])⟩, rfl, rfl, rfl, rfl, rfl, rfl, rfl, rfl, rfl, trivial⟩
                · intro b101c4 σ_c4 H_c4 L_c4 ds_c4 s_c4 hI_c4
                  obtain ⟨hLc4, rfl, hTc4⟩ := hI_c4
                  refine T.has hLc4 ?_
                  refine T.cond rfl (fun c101 => ?_) (fun c101 => ?_)
                  · refine T.set 101 (.bool true) (congrArg Value.bool c101) ?_
                    refine T.seq ?_
                    refine T.region ?_
                    refine R.asE rfl (by conv => lhs; whnf) ?_
                    refine TL.nil (Post.thnN ?_)
                    refine T.has Has.nil ?_
                    refine T.ret (Post.blkR (Post.thnR (Post.thnR (Post.blkR (Post.thnR ?_)))))
                    have hXl3 : windroselaw17_DepthRises_l3 a1 x20 x23 x32 () = .ret false := by rw [← hQl3, drop_cons hyl3, windroselaw17_DepthRises_l3]; rw [hTc4, LR.seq_go, if_t c101]
                    have hM : windroselaw17_DepthRises_m a0 a1 = false := by subst e51; subst e32; subst e23; subst e20; rw [windroselaw17_DepthRises_m, if_neg c27, if_neg c36, hTc1, LR.seq_go, hTc2, LR.seq_go, if_f c65, hXl3, LR.on_ret]
                    exact fin1L (v := .bool false) [] rfl rfl (List.Sublist.refl _) ⟨rfl, by rw [hM]⟩
                  · refine T.set 101 (.bool false) (congrArg Value.bool c101) ?_
                    refine T.skip (Post.blkN ?_)
                    refine id (Post.thnN ?_)
                    refine T.region ?_
                    refine R.addI rfl rfl rfl (by omega) ?_
                    refine R.mvE rfl (by conv => lhs; whnf) ?_
                    refine TL.nil (Post.thnN ?_)
                    exact ⟨kl3 + 1, (s_l3.trans (sb14_47.trans s_c4)), ⟨(by omega), Has.nil, rfl, (by rw [← hQl3, drop_cons hyl3, windroselaw17_DepthRises_l3]; rw [hTc4, LR.seq_go, if_f c101])⟩, by show x32.length - (kl3 + 1) < x32.length - kl3; omega, rfl, rfl, rfl, rfl, rfl, rfl, rfl, rfl, trivial⟩
              · refine T.exit (Post.thnE (Post.thnE (Post.blkX ?_)))
                have hEl3 : windroselaw17_DepthRises_l3 a1 x20 x23 x32 () = .go () := (hQl3.symm.trans (by rw [show kl3 = x32.length by omega, List.drop_length, windroselaw17_DepthRises_l3]))
                refine id (Post.thnN ?_)
                refine T.seq ?_
                refine T.region ?_
                refine R.mvE rfl (by conv => lhs; whnf) ?_
                refine R.mvE rfl (by conv => lhs; whnf) ?_
                refine R.ldXH (cs := [.int .i64 (a1.1), .int .i64 (a1.2)]) (l := [.int .i64 (a1.1), .int .i64 (a1.2)]) Tryz.isAgg45 Tryz.sizeOf45 rfl rfl ((s20.trans (sF20_42.trans (s23.trans (s32.trans (s_c1.trans (s51.trans (s_c2.trans s_l3))))))) _ _ hb3_41) rfl rfl ?_
                refine R.callp rfl rfl rfl (dless_c _ _ _ x32 x9c1 a1 (w32.mono (s_c1.trans (s51.trans (s_c2.trans s_l3)))) (w9c1.mono (s51.trans (s_c2.trans s_l3))) (by first | omega | (simp; done) | (simp; omega) | (simp at *; omega)) (by first | omega | (simp; done) | (simp; omega) | (simp at *; omega))) ?_
                intro v107 H107 s107 q107
                obtain ⟨v107, rfl, w107⟩ := q107
                obtain ⟨x107, e107⟩ : ∃ x, x = (lessR x32 x9c1 a1).1 := ⟨_, rfl⟩
                rw [← e107] at w107
                obtain ⟨A107, p107, rfl, m107, n107, w107⟩ := RdS.shape w107
                have t107 : x107.length ≤ x9c1.length + 1 := by rw [e107]; exact lessR_len
                refine R.mvE rfl (by conv => lhs; whnf) ?_
                refine R.ext rfl rfl rfl ?_
                refine R.ext rfl rfl rfl ?_
                refine R.asE rfl (by conv => lhs; whnf) ?_
                refine R.asE rfl (by conv => lhs; whnf) ?_
                refine TL.nil (Post.thnN ?_)
                refine T.seq ?_
                refine T.region ?_
                refine R.mvE rfl (by conv => lhs; whnf) ?_
                refine R.eql rfl rfl rfl ?_
                refine R.mvE rfl (by conv => lhs; whnf) ?_
                refine TL.gsplitD 112 rfl (fun g112 => ?_) (fun g112 => ?_)
                · refine R.mvE rfl (by conv => lhs; whnf) ?_
                  refine R.mvE rfl (by conv => lhs; whnf) ?_
                  refine R.callv rfl rfl rfl (equalD_c _ _ _ x107 x23 w107 (w23.mono (s32.trans (s_c1.trans (s51.trans (s_c2.trans (s_l3.trans s107))))))) ?_
                  refine R.pkTE rfl rfl (by conv => lhs; whnf) ?_
                  refine R.asE rfl (by conv => lhs; whnf) ?_
                  refine TL.nil (Post.thnN ?_)
                  refine T.has Has.nil ?_
                  refine T.ret ?_
                  have hM : windroselaw17_DepthRises_m a0 a1 = (decide (x107 = x23)) := by subst e107; subst e51; subst e32; subst e23; subst e20; rw [windroselaw17_DepthRises_m, if_neg c27, if_neg c36, hTc1, LR.seq_go, hTc2, LR.seq_go, if_f c65, hEl3, LR.on_go, if_pos g112]
                  exact fin1L (v := .bool (decide (x107 = x23))) [] rfl rfl (List.Sublist.refl _) ⟨rfl, by rw [hM]⟩
                · refine TL.off rfl rfl rfl ?_
                  refine TL.off rfl rfl rfl ?_
                  refine TL.off rfl rfl rfl ?_
                  refine R.pkFE rfl rfl (by conv => lhs; whnf) ?_
                  refine R.asE rfl (by conv => lhs; whnf) ?_
                  refine TL.nil (Post.thnN ?_)
                  refine T.has Has.nil ?_
                  refine T.ret ?_
                  have hM : windroselaw17_DepthRises_m a0 a1 = false := by subst e107; subst e51; subst e32; subst e23; subst e20; rw [windroselaw17_DepthRises_m, if_neg c27, if_neg c36, hTc1, LR.seq_go, hTc2, LR.seq_go, if_f c65, hEl3, LR.on_go, if_neg g112]
                  exact fin1L (v := .bool false) [] rfl rfl (List.Sublist.refl _) ⟨rfl, by rw [hM]⟩

end Go.SX

set_option linter.unusedVariables false
set_option linter.unusedSimpArgs false
namespace Go.SX
open Go
theorem depthRises_l (x : List Lk) (m : Lk) (hA : Acyc x) (hl : x.length ≤ 900) (hm : linkB m = true) (hn : (decide (m.1 = m.2) || leadsR x m.2 m.1) = false) : ∀ (ns : List Lk) (u : Unit), (∀ y ∈ ns, y ∈ ofD (ofP (x ++ [m]))) → windroselaw17_DepthRises_l3 m x (ofD x) ns u = .go ()
  | [], _, _ => rfl
  | y :: ys, u, h => by
    rw [windroselaw17_DepthRises_l3]
    have h1 := rises_at hA hl hm hn (h y (List.mem_cons_self ..))
    have h2 := depthRises_l x m hA hl hm hn ys u (fun z hz => h z (List.mem_cons_of_mem _ hz))
    have hat : (if rightD (ofD x) then atD (ofD x) y.1 else (0 : Int)) = depL x y.1 := by rw [if_pos (ofD_right hA), at_ofD hA]
    simp only [LR.seq, hat]
    rw [if_neg h1.1]
    have : (if depL x y.1 < y.2 then (if y.1 ≠ m.1 then (!(leadsR x y.1 m.1)) else false) else false) = false := by
      split
      · rename_i h3
        split
        · rename_i h4; rw [h1.2 h3 h4]; rfl
        · rfl
      · rfl
    rw [this]
    simp [h2]
theorem depthRises_true (a0 : List Lk) (m : Lk) : windroselaw17_DepthRises_m a0 m = true := by
  unfold windroselaw17_DepthRises_m
  have hl : (a0.take 22).length ≤ 22 := by rw [List.length_take]; omega
  generalize a0.take 22 = x at hl ⊢
  by_cases h : (ofDR x).2 = 0
  · rw [if_neg (fun e => e h)]
    obtain ⟨hA, he⟩ := ofDR_ok h
    by_cases h2 : (moreR (ofDR x).1 x m).2 = 0
    · rw [if_neg (fun e => e h2)]
      obtain ⟨h3, h4, h5⟩ := moreR_right h2
      have hm := (sameR_ok h3).2.2
      simp only [LR.seq]
      rw [more_of hA (by omega) hm]
      have hA2 := more_acyc hA (by omega) hm h5
      rw [moreR_d h3 h4 h5, (ofDR_c hA2), ofDR_c hA]
      simp only [ne_eq, not_true_eq_false, if_false, decide_false, Bool.false_eq_true]
      rw [depthRises_l x m hA (by omega) hm h5 _ _ (fun y hy => hy), LR.on_go, less_back hA (by omega) hm h4 h5]
      simp
    · rw [if_pos h2, moreR_no h2]; rfl
  · rw [if_pos h]
end Go.SX

set_option linter.unusedVariables false
set_option linter.unusedSimpArgs false
namespace Go.SX
open Go Go.ChangeShapes Go.WideShapes Go.ChangeAt Go.RowKit

/-- All that stands in a world's memory can be read. -/
def heapOf (W : World) : Heap := fun b => W.heap[b]?
theorem sat_heapOf (W : World) : Sat (heapOf W) [] W := ⟨fun _ _ h => h, fun p h => (by cases h), List.nodup_nil, fun p h => (by cases h)⟩

/-- A contract of a function that hands back v, at a world. -/
theorem calls_of_Fv {P : Program} {f : FuncId} {fn : Func} {c : Code} {vs : List Value} {v : Value} {W : World} (hf : P.funcs[f]? = some fn) (hb : fn.body = some c) (hname : (fn.name == "runtime.NumGoroutine") = false)
    (h : Fv P (fnv f) vs (heapOf W) v) : Calls P f vs.toArray W fun e W' => e = .returned v ∧ Below W.heap.size W W' := by
  obtain ⟨nx, w1, h1, h2⟩ := h W (sat_heapOf W)
  have he := Go.Proofs.enters_of (P := P) hf hname hb vs.toArray W
  have hrun : Sem.run P (do let d ← Deferred.ofValue (fnv f) vs.toArray; invoke d.target d.args) W = .ok (.enter f vs.toArray) W := by
    simp [Deferred.ofValue, invoke, he]
  rw [hrun] at h1
  injection h1 with h1 h3
  subst h1; subst h3
  refine callsIn_wide.1 (CallsIn.mono h2 ?_)
  rintro e w' ⟨u, H', L', rfl, hst, rfl, rfl⟩
  exact ⟨rfl, hst.chg.os, hst.chg.tape, hst.chg.output, hst.chg.size, fun b hb => hst.chg.same b hb (by simp [keys])⟩

section
variable {H : Type} {enc : TypeId × Value → H} {P : Program}

theorem trodAll_below (hl : laidOutB P = true) {W W' : World} (hb : Below W.heap.size W W') {sp : Nat → Bool} : ∀ {ts : List TypeId} {vs : List Value} {ds : List (DataW H)} {p : List MemPlace},
    (∀ t ∈ ts, P.readableRec t = true ∧ t < P.types.size) → DataW.TrodAll enc P W 0 (fun _ => true) true ts vs ds p → (∀ q ∈ p, q.block < W.heap.size ∧ sp q.block = true) → DataW.TrodAll enc P W' 0 sp true ts vs ds p
  | [], _, _, _, _, h, _ => by
    obtain ⟨rfl, rfl, rfl⟩ := trodAll_nil h
    exact trodAll_mk0
  | t :: ts, _, _, _, ht, h, hp => by
    obtain ⟨v, vs, d, ds, a, b, rfl, rfl, rfl, h1, h2⟩ := trodAll_cons h
    have h3 := WideElems.Trod_stays (sp' := sp) hl (ht t (List.mem_cons_self ..)).1 (ht t (List.mem_cons_self ..)).2 h1 (fun x hx => hb.same (hp x (List.mem_append_left _ hx)).1) (fun x hx => (hp x (List.mem_append_left _ hx)).2)
    exact ⟨a, b, h3, trodAll_below hl hb (fun t' h' => ht t' (List.mem_cons_of_mem _ h')) h2 (fun x hx => hp x (List.mem_append_right _ hx)), rfl⟩

/-- What is asked behind a call that turned nothing of what there was, and says true. -/
theorem post_true {f : Func} {s : ChangeSpec} {fresh handsOn again : Bool} {W W' : World} {args : Array Value} {ds gs : List (DataW H)} {before : List MemPlace} {tb : TypeId} (hl : laidOutB P = true)
    (hW : DataW.Whole enc P f.params.toList s.vars false W args.toList ds gs before) (hvars : s.vars = []) (hpar : ∀ t ∈ f.params.toList, P.readableRec t = true ∧ t < P.types.size)
    (hs : s.fn H (ds ++ gs) = { results := [.lit (.bool true)], args := ds }) (hrt : f.resultTypes = #[tb]) (htb : P.underlying tb = some .bool) (hb : Below W.heap.size W W') :
    s.post enc P f false fresh handsOn again W args (.bool true) W' := by
  have hlt := hW.lt
  have hW0 := hW
  obtain ⟨p, q, hA, hV, rfl, hfz, hnd⟩ := hW
  rw [hvars] at hV
  obtain ⟨rfl, rfl⟩ := trodVars_none hV
  rw [List.append_nil] at hfz hlt
  have hres : ∀ (b : Nat) (sp : Nat → Bool) (hd : Bool), DataW.TrodAll enc P W' b sp hd f.resultTypes.toList ((Value.bool true).resultList f.resultTypes.size) [.lit (.bool true)] [] := by
    intro b sp hd
    rw [hrt]
    exact trodAll_mk1 (shut_bool htb true)
  have hargs : ∀ sp : Nat → Bool, (∀ x ∈ p, sp x.block = true) → DataW.TrodAll enc P W' 0 sp true f.params.toList args.toList ds p := fun sp hsp =>
    trodAll_below hl hb hpar hA (fun x hx => ⟨hlt x hx, hsp x hx⟩)
  have hvr : ∀ sp : Nat → Bool, DataW.TrodVars enc P W' sp s.vars ([] : List (DataW H)) [] := fun sp => by rw [hvars]; rfl
  refine ⟨ds, [], p ++ [], [], p, [], hW0, ?_, ?_, ?_, World.keptBut_mono (fun x hx => ⟨hx, ?_⟩) (hb.frame (· ∈ p ++ [])), fun _ => ?_⟩
  · rw [hs]; exact hres _ _ _
  · rw [hs]; exact hargs _ (fun x hx => by simpa using hlt x hx)
  · rw [hs]; exact hvr _
  · exact Or.inr (by simpa using hx)
  · refine ⟨ok_one hrt rfl (okWide_bool_mk htb true), _, _, ([] ++ p) ++ [], ⟨[] ++ p, [], trodAll_append (hargs _ (fun _ _ => rfl)) (hres _ _ _), hvr _, rfl, ?_, fun h => by cases h⟩, ?_⟩
    · intro b off hp
      have hp' : MemPlace.cell b off ∈ p := by simpa using hp
      have := hb.frozen (p := ⟨b, off, none⟩) (hlt _ hp')
      rw [this]
      exact hfz b off hp'
    · intro x hx _
      simpa using hx

theorem cellAt_heapOf {W : World} {b o : Nat} {v : Value} (h : W.cell? ⟨b, o, none⟩ = some v) : cellAt (heapOf W) b o = some v := by
  unfold World.cell? at h
  unfold cellAt heapOf
  simp only at h
  revert h
  cases hb : W.heap[b]? with
  | none => intro h; simp at h
  | some ob => cases ob <;> intro h <;> simp_all

end
end Go.SX

set_option linter.unusedVariables false
set_option linter.unusedSimpArgs false
namespace Go.SX
open Go Go.ChangeShapes Go.WideShapes Go.ChangeAt Go.RowKit Go.Deep
/-- What can be read at the type stands as E says. -/
def Opn (P : Program) (t : TypeId) {α : Type} (E : ER α) (Q : α → Prop) : Prop :=
  ∀ (H : Type) (enc : TypeId × Value → H) (W : World) (sp : Nat → Bool) (hd : Bool) (n : Nat) (cs : List Value) (x : DataW H × List MemPlace), DataW.trod enc P W 0 sp hd n t cs = some x → ∃ a, E.R (heapOf W) cs a ∧ Q a
theorem Opn.int {P : Program} {t : TypeId} {k : IntKind} (ht : P.underlying t = some (.int k)) : Opn P t (intE k) (fun x => (Lit.int k x).wf = true) := fun H enc W sp hd n cs x h => by
  obtain ⟨n, rfl, _, hw⟩ := DataW.trod_int ht h
  exact ⟨n, rfl, hw⟩
theorem Opn.bool {P : Program} {t : TypeId} (ht : P.underlying t = some .bool) : Opn P t boolE (fun _ => True) := fun H enc W sp hd n cs x h => by
  obtain ⟨b, rfl, _⟩ := DataW.trod_bool ht h
  exact ⟨b, rfl, trivial⟩
theorem Opn.weak {P : Program} {t : TypeId} {α : Type} {E : ER α} {Q Q' : α → Prop} (h : Opn P t E Q) (hq : ∀ a, Q a → Q' a) : Opn P t E Q' := fun H enc W sp hd n cs x hx => by
  obtain ⟨a, h1, h2⟩ := h H enc W sp hd n cs x hx
  exact ⟨a, h1, hq a h2⟩
/-- A struct of two ints. -/
theorem Opn.pair {P : Program} {t i : TypeId} {f0 f1 : Field} (ht : P.underlying t = some (.struct #[f0, f1])) (ct : P.cellsOf t = 2) (o0 : f0.offset = 0) (o1 : f1.offset = 1) (t0 : f0.type = i) (t1 : f1.type = i)
    (hi : P.underlying i = some (.int .i64)) (ci : P.cellsOf i = 1) : Opn P t pairE (fun _ => True) := fun H enc W sp hd n cs x h => by
  obtain ⟨xs, m, _, _, hl, hxl, hf⟩ := DataW.trod_struct ht h
  rw [ct] at hl
  match cs, hl, xs, hxl with
  | [v0, v1], _, [y0, y1], _ =>
    have g0 := hf 0 f0 rfl
    have g1 := hf 1 f1 rfl
    rw [o0, t0, ci] at g0
    rw [o1, t1, ci] at g1
    simp at g0 g1
    obtain ⟨a, ha, _⟩ := DataW.trod_int hi g0
    obtain ⟨b, hb, _⟩ := DataW.trod_int hi g1
    simp at ha hb
    subst ha; subst hb
    exact ⟨(a, b), rfl, trivial⟩
/-- An array of two ints. -/
theorem Opn.two {P : Program} {t i : TypeId} (ht : P.underlying t = some (.array 2 i)) (ct : P.cellsOf t = 2) (hi : P.underlying i = some (.int .i64)) (ci : P.cellsOf i = 1) : Opn P t pairE (fun _ => True) := fun H enc W sp hd n cs x h => by
  obtain ⟨xs, m, _, _, hl, hxl, hf⟩ := DataW.trod_array ht h
  rw [ct] at hl
  match cs, hl, xs, hxl with
  | [v0, v1], _, [y0, y1], _ =>
    have g0 := hf 0 (by omega)
    have g1 := hf 1 (by omega)
    rw [ci] at g0 g1
    simp at g0 g1
    obtain ⟨a, ha, _⟩ := DataW.trod_int hi g0
    obtain ⟨b, hb, _⟩ := DataW.trod_int hi g1
    simp at ha hb
    subst ha; subst hb
    exact ⟨(a, b), rfl, trivial⟩
/-- A slice. -/
theorem Opn.slice {P : Program} {t e : TypeId} {α : Type} {E : ER α} {Q : α → Prop} (ht : P.underlying t = some (.slice e)) (hc : P.cellsOf e = E.size) (he : Opn P e E Q) (hs : 0 < E.size) : Opn P t (slE E) (fun xs => ∀ x ∈ xs, Q x) := fun H enc W sp hd n cs x h => by
  rcases open_slice ht h with ⟨rfl, _⟩ | ⟨a, len, cap, m, n', D, Pl, rfl, _, hl, hm, hmm, _, hx⟩
  · exact ⟨[], ⟨_, rfl, RdS.nil⟩, fun x hx => by simp at hx⟩
  · have key : ∀ i, i < len → ∃ x, (∃ b o, a = ⟨b, o, none⟩ ∧ ElemAt E (heapOf W) b (o + i * E.size) x) ∧ Q x := fun i hi => by
      obtain ⟨cs', h1, h2⟩ := hx i (by rw [hmm]; split <;> omega)
      obtain ⟨x, h3, h4⟩ := he H enc W sp hd n' cs' _ h2
      refine ⟨x, ?_, h4⟩
      rw [hc] at h1
      obtain ⟨_, hlen, hcell⟩ := World.cells?_some h1
      obtain ⟨ab, ao, asp⟩ := a
      cases asp with
      | none =>
        refine ⟨ab, ao, rfl, cs', h3, fun j u hj => ?_⟩
        have hjl : j < E.size := by rw [← hlen]; exact (List.getElem?_eq_some_iff.1 hj).1
        have h5 := hcell j hjl
        rw [hj, add_add, Addr.add_lit] at h5
        have := cellAt_heapOf h5
        rw [show ao + i * E.size + j = ao + (i * E.size + j) by omega]
        exact this
      | some s =>
        exfalso
        obtain ⟨cs0, k1, _⟩ := hx 0 (by rw [hmm]; split <;> omega)
        rw [hc, Nat.zero_mul, Addr.add_zero'] at k1
        obtain ⟨_, klen, kcell⟩ := World.cells?_some k1
        have h5 := kcell 0 hs
        rw [Addr.add_zero'] at h5
        obtain ⟨u, hu⟩ : ∃ u, cs0[0]? = some u := ⟨cs0[0], List.getElem?_eq_getElem (by omega)⟩
        rw [hu] at h5
        unfold World.cell? at h5
        revert h5
        cases hb : W.heap[ab]? with
        | none => intro h; simp [hb] at h
        | some ob => cases ob <;> intro h <;> simp [hb] at h
    obtain ⟨f, hf⟩ : ∃ f : Nat → Option α, ∀ i, i < len → ∃ x, f i = some x ∧ (∃ b o, a = ⟨b, o, none⟩ ∧ ElemAt E (heapOf W) b (o + i * E.size) x) ∧ Q x := by
      classical
      refine ⟨fun i => if hi : i < len then some (Classical.choose (key i hi)) else none, fun i hi => ?_⟩
      exact ⟨_, dif_pos hi, Classical.choose_spec (key i hi)⟩
    have hxs : ∀ n, n ≤ len → ∃ xs : List α, xs.length = n ∧ ∀ i, i < n → xs[i]? = f i := fun n => by
      induction n with
      | zero => exact fun _ => ⟨[], rfl, fun i hi => absurd hi (Nat.not_lt_zero _)⟩
      | succ n ih =>
        intro hn
        obtain ⟨xs, h1, h2⟩ := ih (by omega)
        obtain ⟨x, h3, _⟩ := hf n (by omega)
        refine ⟨xs ++ [x], by simp [h1], fun i hi => ?_⟩
        by_cases h : i < n
        · rw [List.getElem?_append_left (by omega)]; exact h2 i h
        · obtain rfl : i = n := by omega
          rw [List.getElem?_append_right (by omega), h1, Nat.sub_self, h3]; rfl
    obtain ⟨xs, h1, h2⟩ := hxs len (Nat.le_refl _)
    subst h1
    refine ⟨xs, ⟨_, rfl, some a, cap, rfl, hl, hm, fun i x hx => ?_⟩, fun x hx => ?_⟩
    · have hi : i < xs.length := (List.getElem?_eq_some_iff.1 hx).1
      obtain ⟨y, h3, ⟨b, o, h4, h5⟩, _⟩ := hf i hi
      rw [h2 i hi, h3] at hx
      injection hx with hx
      subst hx
      exact ⟨b, o, by rw [h4], h5⟩
    · obtain ⟨i, hi, rfl⟩ := List.mem_iff_getElem.1 hx
      obtain ⟨y, h3, _, h4⟩ := hf i hi
      have := h2 i hi
      rw [h3, List.getElem?_eq_getElem hi] at this
      injection this with this
      rw [this]; exact h4
section
variable {P : Program} {H : Type} {enc : TypeId × Value → H} {W : World} {r : Reach} {b0 : Nat} {t : TypeId} {v : Value} {d : DataW H} {p : List MemPlace} {α : Type} {E : ER α} {Q : α → Prop}
/-- A slice that is handed in. -/
theorem open_sl {e : TypeId} (ht : P.underlying t = some (.slice e)) (ho : Opn P t (slE E) (fun xs => ∀ x ∈ xs, Q x)) (hval : Value.okWide P W r b0 t v) (h : DataW.Trod enc P W 0 (fun _ => true) true t v d p) :
    ∃ xs : List α, RdS E (heapOf W) v xs ∧ ∀ x ∈ xs, Q x := by
  obtain ⟨a0, len, cap, rfl⟩ := okWide_slice ht hval
  obtain ⟨n, hn⟩ := h
  obtain ⟨xs, ⟨u, h1, h2⟩, h3⟩ := ho H enc W _ _ n _ _ hn
  have : Value.slice a0 len cap = u := by simpa [Value.cells] using h1
  rw [this]
  exact ⟨xs, h2, h3⟩
/-- A struct, or an array, that is handed in. -/
theorem open_agg (hu : (∃ fs, P.underlying t = some (.struct fs)) ∨ ∃ n e, P.underlying t = some (.array n e)) (ho : Opn P t E Q) (hval : Value.okWide P W r b0 t v) (h : DataW.Trod enc P W 0 (fun _ => true) true t v d p) :
    ∃ cs a, v = .agg cs ∧ E.R (heapOf W) cs.toList a ∧ Q a := by
  have hv : ∃ cs, v = .agg cs := by
    unfold Value.okWide at hval
    rcases hu with ⟨fs, hu⟩ | ⟨n, e, hu⟩
    · rw [hu] at hval; obtain ⟨cs, h1, _⟩ := hval; exact ⟨cs, h1⟩
    · rw [hu] at hval; obtain ⟨cs, h1, _⟩ := hval; exact ⟨cs, h1⟩
  obtain ⟨cs, rfl⟩ := hv
  obtain ⟨n, hn⟩ := h
  obtain ⟨a, h1, h2⟩ := ho H enc W _ _ n _ _ hn
  exact ⟨cs, a, rfl, h1, h2⟩
theorem agg_pair {cs : Array Value} {a : Int × Int} {H : Heap} (h : pairE.R H cs.toList a) : cs = #[.int .i64 a.1, .int .i64 a.2] := by
  have h' : cs.toList = [.int .i64 a.1, .int .i64 a.2] := h
  exact Array.toList_inj.1 h'
end
end Go.SX

set_option linter.unusedVariables false
namespace Go.Proofs.YtfidlmknejooeaaGreat
open Go.ChangeShapes Go.WideShapes Go.ChangeAt Go.RowKit Go.SX

theorem depthRises_own : ownKnob Tryz.prog.godebug = none := by kernel_rfl
theorem depthRises_laid : laidOutB Tryz.prog = true := by kernel_rfl

set_option maxRecDepth 100000 in
theorem depthRises_lifted (os : Os) (started : os.Started) (H : Type) (enc : TypeId × Value → H) :
    ReturnsInHanded {} Tryz.checked os 7 .any (Rows.depthRisesSpec.pre6 enc Tryz.prog Tryz.f7 Rows.depthRisesRow.domain false) (Rows.depthRisesSpec.post enc Tryz.prog Tryz.f7 false true false false) := by
  refine returnsInHanded_of_change (C := Tryz.checked) depthRises_own started (by kernel_rfl) Tryz.func7
    (ChangeSpec.witness6 (enc := enc) (C := Tryz.checked) false ⟨#[], #[.slice none 0 0, .agg #[.int .i64 0, .int .i64 0]], []⟩ 8 (by kernel_rfl) (by kernel_rfl) (by kernel_rfl) (by kernel_rfl)) ?_
  intro W base args ds gs before hval0 hW hcnd _
  have hval : ∀ (j : Nat) t v, Tryz.f7.params[j]? = some t → args[j]? = some v → Value.okWide Tryz.prog W .any base t v := hval0
  have hW' := hW
  obtain ⟨p, q, hA0, hV, rfl, hfz, hnd⟩ := hW
  have hA : DataW.TrodAll enc Tryz.prog W 0 (fun _ => true) true Tryz.f7.params.toList args.toList ds p := hA0
  rw [Tryz.params7] at hA hval
  clear hA0 hval0
  obtain ⟨v0, vs0, d0, ds0, p0, q0, e0, rfl, rfl, h0, r0⟩ := trodAll_cons hA
  obtain ⟨v1, vs1, d1, ds1, p1, q1, e1, rfl, rfl, h1, r1⟩ := trodAll_cons r0
  subst e1
  obtain ⟨e2, rfl, rfl⟩ := trodAll_nil r1
  subst e2
  obtain rfl : args = #[v0, v1] := by cases args; simp_all
  obtain ⟨rfl, rfl⟩ := trodVars_none hV
  obtain ⟨xs0, hr0, hw0⟩ := open_sl Tryz.underlying22 (Opn.slice Tryz.underlying22 (by kernel_rfl) (Opn.pair Tryz.underlying45 (by kernel_rfl) rfl rfl rfl rfl Tryz.underlying3 (by kernel_rfl)) (by decide)) (hval 0 22 v0 rfl rfl) h0
  obtain ⟨cs1, x1, rfl, hx1, hw1⟩ := open_agg (.inl ⟨_, Tryz.underlying45⟩) (Opn.pair Tryz.underlying45 (by kernel_rfl) rfl rfl rfl rfl Tryz.underlying3 (by kernel_rfl)) (hval 1 45 v1 rfl rfl) h1
  obtain rfl := agg_pair hx1
  have hpar : ∀ t ∈ Tryz.f7.params.toList, Tryz.prog.readableRec t = true ∧ t < Tryz.prog.types.size := by
    intro t ht
    rw [Tryz.params7] at ht
    simp only [List.mem_cons, List.not_mem_nil, or_false] at ht
    rcases ht with rfl | rfl
    · exact ⟨by kernel_rfl, of_decide_eq_true (by kernel_rfl)⟩
    · exact ⟨by kernel_rfl, of_decide_eq_true (by kernel_rfl)⟩
  refine (calls_of_Fv Tryz.func7 rfl (by kernel_rfl) (Fv.to (windroselaw17_DepthRises_c _ _ xs0 hr0 x1) (congrArg Value.bool (depthRises_true xs0 x1)))).mono fun e W' ⟨he, hb⟩ => ?_
  subst he
  exact ⟨_, rfl, post_true depthRises_laid hW' rfl hpar rfl rfl Tryz.underlying4 hb⟩

theorem depthRises_holds : Rows.DepthRisesSaid :=
  OpenClaim.holds_of_wide 7 Tryz.f7 rfl rfl rfl rfl rfl rfl rfl ⟨rfl, rfl, rfl, rfl, rfl⟩ rfl rfl rfl rfl rfl (by kernel_rfl) Tryz.func7 (by kernel_rfl)
    (of_decide_eq_true (by kernel_rfl)) (by unfold Func.isWrapper; first | (rw [if_pos (by decide +kernel)]; kernel_rfl) | (rw [if_neg (by decide +kernel)]; exact ⟨rfl, rfl⟩))
    (fun os started H enc _ => depthRises_lifted os started H enc)
end Go.Proofs.YtfidlmknejooeaaGreat
