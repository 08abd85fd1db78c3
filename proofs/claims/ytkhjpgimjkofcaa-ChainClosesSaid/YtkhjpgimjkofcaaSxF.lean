/- SX: the library's sort by a comparison, at pairs of one's own. -/
import Derived.Test.YtkhjpgimjkofcaaSxD
import Derived.Test.YtkhjpgimjkofcaaSxS
import Derived.Shelf.SlSortCmp.NoneTotal
import Derived.Deep.Draws
set_option linter.unusedVariables false
set_option linter.unusedSimpArgs false
namespace Go.SX
open Go Go.Sort Go.Proofs
attribute [local semireducible] T TL
def encP (x : Int × Int) : List Value := [.int .i64 x.1, .int .i64 x.2]
theorem grown_eq {W w' : World} (hos : w'.os = W.os) (ht : w'.tape = W.tape) (ho : w'.output = W.output) (hd : W.drawn ≤ w'.drawn) (hs : W.heap.size ≤ w'.heap.size) (hsame : ∀ b, b < W.heap.size → w'.heap[b]? = W.heap[b]?) :
    w' = grow (W.drewN (w'.drawn - W.drawn)) (w'.heap.extract W.heap.size w'.heap.size) := by
  have hh : w'.heap = W.heap ++ w'.heap.extract W.heap.size w'.heap.size := by
    apply Array.ext_getElem?
    intro i
    by_cases hi : i < W.heap.size
    · rw [Array.getElem?_append_left hi]; exact hsame i hi
    · rw [Array.getElem?_append_right (by omega), Array.getElem?_extract]
      by_cases h2 : i < w'.heap.size
      · rw [if_pos (by omega)]; congr 1; omega
      · rw [if_neg (by omega)]; exact Array.getElem?_eq_none (by omega)
  cases w' with
  | mk heap tape drawn os output =>
    cases W with
    | mk heap0 tape0 drawn0 os0 output0 =>
      simp only at hos ht ho hd hh
      subst hos; subst ht; subst ho
      unfold grow World.drewN
      simp only [World.mk.injEq, true_and, and_true]
      exact ⟨hh, by omega⟩
theorem cmp_lays {P : Program} {g : FuncId} {fn : Func} {cd : Code} (hf : P.funcs[g]? = some fn) (hb : fn.body = some cd) (hname : (fn.name == "runtime.NumGoroutine") = false) {cf : (Int × Int) → (Int × Int) → Int}
    (h : ∀ (H : Heap) (a b : Int × Int), Fv P (fnv g) [.agg #[.int .i64 a.1, .int .i64 a.2], .agg #[.int .i64 b.1, .int .i64 b.2]] H (.int .i64 (cf a b))) (blk off size : Nat) (w : World) : CmpLays P g #[] encP 2 cf blk off size w := by
  intro m os dk _ x y
  generalize sortWorldK encP 2 w blk off m dk os = W
  obtain ⟨nx, w1, h1, h2⟩ := h (fun _ => none) x y W ⟨fun b o hb => (by cases hb), fun p hp => (by cases hp), List.nodup_nil, fun p hp => (by cases hp)⟩
  have he := Go.Proofs.enters_of (P := P) hf hname hb #[.agg #[.int .i64 x.1, .int .i64 x.2], .agg #[.int .i64 y.1, .int .i64 y.2]] W
  have hrun : Sem.run P (do let d ← Deferred.ofValue (fnv g) [.agg #[.int .i64 x.1, .int .i64 x.2], .agg #[.int .i64 y.1, .int .i64 y.2]].toArray; invoke d.target d.args) W = .ok (.enter g #[.agg #[.int .i64 x.1, .int .i64 x.2], .agg #[.int .i64 y.1, .int .i64 y.2]]) W := by
    simp [Deferred.ofValue, invoke, he]
  rw [hrun] at h1
  injection h1 with h1 h3
  subst h1; subst h3
  have e : (#[.agg (encP x).toArray, .agg (encP y).toArray] ++ #[] : Array Value) = #[.agg #[.int .i64 x.1, .int .i64 x.2], .agg #[.int .i64 y.1, .int .i64 y.2]] := by simp [encP]
  rw [e]
  refine callsIn_wide.1 (CallsIn.mono h2 ?_)
  rintro e w' ⟨u, H', L', rfl, hst, rfl, rfl⟩
  exact ⟨rfl, _, _, grown_eq hst.chg.os hst.chg.tape hst.chg.output hst.chg.drawn hst.chg.size (fun b hb => hst.chg.same b hb (by simp [keys]))⟩
def sortP (cf : (Int × Int) → (Int × Int) → Int) (xs : List (Int × Int)) : List (Int × Int) := xs.mergeSort (fun x y => !(ltOf cf) y x)
theorem sortP_perm (cf : (Int × Int) → (Int × Int) → Int) (xs : List (Int × Int)) : (sortP cf xs).Perm xs := List.mergeSort_perm _ _
theorem flat_get (xs : List (Int × Int)) (i j : Nat) (x : Int × Int) (u : Value) (hx : xs[i]? = some x) (hu : (encP x)[j]? = some u) : i * 2 + j < (flatK encP 2 xs.toArray).size ∧ (flatK encP 2 xs.toArray)[i * 2 + j]! = u := by
  have hi := (List.getElem?_eq_some_iff.1 hx)
  have hj : j < 2 := by have := (List.getElem?_eq_some_iff.1 hu).1; simpa [encP] using this
  have hi1 := hi.1
  have hlt : i * 2 + j < xs.toArray.size * 2 := by simp; omega
  refine ⟨by rw [size_flatK]; exact hlt, ?_⟩
  rw [get_flatK _ _ _ _ hlt, show (i * 2 + j) / 2 = i by omega, show (i * 2 + j) % 2 = j by omega]
  have e1 : xs.toArray[i]! = x := by
    rw [getElem!_pos xs.toArray i (by simpa using hi.1)]; simpa using hi.2
  rw [e1]
  rw [List.getElem!_eq_getElem?_getD, hu]; rfl
theorem sortF_fc {P : Program} {f g : FuncId} {fn : Func} {cd : Code} {e : TypeId} (hf : P.funcs[f]? = some fn) (hb : fn.body = some cd) (hname : (fn.name == "runtime.NumGoroutine") = false) {cf : (Int × Int) → (Int × Int) → Int}
    (hcon : ∀ (blk off cap : Nat) (d : Array (Int × Int)) (w : World), HoldsK encP 2 w blk off d → blk < w.heap.size → d.size < 4611686018427387904 →
      Calls P f #[.slice (some ⟨blk, off, none⟩) d.size cap, .func (.func g) #[] #[]] w fun e w' => e = .returned (.tuple #[]) ∧ ∃ n os, w' = sortWorldK encP 2 w blk off n (d.toList.mergeSort fun x y => !(ltOf cf) y x).toArray os)
    (hnone : ∀ (p : Option Addr) (cap : Nat) (fv : Value) (w : World), Calls P f #[.slice p 0 cap, fv] w fun e w' => e = .returned (.tuple #[]) ∧ w' = w)
    {H : Heap} {v : Value} {xs : List (Int × Int)} {c : Chunk} (ho : OwnS pairE e H v xs c) (hl : xs.length ≤ 1099511627776) :
    Fc P (fnv f) [v, fnv g] H [c] (fun _ H' L' => H' = H ∧ ∃ c', L' = [c'] ∧ OwnS pairE e H v (sortP cf xs) c') := by
  intro w hs
  by_cases hne : xs = []
  · obtain ⟨A, cap, rfl, _, _⟩ := ho.shape
    subst hne
    have he := Go.Proofs.enters_of (P := P) hf hname hb #[.slice A 0 cap, fnv g] w
    refine ⟨.enter f #[.slice A 0 cap, fnv g], w, by simp [Deferred.ofValue, invoke, he], ?_⟩
    refine CallsIn.mono (callsIn_wide.2 (hnone A cap (fnv g) w)) ?_
    rintro e' w' ⟨rfl, rfl⟩
    exact ⟨_, H, [c], rfl, St.init hs, rfl, c, rfl, by simpa [sortP] using ho⟩
  rcases ho with ⟨_, h, _⟩ | ⟨b, cap, cs, rfl, rfl, h3, h4, h5, h6⟩
  · exact absurd h hne
  have hs' : Sat H [(b, .cells cs e)] w := by simpa using hs
  have hbl := hs'.l (b, .cells cs e) (List.mem_singleton.2 rfl)
  simp only at hbl
  have hcs : cs.size = cap * 2 := h5
  have hcell : ∀ (i j : Nat) x u, xs[i]? = some x → (encP x)[j]? = some u → cs[i * 2 + j]? = some u := fun i j x u hx hu => by
    obtain ⟨l, h7, h8⟩ := h6 i x hx
    obtain rfl : l = encP x := h7
    exact h8 j u hu
  have hH : HoldsK encP 2 w b 0 xs.toArray := by
    intro t ht
    have ht2 : t < xs.length * 2 := by simpa using ht
    have hx := List.getElem?_eq_getElem (l := xs) (i := t / 2) (by omega)
    have hj : t % 2 < 2 := Nat.mod_lt _ (by omega)
    have hj2 : t % 2 < (encP xs[t / 2]).length := by simpa [encP] using hj
    obtain ⟨u, hu⟩ : ∃ u, (encP xs[t / 2])[t % 2]? = some u := ⟨_, List.getElem?_eq_getElem hj2⟩
    have h7 := (flat_get xs (t / 2) (t % 2) _ u hx hu).2
    have h8 := hcell (t / 2) (t % 2) _ u hx hu
    rw [show t / 2 * 2 + t % 2 = t by omega] at h7 h8
    refine ⟨?_, by simp [World.frozen?, hbl]⟩
    rw [h7, Nat.zero_add]
    exact cell_of_heap hbl h8
  have he := Go.Proofs.enters_of (P := P) hf hname hb #[.slice (some ⟨b, 0, none⟩) xs.length cap, fnv g] w
  refine ⟨.enter f #[.slice (some ⟨b, 0, none⟩) xs.length cap, fnv g], w, by simp [Deferred.ofValue, invoke, he], ?_⟩
  have hcall := hcon b 0 cap xs.toArray w hH (heap_lt hbl) (by simp; omega)
  simp only [List.size_toArray] at hcall
  refine CallsIn.mono (callsIn_wide.2 hcall) ?_
  rintro e' w' ⟨rfl, n, os, rfl⟩
  have hlen : (sortP cf xs).length = xs.length := (sortP_perm cf xs).length_eq
  have hnew : (sortWorldK encP 2 w b 0 n (sortP cf xs).toArray os).heap[b]? = some (.cells (putCells id 0 (flatK encP 2 (sortP cf xs).toArray) cs) e) := by
    have hg := heap_lt hbl
    unfold sortWorldK putRowK
    rw [heap_grow_old _ _ (by simpa using hg)]
    simp [putRow, mapBlock, Sort.ahead, Array.getElem?_modify, hbl, onCells]
  have hsame : ∀ k, k < w.heap.size → k ≠ b → (sortWorldK encP 2 w b 0 n (sortP cf xs).toArray os).heap[k]? = w.heap[k]? := fun k hk hkb => by
    unfold sortWorldK putRowK
    rw [heap_grow_old _ _ (by simpa using hk)]
    simp [putRow, mapBlock, Sort.ahead, Array.getElem?_modify, Ne.symm hkb]
  refine ⟨_, H, [[(b, .cells (putCells id 0 (flatK encP 2 (sortP cf xs).toArray) cs) e)]], rfl, ?_, rfl, _, rfl, ?_⟩
  · refine ⟨⟨fun b' o hb' => ?_, fun q hq => ?_, by simp [keys], fun q hq => ?_⟩, ⟨rfl, rfl, rfl, by simp [sortWorldK, putRowK], fun b' h1 h2 => hsame b' h1 (fun x => h2 (by subst x; simp [keys])), Nat.le_add_right _ _⟩, HLe.refl _, fun b' o h1 h2 => ?_, fun b' hb' => ?_⟩
    · have hne' : b' ≠ b := fun x => by
        have := hs'.dj (b, .cells cs e) (List.mem_singleton.2 rfl)
        subst x; rw [hb'] at this; cases this
      have hw := hs'.h b' o hb'
      exact (hsame b' (heap_lt hw) hne').trans hw
    · simp at hq; subst hq; exact hnew
    · simp at hq; subst hq
      exact hs'.dj (b, .cells cs e) (List.mem_singleton.2 rfl)
    · have h1' : H b' = some o := h1
      have h2' : H b' = none := h2
      rw [h1'] at h2'; cases h2'
    · left; simpa [keys] using hb'
  · have hsz : (putCells id 0 (flatK encP 2 (sortP cf xs).toArray) cs).size = cs.size := by simp [putCells]
    refine .inr ⟨b, cap, _, by rw [hlen], rfl, by rw [hlen]; exact h3, h4, by rw [hsz]; exact h5, fun i x hx => ⟨encP x, rfl, fun j u hj => ?_⟩⟩
    obtain ⟨h7, h8⟩ := flat_get (sortP cf xs) i j x u hx hj
    have hlt : i * 2 + j < cs.size := by
      rw [size_flatK] at h7
      simp only [List.size_toArray] at h7
      rw [hlen] at h7
      omega
    show (putCells id 0 (flatK encP 2 (sortP cf xs).toArray) cs)[i * 2 + j]? = _
    unfold putCells
    rw [Array.getElem?_mapIdx, Array.getElem?_eq_getElem hlt, Option.map_some, if_pos ⟨Nat.zero_le _, by rw [Nat.zero_add]; exact h7⟩, Nat.sub_zero, h8]; rfl
end Go.SX
