/- 'IndexKeys' answers true, whatever it is handed, and what it is handed reads behind it as it did. -/
import Derived.RangeFuncNested
import Derived.RangeFuncBound
import Derived.RangeFuncCalls
import Derived.RangeFuncLeaves
import Derived.Shelf.Abstract
import Derived.Laws.AppendOwn
import Derived.Laws.OwnMore
import Derived.KernelRfl
import Derived.IntWalk
import Derived.Laws.Append
import Derived.WideLaws
import Derived.Laws.Slices
import Derived.Laws.MakeOwn
import Derived.OrdersIn
import Derived.Laws.Cover3
import Derived.Test.YtmigaagkfglabaaProg
import Derived.Laws.StructEq
import Derived.Shelf.Sort.Plain
import Derived.Sort.OwnSortedInts
import Derived.Shelf.Slices.In.SortNone
import Derived.Maps.RangeRun
import Derived.Lib.AppendZeros
import Derived.Sort.AssemblyPlain
import Derived.Shelf.Small.Bits
import Derived.Sort.Walk7a
import Derived.Laws.Bits64
import Derived.Laws.Bits64b
import Derived.Shelf.Spec.SlicesInsert
import Derived.Shelf.Spec.SlicesInsertGrow
import Derived.ProofKit
import Derived.ChangeSlices
import Derived.Carry
import Derived.Test.YtmigaagkfglabaaRows
import Derived.Test.YtmigaagkfglabaaKK5
set_option linter.unusedVariables false
set_option linter.unusedSimpArgs false
namespace Go.SX
open Go
def setl : Array Value → Nat → List Value → Array Value
  | cs, _, [] => cs
  | cs, o, v :: r => setl (cs.setIfInBounds o v) (o + 1) r
theorem setl_size : ∀ (vs : List Value) (o : Nat) (cs : Array Value), (setl cs o vs).size = cs.size
  | [], _, _ => rfl
  | v :: r, o, cs => by rw [setl, setl_size r, Array.size_setIfInBounds]
theorem setl_out : ∀ (vs : List Value) (o : Nat) (cs : Array Value) (k : Nat), (k < o ∨ o + vs.length ≤ k) → (setl cs o vs)[k]? = cs[k]?
  | [], _, _, _, _ => rfl
  | v :: r, o, cs, k, h => by
    rw [List.length_cons] at h
    rw [setl, setl_out r (o + 1) _ k (by omega), Array.getElem?_setIfInBounds_ne (by omega)]
theorem setl_in : ∀ (vs : List Value) (o : Nat) (cs : Array Value) (j : Nat), o + j < cs.size → j < vs.length → (setl cs o vs)[o + j]? = vs[j]?
  | [], _, _, _, _, h => by simp at h
  | v :: r, o, cs, 0, h, _ => by
    rw [setl, setl_out r (o + 1) _ (o + 0) (by omega)]
    simp only [Nat.add_zero] at h ⊢
    rw [Array.getElem?_setIfInBounds_self_of_lt h]; rfl
  | v :: r, o, cs, j + 1, h, h2 => by
    have := setl_in r (o + 1) (cs.setIfInBounds o v) j (by rw [Array.size_setIfInBounds]; omega) (by simpa using h2)
    rw [setl, show o + (j + 1) = o + 1 + j by omega, this]; rfl
theorem heap_setCell {w : World} {b : Nat} {e : TypeId} {cs : Array Value} {z : Nat × Nat} (h : w.heap[b]? = some (.cells cs e z)) (o : Nat) (v : Value) : (w.setCell ⟨b, o, none⟩ v).heap[b]? = some (.cells (cs.setIfInBounds o v) e z) := by
  simp [World.setCell, Array.getElem?_modify, h]
theorem heap_setCells {b : Nat} {e : TypeId} {z : Nat × Nat} : ∀ (vs : List Value) (o : Nat) {w : World} {cs : Array Value}, w.heap[b]? = some (.cells cs e z) → (w.setCells b o vs).heap[b]? = some (.cells (setl cs o vs) e z)
  | [], _, _, _, h => h
  | v :: r, o, w, cs, h => by
    rw [World.setCells, setl]; exact heap_setCells r (o + 1) (heap_setCell h o v)
theorem setCells_same (b : Nat) : ∀ (vs : List Value) (o : Nat) (w : World), (w.setCells b o vs).os = w.os ∧ (w.setCells b o vs).tape = w.tape ∧ (w.setCells b o vs).output = w.output ∧ (w.setCells b o vs).heap.size = w.heap.size ∧ (∀ c, c ≠ b → (w.setCells b o vs).heap[c]? = w.heap[c]?) ∧ w.drawn ≤ (w.setCells b o vs).drawn
  | [], _, _ => ⟨rfl, rfl, rfl, rfl, fun _ _ => rfl, Nat.le_refl _⟩
  | v :: r, o, w => by
    obtain ⟨h1, h2, h3, h4, h5, h6⟩ := setCells_same b r (o + 1) (w.setCell ⟨b, o, none⟩ v)
    refine ⟨h1, h2, h3, by rw [World.setCells, h4]; simp [World.setCell], fun c hc => ?_, h6⟩
    rw [World.setCells, h5 c hc]
    simp only [World.setCell, Array.getElem?_modify]
    rw [if_neg (fun e => hc e.symm)]
theorem St.setCells {x : Cx} {H : Heap} {L : Chunk} {w : World} {b : Nat} {e : TypeId} {cs : Array Value} (h : St x H ((b, .cells cs e) :: L) w) (o : Nat) (vs : List Value) : St x H ((b, .cells (setl cs o vs) e) :: L) (w.setCells b o vs) := by
  have hb := h.sat.l _ (List.mem_cons_self ..)
  simp only at hb
  obtain ⟨h1, h2, h3, h4, h5, h6⟩ := setCells_same b vs o w
  exact h.turn h1 h2 h3 h4 (heap_setCells vs o hb) h5 h6
/-- The row with one more number at i. -/
def ins (xs : List Int) (i : Nat) (x : Int) : List Int := xs.take i ++ x :: xs.drop i
theorem ins_length {xs : List Int} {i : Nat} {x : Int} (h : i ≤ xs.length) : (ins xs i x).length = xs.length + 1 := by
  simp only [ins, List.length_append, List.length_take, List.length_cons, List.length_drop]; omega
theorem ins_get {xs : List Int} {i : Nat} {x : Int} (h : i ≤ xs.length) (k : Nat) : (ins xs i x)[k]? = if k < i then xs[k]? else if k = i then some x else xs[k - 1]? := by
  unfold ins
  by_cases h1 : k < i
  · rw [if_pos h1, List.getElem?_append_left (by rw [List.length_take]; omega), List.getElem?_take_of_lt h1]
  · rw [if_neg h1, List.getElem?_append_right (by rw [List.length_take]; omega), List.length_take, Nat.min_eq_left h]
    by_cases h2 : k = i
    · subst h2; rw [if_pos rfl, Nat.sub_self]; rfl
    · rw [if_neg h2, show k - i = (k - i - 1) + 1 by omega, List.getElem?_cons_succ, List.getElem?_drop, show i + (k - i - 1) = k - 1 by omega]
theorem own_of_cells {e : TypeId} {H : Heap} {b cap : Nat} {cs : Array Value} {xs : List Int} (h1 : xs.length ≤ cap) (h2 : cap ≤ maxLen) (h3 : cap ≤ cs.size) (h : ∀ (k : Nat) (y : Int), xs[k]? = some y → cs[k]? = some (Value.int .i64 y)) :
    OwnS (intE .i64) e H (.slice (some ⟨b, 0, none⟩) xs.length cap) xs [(b, .cells cs e)] :=
  .inr ⟨b, cap, cs, rfl, rfl, h1, h2, by show cap * 1 ≤ _; omega, fun k y hk => ⟨[.int .i64 y], rfl, fun j u hj => by
    have hj0 : j = 0 := by have := (List.getElem?_eq_some_iff.1 hj).1; simpa using this
    subst hj0
    simp at hj; subst hj
    have := h k y hk
    simpa [intE] using this⟩⟩
theorem vals_one (xs : List Int) : ∀ v ∈ xs.map (Value.int .i64), v.oneCell' = true := by
  intro v hv; obtain ⟨y, _, rfl⟩ := List.mem_map.1 hv; rfl
theorem vals_get {xs : List Int} {j : Nat} {v : Value} (h : (xs.map (Value.int .i64))[j]? = some v) : ∃ y, xs[j]? = some y ∧ v = .int .i64 y := by
  rw [List.getElem?_map] at h
  cases hx : xs[j]? with
  | none => rw [hx] at h; cases h
  | some y => rw [hx] at h; injection h with h; exact ⟨y, rfl, h.symm⟩
open Go.Proofs Go.Shelf in
theorem insert_fc {P : Program} {ρ : Ren} (L : Lays2.n21 P ρ) {f : FuncId} (hf : f = ρ.f 21) {fn : Func} {cd : Code} (hfn : P.funcs[f]? = some fn) (hb : fn.body = some cd) (hname : (fn.name == "runtime.NumGoroutine") = false)
    {e : TypeId} (he : ρ.t 3 = e) {H : Heap} {v : Value} {xs : List Int} {x : Int} {c : Chunk} (ho : OwnS (intE .i64) e H v xs c) {vb : Nat} {te : TypeId} (hvH : H vb = some (.cells #[.int .i64 x] te)) (i : Nat) (hi : i ≤ xs.length) (hl : xs.length ≤ 4000000) :
    Fc P (fnv f) [v, .int .i64 i, .slice (some ⟨vb, 0, none⟩) 1 1] H [c] (fun v' H' L' => ∃ c', L' = [c'] ∧ OwnS (intE .i64) e H' v' (ins xs i x) c') := by
  obtain ⟨vo, hvo⟩ : ∃ vo, vo = 0 := ⟨_, rfl⟩
  obtain ⟨vc, hvc⟩ : ∃ vc, vc = 1 := ⟨_, rfl⟩
  rw [show (Value.slice (some ⟨vb, 0, none⟩) 1 1) = .slice (some ⟨vb, vo, none⟩) 1 vc by rw [hvo, hvc]]
  intro w hs
  have hvw := hs.h vb _ hvH
  have hvs : ∀ j u, [Value.int .i64 x][j]? = some u → w.cell? ⟨vb, vo + j, none⟩ = some u := fun j u hj => by
    have hj0 : j = 0 := by have := (List.getElem?_eq_some_iff.1 hj).1; simpa using this
    subst hj0
    simp at hj; subst hj
    simp [World.cell?, hvw, hvo]
  have h1v : ∀ u ∈ [Value.int .i64 x], u.oneCell' = true := fun u hu => by simp at hu; subst hu; rfl
  have hen := Go.Proofs.enters_of (P := P) hfn hname hb
  have fin : ∀ {vs : List Value} {R : Ending → World → Prop}, Calls P f vs.toArray w R → CallV P (fnv f) vs w R := fun {vs} {R} hc => by
    have h0 := hen vs.toArray w
    exact ⟨.enter f vs.toArray, w, by simp [Deferred.ofValue, invoke, h0], callsIn_wide.2 hc⟩
  rcases ho with ⟨rfl, rfl, rfl⟩ | ⟨b, cap, cs, rfl, rfl, h3, h4, h5, h6⟩
  · -- nil
    obtain rfl : i = 0 := by simpa using hi
    refine fin ?_
    rw [hf]
    refine Calls.mono (Any2.slices_Insert_int_end_grow L none 0 0 vb vo 1 vc [] [.int .i64 x] w (by omega) (by omega) (by omega) (by omega) rfl rfl (fun _ => rfl) (fun a h => by cases h) hvs h1v) ?_
    rintro e' w' ⟨rfl, rfl⟩
    obtain ⟨B, hB⟩ : ∃ B, B = ([] ++ [Value.int .i64 x]).toArray ++ Builtin.zeroCells (Value.int .i64 0).cells (grownCap w (0 + 1) 0 (ρ.t 3) - (0 + 1)) := ⟨_, rfl⟩
    rw [← hB]
    have hge := grownCap_ge w (0 + 1) 0 (ρ.t 3)
    refine ⟨_, H, [[(w.heap.size, .cells B (ρ.t 3))]], rfl, ?_, _, rfl, ?_⟩
    · have := (St.init hs).drew.alloc (.cells B (ρ.t 3))
      simpa using this
    · subst he
      refine own_of_cells (xs := [x]) hge (grownCap_le_maxLen w (0 + 1) 0 _ (by unfold maxLen; omega)) ?_ ?_
      · rw [hB]
        simp only [Array.size_append, List.size_toArray, size_zeroCells]
        show _ ≤ _ + (_ - (0 + 1)) * 1
        simp only [List.nil_append, List.length_cons, List.length_nil]
        omega
      · intro k y hk
        have hk0 : k = 0 := by have := (List.getElem?_eq_some_iff.1 hk).1; simpa using this
        subst hk0
        simp at hk; subst hk
        rw [hB, Array.getElem?_append_left (by simp)]; rfl
  · have hs' : Sat H [(b, .cells cs e)] w := by simpa using hs
    have hbl := hs'.l (b, .cells cs e) (List.mem_singleton.2 rfl)
    simp only at hbl
    have hH0 : H b = none := hs'.dj (b, .cells cs e) (List.mem_singleton.2 rfl)
    have hvb : vb ≠ b := fun q => by subst q; rw [hvH] at hH0; cases hH0
    have hcs : cap ≤ cs.size := by have : cap * 1 ≤ cs.size := h5; omega
    have hxc : ∀ (k : Nat) (y : Int), xs[k]? = some y → cs[k]? = some (Value.int .i64 y) := fun k y hk => by
      obtain ⟨l, h7, h8⟩ := h6 k y hk
      obtain rfl : l = [.int .i64 y] := h7
      have := h8 0 _ rfl
      simpa [intE] using this
    have hcw : ∀ k, k < cs.size → w.cell? ⟨b, k, none⟩ = cs[k]? := fun k hk => by simp [World.cell?, hbl]
    have hcs2 : ∀ j u, (xs.map (Value.int .i64))[j]? = some u → w.cell? ⟨b, 0 + j, none⟩ = some u := fun j u hj => by
      obtain ⟨y, hy1, rfl⟩ := vals_get hj
      have := hxc j y hy1
      rw [Nat.zero_add, hcw j ((Array.getElem?_eq_some_iff.1 this).1), this]
    have hsome : ∀ k, k < cs.size → (w.cell? ⟨b, k, none⟩).isSome = true := fun k hk => by rw [hcw k hk, Array.getElem?_eq_getElem hk]; rfl
    have hfz : ∀ k, w.frozen? ⟨b, k, none⟩ = false := fun k => by simp [World.frozen?, hbl]
    have st0 : St ⟨w, H, [(b, .cells cs e)]⟩ H [(b, .cells cs e)] w := St.init hs'
    have hml : maxLen = 9223372036854775807 := rfl
    refine fin ?_
    rw [hf]
    by_cases hroom : xs.length + 1 ≤ cap
    · by_cases hin : i = xs.length
      · subst hin
        refine Calls.mono (Any2.slices_Insert_int_end_room L b 0 xs.length cap vb vo 1 vc [.int .i64 x] w (by omega) hroom (by omega) rfl (fun j hj => hsome _ (by omega)) (fun j hj => hfz _) hvs h1v) ?_
        rintro e' w' ⟨rfl, rfl⟩
        have hlen := ins_length (x := x) (Nat.le_refl xs.length)
        refine ⟨_, H, [[(b, .cells (setl cs (0 + xs.length) [.int .i64 x]) e)]], rfl, by simpa using st0.setCells (0 + xs.length) [.int .i64 x], _, rfl, ?_⟩
        rw [← hlen]
        refine own_of_cells (by rw [hlen]; exact hroom) h4 (by rw [setl_size]; exact hcs) (fun k y hk => ?_)
        rw [ins_get (Nat.le_refl _)] at hk
        by_cases h7 : k < xs.length
        · rw [if_pos h7] at hk
          rw [setl_out _ _ _ _ (by omega)]; exact hxc k y hk
        · rw [if_neg h7] at hk
          by_cases h8 : k = xs.length
          · rw [if_pos h8] at hk
            injection hk with hk; subst hk; subst h8
            have := setl_in [.int .i64 x] (0 + xs.length) cs 0 (by omega) (by simp)
            rw [Nat.add_zero, Nat.zero_add] at this
            rw [Nat.zero_add]; exact this
          · rw [if_neg h8, List.getElem?_eq_none (by omega)] at hk; cases hk
      · refine Calls.mono (Any2.slices_Insert_int_shift L b 0 xs.length cap i vb vo 1 vc (xs.map (Value.int .i64)) [.int .i64 x] w (by omega) (by omega) hroom (by omega) hvb (by simp) rfl hcs2 (fun j hj => hsome _ (by omega)) (fun j hj => hfz _) hvs (vals_one xs) h1v
          te e 1 cs.size (by simp [World.shape?, hvw]) (by simp [World.shape?, hbl]) (by omega) ?_ ?_) ?_
        · simp [World.frozen?, hvw]
        · simp [World.frozen?, hvw]
        rintro e' w' ⟨rfl, rfl⟩
        have hlen := ins_length (x := x) hi
        refine ⟨_, H, [[(b, .cells (setl (setl cs (0 + (i + 1)) ((xs.map (Value.int .i64)).drop i)) (0 + i) [.int .i64 x]) e)]], rfl, by simpa using (st0.drew.setCells (0 + (i + 1)) ((xs.map (Value.int .i64)).drop i)).setCells (0 + i) [.int .i64 x], _, rfl, ?_⟩
        rw [← hlen]
        refine own_of_cells (by rw [hlen]; exact hroom) h4 (by rw [setl_size, setl_size]; exact hcs) (fun k y hk => ?_)
        rw [ins_get hi] at hk
        by_cases h7 : k < i
        · rw [if_pos h7] at hk
          rw [setl_out _ _ _ _ (by omega), setl_out _ _ _ _ (by omega)]; exact hxc k y hk
        · rw [if_neg h7] at hk
          by_cases h8 : k = i
          · rw [if_pos h8] at hk
            injection hk with hk; subst hk; subst h8
            have := setl_in [.int .i64 x] (0 + k) (setl cs (0 + (k + 1)) ((xs.map (Value.int .i64)).drop k)) 0 (by rw [setl_size]; omega) (by simp)
            simp only [Nat.add_zero, Nat.zero_add] at this ⊢; exact this
          · rw [if_neg h8] at hk
            have hlt := (List.getElem?_eq_some_iff.1 hk).1
            rw [setl_out _ _ _ _ (.inr (by simp; omega))]
            have := setl_in ((xs.map (Value.int .i64)).drop i) (0 + (i + 1)) cs (k - (i + 1)) (by omega) (by simp; omega)
            rw [show 0 + (i + 1) + (k - (i + 1)) = k by omega, List.getElem?_drop, show i + (k - (i + 1)) = k - 1 by omega, List.getElem?_map, hk] at this
            exact this
    · subst he
      have hge := grownCap_ge w (xs.length + 1) cap (ρ.t 3)
      have hle := grownCap_le_maxLen w (xs.length + 1) cap (ρ.t 3) (by omega)
      by_cases hin : i = xs.length
      · subst hin
        refine Calls.mono (Any2.slices_Insert_int_end_grow L (some ⟨b, 0, none⟩) xs.length cap vb vo 1 vc (xs.map (Value.int .i64)) [.int .i64 x] w (by omega) h3 (by omega) (by omega) (by simp) rfl (fun h => by cases h) (fun a h j u hj => by injection h with h; subst h; rw [Addr.add_lit]; exact hcs2 j u hj) hvs h1v) ?_
        rintro e' w' ⟨rfl, rfl⟩
        generalize grownCap w (xs.length + 1) cap (ρ.t 3) = G at hge hle ⊢
        have hlen := ins_length (x := x) (Nat.le_refl xs.length)
        refine ⟨_, H, [[(w.heap.size, .cells ((xs.map (Value.int .i64) ++ [Value.int .i64 x]).toArray ++ Builtin.zeroCells (Value.int .i64 0).cells (G - (xs.length + 1))) (ρ.t 3))]], rfl, ?_, _, rfl, ?_⟩
        · have := (st0.drew.alloc (.cells ((xs.map (Value.int .i64) ++ [Value.int .i64 x]).toArray ++ Builtin.zeroCells (Value.int .i64 0).cells (G - (xs.length + 1))) (ρ.t 3))).sub (L' := [(w.drew.heap.size, .cells ((xs.map (Value.int .i64) ++ [Value.int .i64 x]).toArray ++ Builtin.zeroCells (Value.int .i64 0).cells (G - (xs.length + 1))) (ρ.t 3))]) (List.Sublist.cons_cons _ (List.nil_sublist _))
          simpa using this
        · rw [← hlen]
          refine own_of_cells (by rw [hlen]; exact hge) hle ?_ (fun k y hk => ?_)
          · simp only [Array.size_append, List.size_toArray, size_zeroCells, List.length_append, List.length_map, List.length_cons, List.length_nil]
            rw [hlen, show (Value.int IntKind.i64 0).cells.size = 1 from rfl]
            omega
          · have hk' : (xs ++ [x])[k]? = some y := by simpa [ins] using hk
            have hlt := (List.getElem?_eq_some_iff.1 hk').1
            rw [Array.getElem?_append_left (by simpa using hlt), List.getElem?_toArray, show xs.map (Value.int .i64) ++ [Value.int .i64 x] = (xs ++ [x]).map (Value.int .i64) by simp, List.getElem?_map, hk']; rfl
      · refine Calls.mono (Any2.slices_Insert_int_grow L b 0 xs.length cap i vb vo 1 vc (xs.map (Value.int .i64)) [.int .i64 x] w (by omega) (by omega) h3 (by omega) (by omega) (by simp) rfl hcs2 hvs (vals_one xs) h1v) ?_
        rintro e' w' ⟨rfl, rfl⟩
        generalize grownCap w (xs.length + 1) cap (ρ.t 3) = G at hge hle ⊢
        have hlen := ins_length (x := x) hi
        obtain ⟨B, hB⟩ : ∃ B, B = ((xs.map (Value.int .i64)).take i).toArray ++ Builtin.zeroCells (Value.int .i64 0).cells (xs.length + 1 - i) ++ Builtin.zeroCells (Value.int .i64 0).cells (G - (xs.length + 1)) := ⟨_, rfl⟩
        rw [← hB]
        have hBs : G ≤ B.size := by
          rw [hB]
          simp only [Array.size_append, List.size_toArray, size_zeroCells, List.length_take, List.length_map]
          show _ ≤ _ + (xs.length + 1 - i) * 1 + (_ - (xs.length + 1)) * 1
          omega
        refine ⟨_, H, [[(w.heap.size, .cells (setl (setl B i [.int .i64 x]) (i + 1) ((xs.map (Value.int .i64)).drop i)) (ρ.t 3))]], rfl, ?_, _, rfl, ?_⟩
        · have h1 := (st0.alloc (.cells B (ρ.t 3))).sub (L' := [(w.heap.size, .cells B (ρ.t 3))]) (List.Sublist.cons_cons _ (List.nil_sublist _))
          have h2 := ((h1.drew.setCells i [.int .i64 x]).drew.setCells (i + 1) ((xs.map (Value.int .i64)).drop i))
          simpa using h2
        · rw [← hlen]
          refine own_of_cells (by rw [hlen]; exact hge) hle (by rw [setl_size, setl_size]; exact hBs) (fun k y hk => ?_)
          rw [ins_get hi] at hk
          by_cases h7 : k < i
          · rw [if_pos h7] at hk
            rw [setl_out _ _ _ _ (by omega), setl_out _ _ _ _ (by omega), hB, Array.getElem?_append_left (by simp [size_zeroCells]; omega), Array.getElem?_append_left (by simp; omega), List.getElem?_toArray, List.getElem?_take_of_lt h7, List.getElem?_map, hk]; rfl
          · rw [if_neg h7] at hk
            by_cases h8 : k = i
            · rw [if_pos h8] at hk
              injection hk with hk; subst hk; subst h8
              rw [setl_out _ _ _ _ (by omega)]
              have := setl_in [.int .i64 x] k B 0 (by omega) (by simp)
              rw [Nat.add_zero] at this; exact this
            · rw [if_neg h8] at hk
              have hlt := (List.getElem?_eq_some_iff.1 hk).1
              have := setl_in ((xs.map (Value.int .i64)).drop i) (i + 1) (setl B i [.int .i64 x]) (k - (i + 1)) (by rw [setl_size]; omega) (by simp; omega)
              rw [show i + 1 + (k - (i + 1)) = k by omega, List.getElem?_drop, show i + (k - (i + 1)) = k - 1 by omega, List.getElem?_map, hk] at this
              exact this
end Go.SX

namespace Go.Proofs
open Go.Shelf
def Try.lays21_ren : Go.Shelf.Ren := ⟨fun | 21 => 96 | 27 => 146 | 28 => 147 | 35 => 159 | 39 => 162 | n => n, fun | 22 => 37 | 3 => 3 | 4 => 4 | 0 => 0 | n => n, fun | n => n⟩
theorem Try.lays21 : Go.Proofs.Lays2.n21 Try.prog Try.lays21_ren := {
  mixed := by kernel_rfl
  f21 := Try.func96.trans (congrArg some (by kernel_rfl))
  f27 := Try.func146.trans (congrArg some (by kernel_rfl))
  f28 := Try.func147.trans (congrArg some (by kernel_rfl))
  f35 := Try.func159.trans (congrArg some (by kernel_rfl))
  f39 := Try.func162.trans (congrArg some (by kernel_rfl))
  t0 := Try.underlying0
  a0 := Try.isAgg0
  z0 := Try.sizeOf0
  v0 := Try.zeroValue0
  t3 := Try.underlying3
  a3 := Try.isAgg3
  z3 := Try.sizeOf3
  v3 := Try.zeroValue3
  t4 := Try.underlying4
  a4 := Try.isAgg4
  z4 := Try.sizeOf4
  v4 := Try.zeroValue4
  t22 := Try.underlying37
  a22 := Try.isAgg37
  z22 := Try.sizeOf37
  v22 := Try.zeroValue37
  i3 := by kernel_rfl }
end Go.Proofs

set_option linter.unusedVariables false
set_option linter.unusedSimpArgs false
namespace Go.SX
open Go Go.Proofs
theorem Try_ty44 : TyE Try.prog 44 55 listedE 32 := TyE.mk' (z := .agg #[.int .u64 0, .slice none 0 0]) Try.underlying44 (by kernel_rfl) rfl (by decide)

theorem rows_nil : ∀ r ∈ ([] : List (Int × List Int)), r.2.length ≤ 0 := fun r h => by cases h
theorem rows_le {x : List (Int × List Int)} {a b : Nat} (h : ∀ r ∈ x, r.2.length ≤ a) (h2 : a ≤ b) : ∀ r ∈ x, r.2.length ≤ b := fun r hr => Nat.le_trans (h r hr) h2
theorem insert_c (H : Heap) (v : Value) (xs : List Int) (ch : Chunk) (ho : OwnS (intE .i64) 3 H v xs ch) (x : Int) (vb : Nat) (te : TypeId) (hvH : H vb = some (.cells #[.int .i64 x] te)) (i : Int) (hi : 0 ≤ i ∧ i ≤ (xs.length : Int)) (hl : xs.length ≤ 2000000) :
    Fc Try.prog (fnv 96) [v, .int .i64 i, .slice (some ⟨vb, 0, none⟩) 1 1] H [ch] (fun v' H' L' => ∃ c, L' = [c] ∧ OwnS (intE .i64) 3 H' v' (ins xs i.toNat x) c) := by
  obtain ⟨i, rfl⟩ : ∃ n : Nat, i = n := ⟨i.toNat, by omega⟩
  exact insert_fc Go.Proofs.Try.lays21 rfl Try.func96 rfl (by kernel_rfl) rfl ho hvH i (by omega) (by omega)
def index_turned_l2 (a0 : (List (Int × (List Int)))) (a1 : List Int) (a2 : List Int → List Int) : List Int → ((List (Int × (List Int)))) → (List (Int × (List Int)))
  | [], sl2 => sl2
  | yl2 :: ysl2, sl2 => LR.seq (slices_BinarySearchFunc_Listed_m a0 (((yl2, []) : Int × (List Int))) ((fun z0 z1 => index_compare_m z0 z1))) (fun r43 => LR.seq (if r43.2 = true then (a0.getD r43.1.toNat (((0, []) : Int × (List Int)) : Int × (List Int))).2 else [] : (List Int)) (fun sc3 => LR.seq (if yl2 ∈ a1 then (a2 sc3) else sc3 : (List Int)) (fun sc4 => if (0 : Int) < (sc4.length : Int) then (index_turned_l2 a0 a1 a2 ysl2 ((sl2 ++ [(yl2, sc4)]))) else (index_turned_l2 a0 a1 a2 ysl2 sl2))))
def index_turned_l1  : List (Int × (List Int)) → ((List Int)) → (List Int)
  | [], sl1 => sl1
  | yl1 :: ysl1, sl1 => index_turned_l1 ysl1 ((sl1 ++ [yl1.1]))
def index_turned_m (a0 : (List (Int × (List Int)))) (a1 : List Int) (a2 : List Int → List Int) : ((List (Int × (List Int)))) :=
  LR.seq (index_turned_l1 a0 a1) (fun ol1 => LR.seq (index_once_m ol1) (fun r32 => LR.seq (index_turned_l2 a0 a1 a2 r32 []) (fun ol2 => ol2)))
set_option maxHeartbeats 3200000 in
theorem index_turned_c (H : Heap) (a0 : (List (Int × (List Int)))) (va0_0 : Value) (ha0_0 : RdS listedE H va0_0 a0) (va1 : Value) (a1 : List Int) (ha1 : RdS (intE .u64) H va1 a1) (fa2 : Value) (a2 : List Int → List Int) (ha2 : ∀ H', HLe H H' → ∀ (vz : Value) (z : List Int) (cz : Chunk), z.length ≤ 2000000 → OwnS (intE .i64) 3 H' vz z cz → Fc Try.prog fa2 [vz] H' [cz] (fun v' H'' L' => ∃ u c, v' = u ∧ L' = [c] ∧ OwnS (intE .i64) 3 H'' u (a2 z) c)) (na2 : fa2.oneCell' = true) (hn : a0.length ≤ 1000) (hr : ∀ r ∈ a0, r.2.length ≤ 1000) (hi : a1.length ≤ 1000) : Fc Try.prog (fnv 93) [.agg #[va0_0], va1, fa2] H [] (fun v' H' L' => ∃ u0_0 c0_0, v' = .agg #[u0_0] ∧ L' = [c0_0] ∧ OwnS listedE 55 H' u0_0 (index_turned_m a0 a1 a2) c0_0) := by
  refine Fc.of_body (N := 82) Try.func93 rfl (by kernel_rfl) rfl rfl ?_
  intro w0
  obtain ⟨Aa0_0, ca0_0, rfl, hca0_0, hda0_0, ha0_0⟩ := ha0_0.shape
  obtain ⟨Aa1, ca1, rfl, hca1, hda1, ha1⟩ := ha1.shape
  refine T.seq ?_
  refine T.region ?_
  refine R.box rfl (by conv => lhs; whnf) ?_
  intro b3
  refine R.alloc Try.zeroValue46 rfl ?_
  intro b6
  refine TL.shut (.tl .hd) ?_
  intro Hb3_1 sb3_1 qb3_1
  have hb3_1 : Hb3_1 b3 = some (.cells #[.slice Aa0_0 a0.length ca0_0] 46) := shut1 qb3_1
  refine TL.nil (Post.thnN ?_)
  refine T.seq ?_
  refine T.region ?_
  refine R.alloc Try.zeroValue46 rfl ?_
  intro b7
  refine TL.nil (Post.thnN ?_)
  refine T.seq ?_
  refine T.region ?_
  refine R.mvE rfl (by conv => lhs; whnf) ?_
  refine TL.call [] rfl rfl rfl (clone22_c _ _ a1 (ha1.mono sb3_1) (by first | omega | (simp; done) | (simp; omega) | (simp at *; omega))) ?_
  intro v17 H17 L17 s17 q17
  obtain ⟨c17, rfl, w17⟩ := q17
  obtain ⟨x17, e17⟩ : ∃ x, x = a1 := ⟨_, rfl⟩
  rw [← e17] at w17
  obtain ⟨A17, p17, rfl, m17, n17⟩ := OwnS.shape w17
  have t17 : x17.length = a1.length := by rw [e17]
  refine R.asE rfl (by conv => lhs; whnf) ?_
  refine TL.nil (Post.thnN ?_)
  refine T.seq ?_
  refine T.seq ?_
  refine T.region ?_
  refine R.fldA Try.underlying46 rfl Try.sizeOf44 (by decide) rfl rfl ?_
  refine R.ldH Try.isAgg44 rfl rfl (s17 _ _ hb3_1) rfl ?_
  refine R.len Try.underlying44 rfl rfl ?_
  refine R.mvE rfl (by conv => lhs; whnf) ?_
  refine TL.nil (Post.thnN ?_)
  refine T.block ?_
  refine T.loop (ι := Nat × Value × (List Int) × Chunk) (fun ⟨kl1, v8l1, x8l1, c8l1⟩ H' L' ds' => kl1 ≤ a0.length ∧ Has L' [[(b7, .cells #[.slice none 0 0] 46)], [(b6, .cells #[.slice none 0 0] 46)], c8l1] ∧ OwnS (intE .u64) 26 H' v8l1 x8l1 c8l1 ∧ x8l1.length ≤ a1.length + kl1 ∧ index_turned_l1 (a0.drop kl1) x8l1 = index_turned_l1 a0 x17) (fun ⟨kl1, v8l1, x8l1, c8l1⟩ => [(21, .int .i64 (kl1 : Int)), (1, .slice Aa1 a1.length ca1), (2, fa2), (3, .pointer (some ⟨b3, 0, none⟩)), (6, .pointer (some ⟨b6, 0, none⟩)), (7, .pointer (some ⟨b7, 0, none⟩)), (8, v8l1), (19, .slice Aa0_0 a0.length ca0_0), (20, .int .i64 (a0.length : Int))]) (fun ⟨kl1, v8l1, x8l1, c8l1⟩ => a0.length - kl1) (0, .slice A17 x17.length p17, x17, c17) ?_ ?_ ?_
  · exact ⟨(by omega), (Has.cons (.tl .hd) (Has.cons (.tl .hd) (Has.cons .hd Has.nil))), w17, (by first | omega | (simp; done) | (simp; omega) | (simp at *; omega)), (by rfl)⟩
  · exact ⟨rfl, rfl, rfl, rfl, rfl, rfl, rfl, rfl, rfl, trivial⟩
  · intro ⟨kl1, v8l1, x8l1, c8l1⟩ σ_l1 H_l1 L_l1 ds_l1 s_l1 hI_l1
    obtain ⟨hkl1, hI_l1⟩ := hI_l1
    obtain ⟨hLl1, w8l1, hBl1_0, hQl1⟩ := hI_l1
    obtain ⟨A8l1, p8l1, rfl, m8l1, n8l1_⟩ := OwnS.shape w8l1
    refine T.has hLl1 ?_
    refine T.seq ?_
    refine T.region ?_
    refine R.lss rfl rfl rfl ?_
    refine TL.nil (Post.thnN ?_)
    refine T.seq ?_
    refine T.condD rfl (fun c22 => ?_) (fun c22 => ?_)
    · have hltl1 : kl1 < a0.length := by omega
      obtain ⟨yl1, hyl1⟩ := getk (xs := a0) (k := kl1) (by omega)
      refine T.skip (Post.thnN ?_)
      refine T.seq ?_
      refine T.block ?_
      refine T.seq ?_
      refine T.region ?_
      obtain ⟨b23, o23, i23, k23⟩ := RdS.elem (ha0_0.mono (sb3_1.trans (s17.trans s_l1))) hyl1
      obtain ⟨l23, g23, k23⟩ := k23
      obtain ⟨z23_1, rfl, r23_1⟩ := g23
      obtain ⟨A23_1, p23_1, rfl, m23_1, n23_1, r23_1⟩ := r23_1.shape
      refine R.ixp Try.underlying44 Try.sizeOf55 rfl rfl rfl (by omega) i23 ?_
      refine R.ldK (l := [.int .u64 (yl1.1), .slice A23_1 yl1.2.length p23_1]) Try.isAgg55 Try.sizeOf55 rfl rfl k23 rfl ?_
      refine R.alloc Try.zeroValue55 rfl ?_
      intro b10
      refine R.stX (old := [.int .u64 0, .slice none 0 0]) (l := [.int .u64 (yl1.1), .slice A23_1 yl1.2.length p23_1]) (new := [.int .u64 (yl1.1), .slice A23_1 yl1.2.length p23_1]) (et := 55) Try.sizeOf55 rfl rfl rfl rfl rfl (by show 0 + 2 ≤ 2; decide) rfl (all_one rfl) .hd ?_
      refine TL.shut .hd ?_
      intro Hb10_2 sb10_2 qb10_2
      have hb10_2 : Hb10_2 b10 = some (.cells #[.int .u64 (yl1.1), .slice A23_1 yl1.2.length p23_1] 55) := shut1 qb10_2
      refine TL.nil (Post.thnN ?_)
      refine T.region ?_
      refine R.mvE rfl (by conv => lhs; whnf) ?_
      refine R.fldA Try.underlying55 rfl Try.sizeOf26 (by decide) rfl rfl ?_
      refine R.ldH Try.isAgg26 rfl rfl hb10_2 rfl ?_
      refine R.bs rfl (run_buildSlice1 Try.underlying22 Try.sizeOf26 Try.zeroValue26 rfl rfl) ?_
      intro b28
      have w28 : OwnS (intE .u64) 26 Hb10_2 (.slice (some ⟨b28, 0, none⟩) 1 1) [yl1.1] [(b28, .cells #[.int .u64 (yl1.1)] 26)] := OwnS.lit (xs := [yl1.1]) (cellsOf_cons (a := [.int .u64 (yl1.1)]) rfl cellsOf_nil) (by show 1 ≤ maxLen; decide)
      obtain ⟨k29, y29, r29⟩ := Src.ownA w28
      refine R.app (E := (intE .u64)) (e := 26) (xs := x8l1) (ys := [yl1.1]) Try_ty22 rfl rfl rfl (OwnS.mono w8l1 sb10_2) (.tl (.tl (.tl .hd))) (r29 _ .hd) y29 (by (try simp only [List.length_append, List.length_cons, List.length_nil, List.length_replicate, List.length_take, List.length_drop]); omega) (by (try simp only [List.length_append, List.length_cons, List.length_nil, List.length_replicate, List.length_take, List.length_drop]); omega) ?_
      intro v29 c29 w29
      obtain ⟨A29, p29, rfl, m29, n29⟩ := OwnS.shape w29
      refine TL.del (.tl .hd) ?_
      refine R.asE rfl (by conv => lhs; whnf) ?_
      refine TL.nil (Post.blkN ?_)
      refine id (Post.thnN ?_)
      refine T.region ?_
      refine R.addI rfl rfl rfl (by omega) ?_
      refine R.mvE rfl (by conv => lhs; whnf) ?_
      refine TL.nil (Post.thnN ?_)
      exact ⟨(kl1 + 1, .slice A29 (x8l1 ++ [yl1.1]).length p29, (x8l1 ++ [yl1.1]), c29), (s_l1.trans sb10_2), ⟨(by omega), (Has.cons (.tl .hd) (Has.cons (.tl .hd) (Has.cons .hd Has.nil))), w29, (by first | omega | (simp; done) | (simp; omega) | (simp at *; omega)), (by rw [← hQl1, drop_cons hyl1, index_turned_l1])⟩, by show a0.length - (kl1 + 1) < a0.length - kl1; omega, rfl, rfl, rfl, rfl, rfl, rfl, rfl, rfl, rfl, trivial⟩
    · refine T.exit (Post.thnE (Post.thnE (Post.blkX ?_)))
      have hEl1 : index_turned_l1 a0 x17 = x8l1 := (hQl1.symm.trans (by rw [show kl1 = a0.length by omega, List.drop_length, index_turned_l1]))
      refine id (Post.thnN ?_)
      refine T.seq ?_
      refine T.seq ?_
      refine T.region ?_
      refine R.mvE rfl (by conv => lhs; whnf) ?_
      refine TL.has (Has.cons (.tl (.tl .hd)) (Has.cons .hd (Has.cons .hd Has.nil))) ?_
      obtain ⟨r32, er32⟩ : ∃ r, r = (index_once_m x8l1) := ⟨_, rfl⟩
      refine TL.call [true] rfl rfl rfl (index_once_c _ _ x8l1 _ w8l1 (by first | omega | (simp; done) | (simp; omega) | (simp at *; omega))) ?_
      intro v32 H32 L32 s32 q32
      rw [← er32] at q32
      obtain ⟨u32_0_0, c32_0_0, rfl, rfl, w32_0_0⟩ := q32
      obtain ⟨A32_0_0, p32_0_0, rfl, m32_0_0, n32_0_0⟩ := OwnS.shape w32_0_0
      have to32 := once_len _ _ er32
      refine R.len Try.underlying22 rfl rfl ?_
      refine R.mvE rfl (by conv => lhs; whnf) ?_
      refine TL.nil (Post.thnN ?_)
      refine T.block ?_
      refine T.shut .hd ?_
      intro HF32_0_0_3 sF32_0_0_3 qF32_0_0_3
      have fF32_0_0_3 := OwnS.read w32_0_0 sF32_0_0_3 qF32_0_0_3
      refine T.loop (ι := Nat × Value × (List (Int × (List Int))) × Chunk) (fun ⟨kl2, vb7l2_0, xb7l2_0, cb7l2_0⟩ H' L' ds' => kl2 ≤ r32.length ∧ Has L' [[(b7, .cells #[vb7l2_0] 46)], [(b6, .cells #[.slice none 0 0] 46)], cb7l2_0] ∧ OwnS listedE 55 H' vb7l2_0 xb7l2_0 cb7l2_0 ∧ xb7l2_0.length ≤ kl2 ∧ index_turned_l2 a0 a1 a2 (r32.drop kl2) xb7l2_0 = index_turned_l2 a0 a1 a2 r32 []) (fun ⟨kl2, vb7l2_0, xb7l2_0, cb7l2_0⟩ => [(34, .int .i64 (kl2 : Int)), (1, .slice Aa1 a1.length ca1), (2, fa2), (3, .pointer (some ⟨b3, 0, none⟩)), (6, .pointer (some ⟨b6, 0, none⟩)), (7, .pointer (some ⟨b7, 0, none⟩)), (32, .slice A32_0_0 r32.length p32_0_0), (33, .int .i64 (r32.length : Int))]) (fun ⟨kl2, vb7l2_0, xb7l2_0, cb7l2_0⟩ => r32.length - kl2) (0, .slice none 0 0, [], []) ?_ ?_ ?_
      · exact ⟨(by omega), (Has.cons .hd (Has.cons .hd (Has.none Has.nil))), OwnS.nil, (by first | omega | (simp; done) | (simp; omega) | (simp at *; omega)), (by rfl)⟩
      · exact ⟨rfl, rfl, rfl, rfl, rfl, rfl, rfl, rfl, trivial⟩
      · intro ⟨kl2, vb7l2_0, xb7l2_0, cb7l2_0⟩ σ_l2 H_l2 L_l2 ds_l2 s_l2 hI_l2
        obtain ⟨hkl2, hI_l2⟩ := hI_l2
        obtain ⟨hLl2, wb7l2_0, hBl2_0, hQl2⟩ := hI_l2
        obtain ⟨Ab7l2_0, pb7l2_0, rfl, mb7l2_0, nb7l2_0_⟩ := OwnS.shape wb7l2_0
        refine T.has hLl2 ?_
        refine T.seq ?_
        refine T.region ?_
        refine R.lss rfl rfl rfl ?_
        refine TL.nil (Post.thnN ?_)
        refine T.seq ?_
        refine T.condD rfl (fun c35 => ?_) (fun c35 => ?_)
        · have hltl2 : kl2 < r32.length := by omega
          obtain ⟨yl2, hyl2⟩ := getk (xs := r32) (k := kl2) (by omega)
          refine T.skip (Post.thnN ?_)
          refine T.seq ?_
          refine T.block ?_
          refine T.seq ?_
          refine T.region ?_
          obtain ⟨b36, o36, i36, k36⟩ := RdS.elem (fF32_0_0_3.mono s_l2) hyl2
          obtain ⟨l36, g36, k36⟩ := k36
          obtain rfl : l36 = [.int .u64 yl2] := g36
          refine R.ixp Try.underlying22 Try.sizeOf26 rfl rfl rfl (by omega) i36 ?_
          refine R.ldC Try.isAgg26 rfl rfl (k36 0 _ rfl) ?_
          refine R.asE rfl (by conv => lhs; whnf) ?_
          refine TL.nil (Post.thnN ?_)
          refine T.seq ?_
          refine T.region ?_
          refine R.asE rfl (by conv => lhs; whnf) ?_
          refine TL.nil (Post.thnN ?_)
          refine T.seq ?_
          refine T.seq ?_
          refine T.region ?_
          refine R.fldA Try.underlying46 rfl Try.sizeOf44 (by decide) rfl rfl ?_
          refine R.ldH Try.isAgg44 rfl rfl ((s17.trans (s_l1.trans (s32.trans (sF32_0_0_3.trans s_l2)))) _ _ hb3_1) rfl ?_
          refine R.mvE rfl (by conv => lhs; whnf) ?_
          refine R.bld (cs := [.int .u64 yl2, .slice none 0 0]) rfl (fun _ => by kernel_rfl) ?_
          obtain ⟨r43, er43⟩ : ∃ r, r = (slices_BinarySearchFunc_Listed_m a0 (((yl2, []) : Int × (List Int))) ((fun z0 z1 => index_compare_m z0 z1))) := ⟨_, rfl⟩
          refine R.callv (v := .tuple #[.int .i64 r43.1, .bool r43.2]) rfl rfl rfl (by rw [er43]; exact slices_BinarySearchFunc_Listed_c _ _ a0 (ha0_0.mono (sb3_1.trans (s17.trans (s_l1.trans (s32.trans (sF32_0_0_3.trans s_l2)))))) (((yl2, []) : Int × (List Int))) _ RdS.nil _ (fun z0 z1 => index_compare_m z0 z1) (fun H2 h2 z0 vz0_1 hz0_1 z1 vz1_1 hz1_1 => index_compare_c H2 z0 vz0_1 hz0_1 z1 vz1_1 hz1_1) rfl (by first | omega | (simp; done) | (simp; omega) | (simp at *; omega))) ?_
          have tb43 := bf_rng _ _ _ _ er43 (by first | omega | simp)
          refine R.mvE rfl (by conv => lhs; whnf) ?_
          refine R.ext rfl rfl rfl ?_
          refine R.ext rfl rfl rfl ?_
          refine R.asE rfl (by conv => lhs; whnf) ?_
          refine R.asE rfl (by conv => lhs; whnf) ?_
          refine TL.nil (Post.thnN ?_)
          refine T.seq ?_
          refine T.region ?_
          refine R.mvE rfl (by conv => lhs; whnf) ?_
          refine TL.nil (Post.thnN ?_)
          refine T.cutK (ι := Value × (List Int) × Chunk) (fun ⟨v13c3, x13c3, c13c3⟩ H' L' ds' => Has L' [[(b7, .cells #[.slice Ab7l2_0 xb7l2_0.length pb7l2_0] 46)], [(b6, .cells #[.slice none 0 0] 46)], cb7l2_0, c13c3] ∧ OwnS (intE .i64) 3 H' v13c3 x13c3 c13c3 ∧ x13c3.length ≤ 1000 ∧ (if r43.2 = true then (a0.getD r43.1.toNat (((0, []) : Int × (List Int)) : Int × (List Int))).2 else [] : (List Int)) = x13c3) (fun ⟨v13c3, x13c3, c13c3⟩ => [(1, .slice Aa1 a1.length ca1), (2, fa2), (3, .pointer (some ⟨b3, 0, none⟩)), (6, .pointer (some ⟨b6, 0, none⟩)), (7, .pointer (some ⟨b7, 0, none⟩)), (12, .int .u64 yl2), (13, v13c3), (32, .slice A32_0_0 r32.length p32_0_0), (33, .int .i64 (r32.length : Int)), (34, .int .i64 (kl2 : Int))]) ?_ ?_
          · refine T.cond rfl (fun c46 => ?_) (fun c46 => ?_)
            · refine T.set 46 (.bool true) (congrArg Value.bool c46) ?_
              refine T.seq ?_
              have tq := tb43.2.2 (by simpa using c46)
              refine T.region ?_
              refine R.fldA Try.underlying46 rfl Try.sizeOf44 (by decide) rfl rfl ?_
              refine R.ldH Try.isAgg44 rfl rfl ((s17.trans (s_l1.trans (s32.trans (sF32_0_0_3.trans s_l2)))) _ _ hb3_1) rfl ?_
              refine R.mvE rfl (by conv => lhs; whnf) ?_
              have hl50 : r43.1.toNat < a0.length := by first | omega | (simp; done) | (simp; omega) | (simp at *; omega)
              obtain ⟨y50, e50, h50⟩ : ∃ y, y = (a0.getD r43.1.toNat (((0, []) : Int × (List Int)) : Int × (List Int))) ∧ a0[r43.1.toNat]? = some y := ⟨_, rfl, getD_get (by first | exact hl50 | simpa using hl50 | (simp only [List.length_set]; omega) | omega | (rw [(sortI_perm _).length_eq]; exact hl50))⟩
              obtain ⟨b50, o50, i50, k50⟩ := RdS.elem (ha0_0.mono (sb3_1.trans (s17.trans (s_l1.trans (s32.trans (sF32_0_0_3.trans s_l2)))))) h50
              obtain ⟨l50, g50, k50⟩ := k50
              obtain ⟨z50_1, rfl, r50_1⟩ := g50
              obtain ⟨A50_1, p50_1, rfl, m50_1, n50_1, r50_1⟩ := r50_1.shape
              have tr50 := hr y50 (List.mem_of_getElem? h50)
              refine R.ixp Try.underlying44 Try.sizeOf55 rfl rfl rfl (by first | omega | (simp; done) | (simp; omega) | (simp at *; omega)) i50 ?_
              refine R.fldA Try.underlying55 rfl Try.sizeOf37 (by decide) rfl rfl ?_
              refine R.ldC Try.isAgg37 rfl rfl (k50 1 _ rfl) ?_
              refine R.len Try.underlying37 rfl rfl ?_
              refine R.mks (E := (intE .i64)) (q := y50.2.length) (z0 := ((0 : Int))) (zc := [.int .i64 0]) Try_ty37 (zcells_of (z := .int .i64 0) (by kernel_rfl)) (fun _ => rfl) rfl rfl rfl (by omega) (by omega) ?_
              intro v54 c54 w54
              obtain ⟨A54, p54, rfl, m54, n54⟩ := w54.shape
              refine R.asE rfl (by conv => lhs; whnf) ?_
              refine TL.nil (Post.thnN ?_)
              refine T.region ?_
              refine R.mvE rfl (by conv => lhs; whnf) ?_
              refine R.fldA Try.underlying46 rfl Try.sizeOf44 (by decide) rfl rfl ?_
              refine R.ldH Try.isAgg44 rfl rfl ((s17.trans (s_l1.trans (s32.trans (sF32_0_0_3.trans s_l2)))) _ _ hb3_1) rfl ?_
              refine R.mvE rfl (by conv => lhs; whnf) ?_
              have hl59 : r43.1.toNat < a0.length := by first | omega | (simp; done) | (simp; omega) | (simp at *; omega)
              obtain ⟨y59, e59, h59⟩ : ∃ y, y = (a0.getD r43.1.toNat (((0, []) : Int × (List Int)) : Int × (List Int))) ∧ a0[r43.1.toNat]? = some y := ⟨_, rfl, getD_get (by first | exact hl59 | simpa using hl59 | (simp only [List.length_set]; omega) | omega | (rw [(sortI_perm _).length_eq]; exact hl59))⟩
              obtain ⟨b59, o59, i59, k59⟩ := RdS.elem (ha0_0.mono (sb3_1.trans (s17.trans (s_l1.trans (s32.trans (sF32_0_0_3.trans s_l2)))))) h59
              obtain ⟨l59, g59, k59⟩ := k59
              obtain ⟨z59_1, rfl, r59_1⟩ := g59
              obtain ⟨A59_1, p59_1, rfl, m59_1, n59_1, r59_1⟩ := r59_1.shape
              have tr59 := hr y59 (List.mem_of_getElem? h59)
              have tl59 : y59.2.length = y50.2.length := by rw [e59, e50]
              refine R.ixp Try.underlying44 Try.sizeOf55 rfl rfl rfl (by first | omega | (simp; done) | (simp; omega) | (simp at *; omega)) i59 ?_
              refine R.fldA Try.underlying55 rfl Try.sizeOf37 (by decide) rfl rfl ?_
              refine R.ldC Try.isAgg37 rfl rfl (k59 1 _ rfl) ?_
              obtain ⟨k62, y62, r62⟩ := Src.rdA r59_1
              refine R.copyD (v := (.slice A54 (List.replicate y50.2.length ((0 : Int))).length p54)) Try_ty37 rfl rfl rfl w54 .hd (r62 _) y62 (by first | (simp; done) | (simp; omega)) ?_
              intro cm541 wm541
              refine TL.nil (Post.thnN ?_)
              exact ⟨(.slice A54 (List.replicate y50.2.length ((0 : Int))).length p54, y59.2, cm541), HLe.refl _, ⟨(Has.cons (.tl .hd) (Has.cons (.tl .hd) (Has.cons (.tl .hd) (Has.cons .hd Has.nil)))), wm541, (by first | omega | (simp; done) | (simp; omega) | (simp at *; omega)), (by subst e59; subst e50; rw [if_t c46])⟩, rfl, rfl, rfl, rfl, rfl, rfl, rfl, rfl, rfl, rfl, trivial⟩
            · refine T.set 46 (.bool false) (congrArg Value.bool c46) ?_
              refine T.skip (Post.thnN ?_)
              exact ⟨(.slice none 0 0, [], []), HLe.refl _, ⟨(Has.cons .hd (Has.cons .hd (Has.cons .hd (Has.none Has.nil)))), OwnS.nil, (by first | omega | (simp; done) | (simp; omega) | (simp at *; omega)), (by rw [if_f c46])⟩, rfl, rfl, rfl, rfl, rfl, rfl, rfl, rfl, rfl, rfl, trivial⟩
          · intro ⟨v13c3, x13c3, c13c3⟩ σ_c3 H_c3 L_c3 ds_c3 s_c3 hI_c3
            obtain ⟨hLc3, w13c3, hBc3_0, hTc3⟩ := hI_c3
            obtain ⟨A13c3, p13c3, rfl, m13c3, n13c3_⟩ := OwnS.shape w13c3
            refine T.has hLc3 ?_
            refine T.seq ?_
            refine T.seq ?_
            refine T.region ?_
            refine R.mvE rfl (by conv => lhs; whnf) ?_
            refine R.mvE rfl (by conv => lhs; whnf) ?_
            refine R.callv rfl rfl rfl (slices_Contains_Id_d _ _ a1 (ha1.mono (sb3_1.trans (s17.trans (s_l1.trans (s32.trans (sF32_0_0_3.trans (s_l2.trans s_c3))))))) yl2) ?_
            refine TL.nil (Post.thnN ?_)
            refine T.cutK (ι := Value × (List Int) × Chunk) (fun ⟨v13c4, x13c4, c13c4⟩ H' L' ds' => Has L' [[(b7, .cells #[.slice Ab7l2_0 xb7l2_0.length pb7l2_0] 46)], [(b6, .cells #[.slice none 0 0] 46)], cb7l2_0, c13c4] ∧ OwnS (intE .i64) 3 H' v13c4 x13c4 c13c4 ∧ (if yl2 ∈ a1 then (a2 x13c3) else x13c3 : (List Int)) = x13c4) (fun ⟨v13c4, x13c4, c13c4⟩ => [(1, .slice Aa1 a1.length ca1), (2, fa2), (3, .pointer (some ⟨b3, 0, none⟩)), (6, .pointer (some ⟨b6, 0, none⟩)), (7, .pointer (some ⟨b7, 0, none⟩)), (12, .int .u64 yl2), (13, v13c4), (32, .slice A32_0_0 r32.length p32_0_0), (33, .int .i64 (r32.length : Int)), (34, .int .i64 (kl2 : Int))]) ?_ ?_
            · refine T.condD rfl (fun c65 => ?_) (fun c65 => ?_)
              · refine T.set 65 (.bool true) (congrArg Value.bool (decide_eq_true c65)) ?_
                refine T.region ?_
                refine R.mvE rfl (by conv => lhs; whnf) ?_
                refine R.mvE rfl (by conv => lhs; whnf) ?_
                refine TL.call [false, false, false, true] rfl rfl rfl (ha2 _ (sb3_1.trans (s17.trans (s_l1.trans (s32.trans (sF32_0_0_3.trans (s_l2.trans s_c3)))))) _ _ _ (by first | omega | (simp; done) | (simp; omega) | (simp at *; omega)) w13c3) ?_
                intro v68 H68 L68 s68 q68
                obtain ⟨u68, c68, hv68, hc68, w68⟩ := q68
                subst hv68; subst hc68
                obtain ⟨x68, e68⟩ : ∃ x, x = (a2 x13c3) := ⟨_, rfl⟩
                rw [← e68] at w68
                obtain ⟨A68, p68, rfl, m68, n68⟩ := OwnS.shape w68
                refine R.asE rfl (by conv => lhs; whnf) ?_
                refine TL.nil (Post.thnN ?_)
                exact ⟨(.slice A68 x68.length p68, x68, c68), s68, ⟨(Has.cons (.tl .hd) (Has.cons (.tl .hd) (Has.cons (.tl .hd) (Has.cons .hd Has.nil)))), w68, (by subst e68; rw [if_pos c65])⟩, rfl, rfl, rfl, rfl, rfl, rfl, rfl, rfl, rfl, rfl, trivial⟩
              · refine T.set 65 (.bool false) (congrArg Value.bool (decide_eq_false c65)) ?_
                refine T.skip (Post.thnN ?_)
                exact ⟨(.slice A13c3 x13c3.length p13c3, x13c3, c13c3), HLe.refl _, ⟨(Has.cons .hd (Has.cons .hd (Has.cons .hd (Has.cons .hd Has.nil)))), w13c3, (by rw [if_neg c65])⟩, rfl, rfl, rfl, rfl, rfl, rfl, rfl, rfl, rfl, rfl, trivial⟩
            · intro ⟨v13c4, x13c4, c13c4⟩ σ_c4 H_c4 L_c4 ds_c4 s_c4 hI_c4
              obtain ⟨hLc4, w13c4, hTc4⟩ := hI_c4
              obtain ⟨A13c4, p13c4, rfl, m13c4, n13c4_⟩ := OwnS.shape w13c4
              refine T.has hLc4 ?_
              refine T.seq ?_
              refine T.region ?_
              refine R.mvE rfl (by conv => lhs; whnf) ?_
              refine R.len Try.underlying37 rfl rfl ?_
              refine R.gtr rfl rfl rfl ?_
              refine TL.nil (Post.thnN ?_)
              refine T.condD rfl (fun c71 => ?_) (fun c71 => ?_)
              · refine T.set 71 (.bool true) (congrArg Value.bool (decide_eq_true c71)) ?_
                refine T.region ?_
                refine R.fldA Try.underlying46 rfl Try.sizeOf44 (by decide) rfl rfl ?_
                refine R.ld Try.isAgg44 rfl rfl .hd rfl ?_
                refine R.mvE rfl (by conv => lhs; whnf) ?_
                refine R.mvE rfl (by conv => lhs; whnf) ?_
                refine R.bld (cs := [.int .u64 yl2, .slice A13c4 x13c4.length p13c4]) rfl (fun _ => by kernel_rfl) ?_
                refine TL.shut (.tl (.tl (.tl .hd))) ?_
                intro HF13c4_4 sF13c4_4 qF13c4_4
                have fF13c4_4 := OwnS.read w13c4 sF13c4_4 qF13c4_4
                refine R.bs (e := 55) (cs := [.int .u64 yl2, .slice A13c4 x13c4.length p13c4]) rfl (fun _ => by kernel_rfl) ?_
                intro b77
                have w77 : OwnS listedE 55 HF13c4_4 (.slice (some ⟨b77, 0, none⟩) 1 1) [(yl2, x13c4)] [(b77, .cells #[.int .u64 yl2, .slice A13c4 x13c4.length p13c4] 55)] := OwnS.lit (xs := [(yl2, x13c4)]) (cellsOf_cons (a := [.int .u64 yl2, .slice A13c4 x13c4.length p13c4]) ⟨_, rfl, fF13c4_4⟩ cellsOf_nil) (by show 1 ≤ maxLen; decide)
                obtain ⟨k78, y78, r78⟩ := Src.ownA w77
                refine R.app (E := listedE) (e := 55) (xs := xb7l2_0) (ys := [(yl2, x13c4)]) Try_ty44 rfl rfl rfl (OwnS.mono wb7l2_0 (s_c3.trans (s_c4.trans sF13c4_4))) (.tl (.tl (.tl .hd))) (r78 _ .hd) y78 (by (try simp only [List.length_append, List.length_cons, List.length_nil, List.length_replicate, List.length_take, List.length_drop]); omega) (by (try simp only [List.length_append, List.length_cons, List.length_nil, List.length_replicate, List.length_take, List.length_drop]); omega) ?_
                intro v78 c78 w78
                obtain ⟨A78, p78, rfl, m78, n78⟩ := OwnS.shape w78
                refine TL.del (.tl .hd) ?_
                refine R.fldA Try.underlying46 rfl Try.sizeOf44 (by decide) rfl rfl ?_
                refine R.stX (old := [.slice Ab7l2_0 xb7l2_0.length pb7l2_0]) (l := [.slice A78 (xb7l2_0 ++ [(yl2, x13c4)]).length p78]) (new := [.slice A78 (xb7l2_0 ++ [(yl2, x13c4)]).length p78]) (et := 46) Try.sizeOf44 rfl rfl rfl (cells1 rfl) rfl (by show 0 + 1 ≤ 1; decide) rfl (all_one rfl) (.tl .hd) ?_
                refine TL.nil (Post.blkN ?_)
                refine id (Post.thnN ?_)
                refine T.region ?_
                refine R.addI rfl rfl rfl (by omega) ?_
                refine R.mvE rfl (by conv => lhs; whnf) ?_
                refine TL.nil (Post.thnN ?_)
                exact ⟨(kl2 + 1, .slice A78 (xb7l2_0 ++ [(yl2, x13c4)]).length p78, (xb7l2_0 ++ [(yl2, x13c4)]), c78), (s_l2.trans (s_c3.trans (s_c4.trans sF13c4_4))), ⟨(by omega), (Has.cons (.tl .hd) (Has.cons (.tl .hd) (Has.cons .hd Has.nil))), w78, (by first | omega | (simp; done) | (simp; omega) | (simp at *; omega)), (by subst er43; rw [← hQl2, drop_cons hyl2, index_turned_l2]; rw [LR.seq_go, hTc3, LR.seq_go, hTc4, LR.seq_go, if_pos c71])⟩, by show r32.length - (kl2 + 1) < r32.length - kl2; omega, rfl, rfl, rfl, rfl, rfl, rfl, rfl, rfl, trivial⟩
              · refine T.set 71 (.bool false) (congrArg Value.bool (decide_eq_false c71)) ?_
                refine T.skip (Post.blkN ?_)
                refine id (Post.thnN ?_)
                refine T.region ?_
                refine R.addI rfl rfl rfl (by omega) ?_
                refine R.mvE rfl (by conv => lhs; whnf) ?_
                refine TL.nil (Post.thnN ?_)
                exact ⟨(kl2 + 1, .slice Ab7l2_0 xb7l2_0.length pb7l2_0, xb7l2_0, cb7l2_0), (s_l2.trans (s_c3.trans s_c4)), ⟨(by omega), (Has.cons .hd (Has.cons .hd (Has.cons .hd Has.nil))), (OwnS.mono wb7l2_0 (s_c3.trans s_c4)), (by first | omega | (simp; done) | (simp; omega) | (simp at *; omega)), (by subst er43; rw [← hQl2, drop_cons hyl2, index_turned_l2]; rw [LR.seq_go, hTc3, LR.seq_go, hTc4, LR.seq_go, if_neg c71])⟩, by show r32.length - (kl2 + 1) < r32.length - kl2; omega, rfl, rfl, rfl, rfl, rfl, rfl, rfl, rfl, trivial⟩
        · refine T.exit (Post.thnE (Post.thnE (Post.blkX ?_)))
          have hEl2 : index_turned_l2 a0 a1 a2 r32 [] = xb7l2_0 := (hQl2.symm.trans (by rw [show kl2 = r32.length by omega, List.drop_length, index_turned_l2]))
          refine id (Post.thnN ?_)
          refine T.seq ?_
          refine T.region ?_
          refine R.ldX (cs := [.slice Ab7l2_0 xb7l2_0.length pb7l2_0]) (l := [.slice Ab7l2_0 xb7l2_0.length pb7l2_0]) Try.isAgg46 Try.sizeOf46 rfl rfl .hd rfl rfl ?_
          refine R.stX (old := [.slice none 0 0]) (l := [.slice Ab7l2_0 xb7l2_0.length pb7l2_0]) (new := [.slice Ab7l2_0 xb7l2_0.length pb7l2_0]) (et := 46) Try.sizeOf46 rfl rfl rfl rfl rfl (by show 0 + 1 ≤ 1; decide) rfl (all_one rfl) (.tl .hd) ?_
          refine TL.nil (Post.thnN ?_)
          refine T.has (Has.cons (.tl (.tl .hd)) (Has.cons (.tl .hd) Has.nil)) ?_
          refine T.ret ?_
          have hM : index_turned_m a0 a1 a2 = xb7l2_0 := by subst er32; subst e17; rw [index_turned_m, hEl1, LR.seq_go, LR.seq_go, hEl2, LR.seq_go]
          exact finR1 (v := .agg #[.slice Ab7l2_0 xb7l2_0.length pb7l2_0]) [cb7l2_0] rfl (.cellA (cs := [.slice Ab7l2_0 xb7l2_0.length pb7l2_0]) (l := [.slice Ab7l2_0 xb7l2_0.length pb7l2_0]) Try.isAgg46 Try.sizeOf46 rfl (.tl .hd) rfl rfl) (List.sublist_append_left ([cb7l2_0] : Own) _) ⟨.slice Ab7l2_0 xb7l2_0.length pb7l2_0, cb7l2_0, by first | rw [hM] | rfl, rfl, by rw [hM]; exact wb7l2_0⟩

def index_Put_1_m (q0 : Int) (a0 : List Int) : (List Int) :=
  LR.seq (slices_BinarySearch_int_m a0 q0) (fun r9 => (ins a0 r9.1.toNat q0))
set_option maxHeartbeats 3200000 in
theorem index_Put_1_c (H : Heap) (b1000 : Nat) (q0 : Int) (hb0 : H b1000 = some (.cells #[.int .i64 q0] 3)) (va0 : Value) (a0 : List Int) (Ca0 : Chunk) (ha0 : OwnS (intE .i64) 3 H va0 a0 Ca0) (hl : a0.length ≤ 2000000) : Fc Try.prog (.func (.func 94) #[] ([.pointer (some ⟨b1000, 0, none⟩)] : List Value).toArray) [va0] H [Ca0] (fun v' H' L' => ∃ u0_0 c0_0, v' = u0_0 ∧ L' = [c0_0] ∧ OwnS (intE .i64) 3 H' u0_0 (index_Put_1_m q0 a0) c0_0) := by
  refine Fc.of_body (N := 17) Try.func94 rfl (by kernel_rfl) rfl rfl ?_
  intro w0
  obtain ⟨Aa0, pa0, rfl, ma0, na0⟩ := OwnS.shape ha0
  refine T.seq ?_
  refine T.region ?_
  refine R.asE rfl (by conv => lhs; whnf) ?_
  refine TL.nil (Post.thnN ?_)
  refine T.seq ?_
  refine T.region ?_
  refine R.mvE rfl (by conv => lhs; whnf) ?_
  refine R.ldH Try.isAgg3 rfl rfl hb0 rfl ?_
  obtain ⟨r9, er9⟩ : ∃ r, r = (slices_BinarySearch_int_m a0 q0) := ⟨_, rfl⟩
  refine R.callvB (v := .tuple #[.int .i64 r9.1, .bool r9.2]) rfl rfl rfl (fun HB9 sB9 qB9 => by have fB9_0 := OwnS.read ha0 sB9 (In.all .hd qB9); exact (by rw [er9]; exact slices_BinarySearch_int_c _ _ a0 fB9_0 (q0) (by first | omega | (simp; done) | (simp; omega) | (simp at *; omega)))) ?_
  have tb9 := bsi_rng _ _ _ er9 (by first | omega | (simp; done) | (simp; omega) | (simp at *; omega))
  refine R.mvE rfl (by conv => lhs; whnf) ?_
  refine R.ext rfl rfl rfl ?_
  refine R.ext rfl rfl rfl ?_
  refine R.asE rfl (by conv => lhs; whnf) ?_
  refine R.asE rfl (by conv => lhs; whnf) ?_
  refine TL.nil (Post.thnN ?_)
  refine T.seq ?_
  refine T.region ?_
  refine R.mvE rfl (by conv => lhs; whnf) ?_
  refine R.mvE rfl (by conv => lhs; whnf) ?_
  refine R.ldH Try.isAgg3 rfl rfl hb0 rfl ?_
  refine R.bs rfl (run_buildSlice1 Try.underlying37 Try.sizeOf3 Try.zeroValue3 rfl rfl) ?_
  intro b15
  have w15 : OwnS (intE .i64) 3 H (.slice (some ⟨b15, 0, none⟩) 1 1) [q0] [(b15, .cells #[.int .i64 q0] 3)] := OwnS.lit (xs := [q0]) (cellsOf_cons (a := [.int .i64 q0]) rfl cellsOf_nil) (by show 1 ≤ maxLen; decide)
  refine TL.shut .hd ?_
  intro HF15_1 sF15_1 qF15_1
  have fF15_1 := OwnS.read w15 sF15_1 qF15_1
  refine TL.call [true] rfl rfl rfl (insert_c _ _ a0 _ (OwnS.mono ha0 sF15_1) (q0) _ _ (shut1 qF15_1) (r9.1) (by first | omega | (simp; done) | (simp; omega) | (simp at *; omega)) (by first | omega | (simp; done) | (simp; omega) | (simp at *; omega))) ?_
  intro v16 H16 L16 s16 q16
  obtain ⟨c16, rfl, w16⟩ := q16
  obtain ⟨x16, e16⟩ : ∃ x, x = (ins a0 r9.1.toNat q0) := ⟨_, rfl⟩
  rw [← e16] at w16
  obtain ⟨A16, p16, rfl, m16, n16⟩ := OwnS.shape w16
  refine R.asE rfl (by conv => lhs; whnf) ?_
  refine TL.nil (Post.thnN ?_)
  refine T.has (Has.cons .hd Has.nil) ?_
  refine T.ret ?_
  have hM : index_Put_1_m q0 a0 = x16 := by subst e16; subst er9; rw [index_Put_1_m, LR.seq_go]
  exact fin1L (v := .slice A16 x16.length p16) [c16] rfl rfl (List.Sublist.refl _) ⟨.slice A16 x16.length p16, c16, by first | rw [hM] | rfl, rfl, by rw [hM]; exact w16⟩

def index_Put_m (a0 : (List (Int × (List Int)))) (a1 : Int) (a2 : List Int) : ((List (Int × (List Int)))) × Int :=
  if ((index_Check_m a0) : Int) ≠ 0 then ((([] : (List (Int × (List Int)))), 240)) else (if (!(index_table_m a1)) = true then ((([] : (List (Int × (List Int)))), 2)) else (if ((types_Check_m a2) : Int) ≠ 0 then ((([] : (List (Int × (List Int)))), 130)) else (LR.seq (index_in_m a0 a1) (fun r26 => if (0 : Int) < (r26.length : Int) then ((([] : (List (Int × (List Int)))), 5)) else (LR.seq (index_Keys_m a2) (fun r32 => LR.seq (index_turned_m a0 r32 ((fun z => index_Put_1_m a1 z))) (fun r34 => (r34, 0))))))))
set_option maxHeartbeats 3200000 in
theorem index_Put_c (H : Heap) (a0 : (List (Int × (List Int)))) (va0_0 : Value) (ha0_0 : RdS listedE H va0_0 a0) (a1 : Int) (va2 : Value) (a2 : List Int) (ha2 : RdS (intE .u64) H va2 a2) (hn : a0.length ≤ 1000) (hr : ∀ r ∈ a0, r.2.length ≤ 1000) : Fc Try.prog (fnv 40) [.agg #[va0_0], .int .i64 a1, va2] H [] (fun v' H' L' => ∃ u0_0 c0_0, v' = .tuple #[.agg #[u0_0], .int .i64 (index_Put_m a0 a1 a2).2] ∧ L' = [c0_0] ∧ OwnS listedE 55 H' u0_0 (index_Put_m a0 a1 a2).1 c0_0) := by
  refine Fc.of_body (N := 35) Try.func40 rfl (by kernel_rfl) rfl rfl ?_
  intro w0
  obtain ⟨Aa0_0, ca0_0, rfl, hca0_0, hda0_0, ha0_0⟩ := ha0_0.shape
  obtain ⟨Aa2, ca2, rfl, hca2, hda2, ha2⟩ := ha2.shape
  refine T.seq ?_
  refine T.region ?_
  refine R.box rfl (by conv => lhs; whnf) ?_
  intro b3
  refine R.box rfl (by conv => lhs; whnf) ?_
  intro b4
  refine R.alloc Try.zeroValue46 rfl ?_
  intro b6
  refine R.asE rfl (by conv => lhs; whnf) ?_
  refine TL.shut (.tl .hd) ?_
  intro Hb4_1 sb4_1 qb4_1
  have hb4_1 : Hb4_1 b4 = some (.cells #[.int .i64 a1] 3) := shut1 qb4_1
  refine TL.shut (.tl .hd) ?_
  intro Hb3_2 sb3_2 qb3_2
  have hb3_2 : Hb3_2 b3 = some (.cells #[.slice Aa0_0 a0.length ca0_0] 46) := shut1 qb3_2
  refine TL.nil (Post.thnN ?_)
  refine T.seq ?_
  refine T.block ?_
  refine T.seq ?_
  refine T.region ?_
  refine R.ldXH (cs := [.slice Aa0_0 a0.length ca0_0]) (l := [.slice Aa0_0 a0.length ca0_0]) Try.isAgg46 Try.sizeOf46 rfl rfl hb3_2 rfl rfl ?_
  refine R.callv rfl rfl rfl (index_Check_c _ a0 _ (ha0_0.mono (sb4_1.trans sb3_2)) (by first | omega | assumption | (simp; done) | (simp; omega) | (simp at *; omega)) (by first | assumption | exact rows_le (by assumption) (by omega) | (intro r h; simp at h; done))) ?_
  refine R.neq rfl rfl rfl ?_
  refine R.asE rfl (by conv => lhs; whnf) ?_
  refine TL.nil (Post.thnN ?_)
  refine T.condD rfl (fun c8 => ?_) (fun c8 => ?_)
  · refine T.set 8 (.bool true) (congrArg Value.bool (decide_eq_true c8)) ?_
    refine T.seq ?_
    refine T.region ?_
    refine R.bld (cs := [.slice none 0 0]) rfl (fun _ => by kernel_rfl) ?_
    refine R.stX (old := [.slice none 0 0]) (l := [.slice none 0 0]) (new := [.slice none 0 0]) (et := 46) Try.sizeOf46 rfl rfl rfl rfl rfl (by show 0 + 1 ≤ 1; decide) rfl (all_one rfl) .hd ?_
    refine R.asE rfl (by conv => lhs; whnf) ?_
    refine TL.nil (Post.thnN ?_)
    refine T.has (Has.none (Has.cons .hd Has.nil)) ?_
    refine T.ret (Post.blkR (Post.thnR ?_))
    have hM : index_Put_m a0 a1 a2 = (([] : (List (Int × (List Int)))), 240) := by rw [index_Put_m, if_pos c8]
    exact finR2 (v := .agg #[.slice none 0 0]) (v' := .int .i64 240) [[]] rfl (.cellA (cs := [.slice none 0 0]) (l := [.slice none 0 0]) Try.isAgg46 Try.sizeOf46 rfl (.tl .hd) rfl rfl) (.tmp rfl) (List.sublist_append_left ([[]] : Own) _) ⟨.slice none 0 0, [], by first | rw [hM] | rfl, rfl, by rw [hM]; exact OwnS.nil⟩
  · refine T.set 8 (.bool false) (congrArg Value.bool (decide_eq_false c8)) ?_
    refine T.seq ?_
    refine T.region ?_
    refine R.ldH Try.isAgg3 rfl rfl (sb3_2 _ _ hb4_1) rfl ?_
    refine R.callv rfl rfl rfl (index_table_c _ (a1)) ?_
    refine R.not rfl rfl ?_
    refine R.asE rfl (by conv => lhs; whnf) ?_
    refine TL.nil (Post.thnN ?_)
    refine T.cond rfl (fun c13 => ?_) (fun c13 => ?_)
    · refine T.set 13 (.bool true) (congrArg Value.bool c13) ?_
      refine T.seq ?_
      refine T.region ?_
      refine R.bld (cs := [.slice none 0 0]) rfl (fun _ => by kernel_rfl) ?_
      refine R.stX (old := [.slice none 0 0]) (l := [.slice none 0 0]) (new := [.slice none 0 0]) (et := 46) Try.sizeOf46 rfl rfl rfl rfl rfl (by show 0 + 1 ≤ 1; decide) rfl (all_one rfl) .hd ?_
      refine R.asE rfl (by conv => lhs; whnf) ?_
      refine TL.nil (Post.thnN ?_)
      refine T.has (Has.none (Has.cons .hd Has.nil)) ?_
      refine T.ret (Post.blkR (Post.thnR ?_))
      have hM : index_Put_m a0 a1 a2 = (([] : (List (Int × (List Int)))), 2) := by rw [index_Put_m, if_neg c8, if_t c13]
      exact finR2 (v := .agg #[.slice none 0 0]) (v' := .int .i64 2) [[]] rfl (.cellA (cs := [.slice none 0 0]) (l := [.slice none 0 0]) Try.isAgg46 Try.sizeOf46 rfl (.tl .hd) rfl rfl) (.tmp rfl) (List.sublist_append_left ([[]] : Own) _) ⟨.slice none 0 0, [], by first | rw [hM] | rfl, rfl, by rw [hM]; exact OwnS.nil⟩
    · refine T.set 13 (.bool false) (congrArg Value.bool c13) ?_
      refine T.seq ?_
      refine T.region ?_
      refine R.mvE rfl (by conv => lhs; whnf) ?_
      refine R.callv rfl rfl rfl (types_Check_c _ _ a2 (ha2.mono (sb4_1.trans sb3_2))) ?_
      refine R.neq rfl rfl rfl ?_
      refine R.asE rfl (by conv => lhs; whnf) ?_
      refine TL.nil (Post.thnN ?_)
      refine T.condD rfl (fun c18 => ?_) (fun c18 => ?_)
      · refine T.set 18 (.bool true) (congrArg Value.bool (decide_eq_true c18)) ?_
        refine T.seq ?_
        refine T.region ?_
        refine R.bld (cs := [.slice none 0 0]) rfl (fun _ => by kernel_rfl) ?_
        refine R.stX (old := [.slice none 0 0]) (l := [.slice none 0 0]) (new := [.slice none 0 0]) (et := 46) Try.sizeOf46 rfl rfl rfl rfl rfl (by show 0 + 1 ≤ 1; decide) rfl (all_one rfl) .hd ?_
        refine R.asE rfl (by conv => lhs; whnf) ?_
        refine TL.nil (Post.thnN ?_)
        refine T.has (Has.none (Has.cons .hd Has.nil)) ?_
        refine T.ret (Post.blkR (Post.thnR ?_))
        have hM : index_Put_m a0 a1 a2 = (([] : (List (Int × (List Int)))), 130) := by rw [index_Put_m, if_neg c8, if_f c13, if_pos c18]
        exact finR2 (v := .agg #[.slice none 0 0]) (v' := .int .i64 130) [[]] rfl (.cellA (cs := [.slice none 0 0]) (l := [.slice none 0 0]) Try.isAgg46 Try.sizeOf46 rfl (.tl .hd) rfl rfl) (.tmp rfl) (List.sublist_append_left ([[]] : Own) _) ⟨.slice none 0 0, [], by first | rw [hM] | rfl, rfl, by rw [hM]; exact OwnS.nil⟩
      · refine T.set 18 (.bool false) (congrArg Value.bool (decide_eq_false c18)) ?_
        refine T.seq ?_
        refine T.region ?_
        refine R.ldXH (cs := [.slice Aa0_0 a0.length ca0_0]) (l := [.slice Aa0_0 a0.length ca0_0]) Try.isAgg46 Try.sizeOf46 rfl rfl hb3_2 rfl rfl ?_
        refine R.ldH Try.isAgg3 rfl rfl (sb3_2 _ _ hb4_1) rfl ?_
        obtain ⟨r26, er26⟩ : ∃ r, r = (index_in_m a0 a1) := ⟨_, rfl⟩
        refine TL.call [] rfl rfl rfl (index_in_c _ a0 _ (ha0_0.mono (sb4_1.trans sb3_2)) (a1) (by first | omega | (simp; done) | (simp; omega) | (simp at *; omega))) ?_
        intro v26 H26 L26 s26 q26
        rw [← er26] at q26
        obtain ⟨u26_0_0, c26_0_0, rfl, rfl, w26_0_0⟩ := q26
        obtain ⟨A26_0_0, p26_0_0, rfl, m26_0_0, n26_0_0⟩ := OwnS.shape w26_0_0
        have ti26 := in_len _ _ _ er26
        refine R.len Try.underlying22 rfl rfl ?_
        refine R.gtr rfl rfl rfl ?_
        refine R.asE rfl (by conv => lhs; whnf) ?_
        refine TL.nil (Post.thnN ?_)
        refine T.condD rfl (fun c23 => ?_) (fun c23 => ?_)
        · refine T.set 23 (.bool true) (congrArg Value.bool (decide_eq_true c23)) ?_
          refine T.seq ?_
          refine T.region ?_
          refine R.bld (cs := [.slice none 0 0]) rfl (fun _ => by kernel_rfl) ?_
          refine R.stX (old := [.slice none 0 0]) (l := [.slice none 0 0]) (new := [.slice none 0 0]) (et := 46) Try.sizeOf46 rfl rfl rfl rfl rfl (by show 0 + 1 ≤ 1; decide) rfl (all_one rfl) (.tl .hd) ?_
          refine R.asE rfl (by conv => lhs; whnf) ?_
          refine TL.nil (Post.thnN ?_)
          refine T.has (Has.none (Has.cons (.tl .hd) Has.nil)) ?_
          refine T.ret (Post.blkR (Post.thnR ?_))
          have hM : index_Put_m a0 a1 a2 = (([] : (List (Int × (List Int)))), 5) := by subst er26; rw [index_Put_m, if_neg c8, if_f c13, if_neg c18, LR.seq_go, if_pos c23]
          exact finR2 (v := .agg #[.slice none 0 0]) (v' := .int .i64 5) [[]] rfl (.cellA (cs := [.slice none 0 0]) (l := [.slice none 0 0]) Try.isAgg46 Try.sizeOf46 rfl (.tl .hd) rfl rfl) (.tmp rfl) (List.sublist_append_left ([[]] : Own) _) ⟨.slice none 0 0, [], by first | rw [hM] | rfl, rfl, by rw [hM]; exact OwnS.nil⟩
        · refine T.set 23 (.bool false) (congrArg Value.bool (decide_eq_false c23)) ?_
          refine T.skip (Post.blkN ?_)
          refine id (Post.thnN ?_)
          refine T.seq ?_
          refine T.draw Try_mixed (by kernel_rfl) ?_
          refine Plan.v 0 [1, 2, 3, 4, 5, 6] (by kernel_rfl) (by kernel_rfl) (by kernel_rfl) (by kernel_rfl) rfl (fun _ _ h_ => R.ldXH (cs := [.slice Aa0_0 a0.length ca0_0]) (l := [.slice Aa0_0 a0.length ca0_0]) Try.isAgg46 Try.sizeOf46 rfl rfl (s26 _ _ hb3_2) rfl rfl (TL.nil h_)) ?_
          refine Plan.v 1 [2, 3, 4, 5, 6] (by kernel_rfl) (by kernel_rfl) (by kernel_rfl) (by kernel_rfl) rfl (fun _ _ h_ => R.mvE rfl (by conv => lhs; whnf) (TL.nil h_)) ?_
          refine Plan.v 3 [2, 4, 5, 6] (by kernel_rfl) (by kernel_rfl) (by kernel_rfl) (by kernel_rfl) rfl (fun _ _ h_ => R.mkf (cs := [_]) rfl rfl (TL.nil h_)) ?_
          refine Plan.s1 2 [4, 5, 6] (by kernel_rfl) (by kernel_rfl) rfl ?_
          obtain ⟨r32, er32⟩ : ∃ r, r = (index_Keys_m a2) := ⟨_, rfl⟩
          refine TL.call [] rfl rfl rfl (index_Keys_c _ _ a2 (ha2.mono (sb4_1.trans (sb3_2.trans s26)))) ?_
          intro v32 H32 L32 s32 q32
          rw [← er32] at q32
          obtain ⟨u32_0_0, c32_0_0, rfl, rfl, w32_0_0⟩ := q32
          obtain ⟨A32_0_0, p32_0_0, rfl, m32_0_0, n32_0_0⟩ := OwnS.shape w32_0_0
          have tK32 := Keys_len _ _ er32
          refine TL.nil (Plan.e1 (s32) ?_)
          refine Plan.s1 4 [5, 6] (by kernel_rfl) (by kernel_rfl) rfl ?_
          refine TL.shut .hd ?_
          intro HF32_0_0_4 sF32_0_0_4 qF32_0_0_4
          have fF32_0_0_4 := OwnS.read w32_0_0 sF32_0_0_4 qF32_0_0_4
          obtain ⟨r34, er34⟩ : ∃ r, r = (index_turned_m a0 r32 ((fun z => index_Put_1_m a1 z))) := ⟨_, rfl⟩
          refine TL.call [] rfl rfl rfl (index_turned_c _ a0 _ (ha0_0.mono (sb4_1.trans (sb3_2.trans (s26.trans (s32.trans sF32_0_0_4))))) _ r32 fF32_0_0_4 _ (fun z => index_Put_1_m a1 z) (fun H2 h2 vz z cz hz hO => index_Put_1_c H2 b4 (a1) (h2 _ _ ((sb3_2.trans (s26.trans (s32.trans sF32_0_0_4))) _ _ hb4_1)) vz z cz hO (by first | omega | (simp; done) | (simp; omega) | (simp at *; omega))) rfl (by first | omega | (simp; done) | (simp; omega) | (simp at *; omega)) (by first | omega | (simp; done) | (simp; omega) | (simp at *; omega)) (by first | omega | (simp; done) | (simp; omega) | (simp at *; omega))) ?_
          intro v34 H34 L34 s34 q34
          rw [← er34] at q34
          obtain ⟨u34_0_0, c34_0_0, rfl, rfl, w34_0_0⟩ := q34
          obtain ⟨A34_0_0, p34_0_0, rfl, m34_0_0, n34_0_0⟩ := OwnS.shape w34_0_0
          refine TL.nil (Plan.e1 ((sF32_0_0_4.trans s34)) ?_)
          refine Plan.s1 5 [6] (by kernel_rfl) (by kernel_rfl) rfl ?_
          refine R.stX (old := [.slice none 0 0]) (l := [.slice A34_0_0 r34.length p34_0_0]) (new := [.slice A34_0_0 r34.length p34_0_0]) (et := 46) Try.sizeOf46 rfl rfl rfl rfl rfl (by show 0 + 1 ≤ 1; decide) rfl (all_one rfl) (.tl (.tl .hd)) ?_
          refine TL.nil (Plan.e0 (HLe.refl _) ?_)
          refine Plan.v 6 [] (by kernel_rfl) (by kernel_rfl) (by kernel_rfl) (by kernel_rfl) rfl (fun _ _ h_ => R.asE rfl (by conv => lhs; whnf) (TL.nil h_)) ?_
          refine Plan.done (Post.thnN ?_)
          refine T.has (Has.cons .hd (Has.cons (.tl .hd) Has.nil)) ?_
          refine T.ret ?_
          have hM : index_Put_m a0 a1 a2 = (r34, 0) := by subst er34; subst er32; subst er26; rw [index_Put_m, if_neg c8, if_f c13, if_neg c18, LR.seq_go, if_neg c23, LR.seq_go, LR.seq_go]
          exact finR2 (v := .agg #[.slice A34_0_0 r34.length p34_0_0]) (v' := .int .i64 0) [c34_0_0] rfl (.cellA (cs := [.slice A34_0_0 r34.length p34_0_0]) (l := [.slice A34_0_0 r34.length p34_0_0]) Try.isAgg46 Try.sizeOf46 rfl (.tl .hd) rfl rfl) (.tmp rfl) (List.sublist_append_left ([c34_0_0] : Own) _) ⟨.slice A34_0_0 r34.length p34_0_0, c34_0_0, by first | rw [hM] | rfl, rfl, by rw [hM]; exact w34_0_0⟩

def index_Drop_1_1_1_m (q0 : Int) (a0 : Int) : Bool :=
  (decide (a0 = q0))
def index_Drop_1_m (q0 : Int) (a0 : List Int) : (List Int) :=
  LR.seq (slices_DeleteFunc_int_m a0 ((fun z0 => index_Drop_1_1_1_m q0 z0))) (fun r6 => r6)
def index_Drop_m (a0 : (List (Int × (List Int)))) (a1 : Int) : ((List (Int × (List Int)))) × Int :=
  if ((index_Check_m a0) : Int) ≠ 0 then ((([] : (List (Int × (List Int)))), (index_Check_m a0))) else (LR.seq (index_in_m a0 a1) (fun r16 => if (r16.length : Int) = 0 then ((([] : (List (Int × (List Int)))), 4)) else (LR.seq (index_turned_m a0 r16 ((fun z => index_Drop_1_m a1 z))) (fun r24 => (r24, 0)))))
end Go.SX

set_option linter.unusedVariables false
set_option linter.unusedSimpArgs false
namespace Go.SX
open Go Go.Proofs

theorem turned_l2_len (a : List (Int × List Int)) (ids : List Int) (g : List Int → List Int) (B : Nat) (hg : ∀ z : List Int, (g z).length ≤ z.length + 1) (hB : ∀ q ∈ a, q.2.length ≤ B) : ∀ (l : List Int) (s : List (Int × List Int)), (∀ q ∈ s, q.2.length ≤ B + 1) → (index_turned_l2 a ids g l s).length ≤ s.length + l.length ∧ ∀ q ∈ index_turned_l2 a ids g l s, q.2.length ≤ B + 1
  | [], s, hs => ⟨Nat.le_refl _, hs⟩
  | y :: ys, s, hs => by
    rw [index_turned_l2]
    simp only [LR.seq_go]
    generalize slices_BinarySearchFunc_Listed_m a (y, []) (fun z0 z1 => index_compare_m z0 z1) = r
    have h1 : (if r.2 = true then (a.getD r.1.toNat (0, [])).2 else [] : List Int).length ≤ B := by
      split
      · rcases getD_mem_or a r.1.toNat (0, []) with h | h
        · exact hB _ h
        · rw [h]; exact Nat.zero_le _
      · exact Nat.zero_le _
    generalize (if r.2 = true then (a.getD r.1.toNat (0, [])).2 else [] : List Int) = t at h1 ⊢
    have h2 : (if y ∈ ids then g t else t).length ≤ B + 1 := by
      split
      · have := hg t; omega
      · omega
    generalize (if y ∈ ids then g t else t) = u at h2 ⊢
    split
    · have := turned_l2_len a ids g B hg hB ys (s ++ [(y, u)]) (fun q hq => by
        rcases List.mem_append.1 hq with h | h
        · exact hs q h
        · rw [List.mem_singleton] at h; subst h; exact h2)
      rw [List.length_append, List.length_cons, List.length_nil] at this
      rw [List.length_cons]
      exact ⟨by omega, this.2⟩
    · have := turned_l2_len a ids g B hg hB ys s hs
      rw [List.length_cons]
      exact ⟨by omega, this.2⟩
theorem turned_l1_eq : ∀ (l : List (Int × List Int)) (s : List Int), index_turned_l1 l s = s ++ l.map Prod.fst
  | [], s => by simp [index_turned_l1]
  | y :: ys, s => by rw [index_turned_l1, turned_l1_eq ys]; simp
theorem turned_len (a : List (Int × List Int)) (ids : List Int) (g : List Int → List Int) (hg : ∀ z : List Int, (g z).length ≤ z.length + 1) :
    (index_turned_m a ids g).length ≤ ids.length + a.length ∧ ∀ B, (∀ q ∈ a, q.2.length ≤ B) → ∀ q ∈ index_turned_m a ids g, q.2.length ≤ B + 1 := by
  unfold index_turned_m
  simp only [LR.seq_go]
  rw [turned_l1_eq]
  have ho := once_len (ids ++ a.map Prod.fst) _ rfl
  rw [List.length_append, List.length_map] at ho
  refine ⟨?_, fun B hB => (turned_l2_len a ids g B hg hB _ [] (by simp)).2⟩
  obtain ⟨B, hB⟩ : ∃ B, ∀ q ∈ a, q.2.length ≤ B := by
    clear ho
    induction a with
    | nil => exact ⟨0, fun q h => by cases h⟩
    | cons x a ih =>
      obtain ⟨B, h⟩ := ih
      exact ⟨B + x.2.length, fun q hq => by
        rcases List.mem_cons.1 hq with e | h1
        · subst e; omega
        · have := h q h1; omega⟩
  have := (turned_l2_len a ids g B hg hB (index_once_m (ids ++ a.map Prod.fst)) [] (by simp)).1
  rw [List.length_nil] at this; omega
theorem put1_len (n : Int) (z : List Int) : (index_Put_1_m n z).length ≤ z.length + 1 := by
  unfold index_Put_1_m
  rw [LR.seq_go]
  unfold ins
  rw [List.length_append, List.length_cons, List.length_take, List.length_drop]; omega
theorem put_len (a : List (Int × List Int)) (n : Int) (l : List Int) (r : List (Int × List Int) × Int) (e : r = index_Put_m a n l) : r.1.length ≤ a.length + 48 ∧ ∀ B, (∀ q ∈ a, q.2.length ≤ B) → ∀ q ∈ r.1, q.2.length ≤ B + 1 := by
  unfold index_Put_m at e
  simp only [LR.seq_go] at e
  have hz : ∀ k : Int, r = (([] : List (Int × List Int)), k) → r.1.length ≤ a.length + 48 ∧ ∀ B, (∀ q ∈ a, q.2.length ≤ B) → ∀ q ∈ r.1, q.2.length ≤ B + 1 := fun k h => by
    rw [h]; exact ⟨Nat.zero_le _, fun _ _ q hq => by cases hq⟩
  split at e
  · exact hz _ e
  · split at e
    · exact hz _ e
    · split at e
      · exact hz _ e
      · split at e
        · exact hz _ e
        · have h1 := turned_len a (index_Keys_m l) (fun z => index_Put_1_m n z) (put1_len n)
          have h2 := Keys_len l _ rfl
          rw [e]
          exact ⟨by simp only; omega, h1.2⟩
def windroselaw14_own_l1  : List (Int × (List Int)) → ((List (Int × (List Int)))) → (List (Int × (List Int)))
  | [], sl1 => sl1
  | yl1 :: ysl1, sl1 => windroselaw14_own_l1 ysl1 ((sl1 ++ [(yl1.1, (yl1.2.take ((min yl1.2.length 12))))]))
def windroselaw14_own_m (a0 : (List (Int × (List Int)))) : ((List (Int × (List Int)))) :=
  LR.seq (windroselaw14_own_l1 (a0.take ((min a0.length 60))) []) (fun ol1 => ol1)
def windroselaw14_few_m (a0 : List Int) : (List Int) :=
  (a0.take ((min a0.length 16)))
set_option maxHeartbeats 3200000 in
theorem windroselaw14_few_c (H : Heap) (va0 : Value) (a0 : List Int) (ha0 : RdS (intE .u64) H va0 a0) : Fc Try.prog (fnv 35) [va0] H [] (fun v' H' L' => ∃ u0_0 c0_0, v' = u0_0 ∧ L' = [c0_0] ∧ OwnS (intE .u64) 26 H' u0_0 (windroselaw14_few_m a0) c0_0) := by
  refine Fc.of_body (N := 9) Try.func35 rfl (by kernel_rfl) rfl rfl ?_
  intro w0
  obtain ⟨Aa0, ca0, rfl, hca0, hda0, ha0⟩ := ha0.shape
  refine T.seq ?_
  refine T.region ?_
  refine R.asE rfl (by conv => lhs; whnf) ?_
  refine TL.nil (Post.thnN ?_)
  refine T.seq ?_
  refine T.region ?_
  refine R.mvE rfl (by conv => lhs; whnf) ?_
  refine R.mvE rfl (by conv => lhs; whnf) ?_
  refine R.len Try.underlying22 rfl rfl ?_
  refine R.min2 rfl rfl rfl ?_
  refine TL.set 6 (.int .i64 ((min a0.length 16 : Nat) : Int)) (congrArg (Value.int .i64) (by split <;> omega)) ?_
  have z7 := RdS.takeC ha0 (i := (min a0.length 16)) (by omega) (by omega)
  obtain ⟨x7, e7⟩ : ∃ x, x = (a0.take ((min a0.length 16))) := ⟨_, rfl⟩
  rw [← e7] at z7
  obtain ⟨A7, p7, q7, m7, n7, r7⟩ := RdS.shape z7
  have t7 : x7.length ≤ a0.length := by rw [e7]; simp; try omega
  have t7_ : x7.length = min ((min a0.length 16)) a0.length := by rw [e7]; simp
  refine R.sH Try.underlying22 Try.sizeOf26 rfl rfl rfl (by omega) (by omega)  ?_
  refine TL.set 7 (.slice A7 x7.length p7) (by first | exact q7 | (rw [← q7]; simp; done) | (rw [← q7]; rfl)) ?_
  refine TL.call [] rfl rfl rfl (clone22_c _ _ x7 r7 (by first | omega | (simp; done) | (simp; omega) | (simp at *; omega))) ?_
  intro v8 H8 L8 s8 q8
  obtain ⟨c8, rfl, w8⟩ := q8
  obtain ⟨x8, e8⟩ : ∃ x, x = x7 := ⟨_, rfl⟩
  rw [← e8] at w8
  obtain ⟨A8, p8, rfl, m8, n8⟩ := OwnS.shape w8
  have t8 : x8.length = x7.length := by rw [e8]
  refine R.asE rfl (by conv => lhs; whnf) ?_
  refine TL.nil (Post.thnN ?_)
  refine T.has (Has.cons .hd Has.nil) ?_
  refine T.ret ?_
  have hM : windroselaw14_few_m a0 = x8 := by subst e8; subst e7; rw [windroselaw14_few_m]
  exact fin1L (v := .slice A8 x8.length p8) [c8] rfl rfl (List.Sublist.refl _) ⟨.slice A8 x8.length p8, c8, by first | rw [hM] | rfl, rfl, by rw [hM]; exact w8⟩

theorem few_len (a r : List Int) (e : r = windroselaw14_few_m a) : r.length ≤ 16 := by
  rw [e, windroselaw14_few_m, List.length_take]; omega
def windroselaw14_types_m  : (List Int) × (List Int) :=
  LR.seq (ident_Component_m 3) (fun r7 => LR.seq (ident_Pair_m 4 5) (fun r11 => ([r7.1], [r7.1, r11.1])))
set_option maxHeartbeats 3200000 in
theorem windroselaw14_types_c (H : Heap) : Fc Try.prog (fnv 71) [] H [] (fun v' H' L' => ∃ u0_0 u1_0 c0_0 c1_0, v' = .tuple #[u0_0, u1_0] ∧ L' = [c0_0, c1_0] ∧ OwnS (intE .u64) 26 H' u0_0 windroselaw14_types_m.1 c0_0 ∧ OwnS (intE .u64) 26 H' u1_0 windroselaw14_types_m.2 c1_0) := by
  refine Fc.of_body (N := 19) Try.func71 rfl (by kernel_rfl) rfl rfl ?_
  intro w0
  refine T.seq ?_
  refine T.region ?_
  refine R.asE rfl (by conv => lhs; whnf) ?_
  refine R.asE rfl (by conv => lhs; whnf) ?_
  refine TL.nil (Post.thnN ?_)
  refine T.seq ?_
  refine T.region ?_
  obtain ⟨r7, er7⟩ : ∃ r, r = (ident_Component_m 3) := ⟨_, rfl⟩
  refine R.callv (v := .tuple #[.int .u64 r7.1, .int .i64 r7.2]) rfl rfl rfl (by rw [er7]; exact ident_Component_c _ (3)) ?_
  refine R.mvE rfl (by conv => lhs; whnf) ?_
  refine R.ext rfl rfl rfl ?_
  refine R.ext rfl rfl rfl ?_
  refine R.asE rfl (by conv => lhs; whnf) ?_
  refine R.asE rfl (by conv => lhs; whnf) ?_
  refine TL.nil (Post.thnN ?_)
  refine T.seq ?_
  refine T.region ?_
  obtain ⟨r11, er11⟩ : ∃ r, r = (ident_Pair_m 4 5) := ⟨_, rfl⟩
  refine R.callv (v := .tuple #[.int .u64 r11.1, .int .i64 r11.2]) rfl rfl rfl (by rw [er11]; exact ident_Pair_c _ (4) (5)) ?_
  refine R.mvE rfl (by conv => lhs; whnf) ?_
  refine R.ext rfl rfl rfl ?_
  refine R.ext rfl rfl rfl ?_
  refine R.asE rfl (by conv => lhs; whnf) ?_
  refine R.asE rfl (by conv => lhs; whnf) ?_
  refine TL.nil (Post.thnN ?_)
  refine T.seq ?_
  refine T.region ?_
  refine R.mvE rfl (by conv => lhs; whnf) ?_
  refine R.bs rfl (run_buildSlice1 Try.underlying22 Try.sizeOf26 Try.zeroValue26 rfl rfl) ?_
  intro b15
  have w15 : OwnS (intE .u64) 26 H (.slice (some ⟨b15, 0, none⟩) 1 1) [r7.1] [(b15, .cells #[.int .u64 (r7.1)] 26)] := OwnS.lit (xs := [r7.1]) (cellsOf_cons (a := [.int .u64 (r7.1)]) rfl cellsOf_nil) (by show 1 ≤ maxLen; decide)
  refine R.mvE rfl (by conv => lhs; whnf) ?_
  refine R.mvE rfl (by conv => lhs; whnf) ?_
  refine R.bsN [.int .u64 (r7.1), .int .u64 (r11.1)] rfl Try.underlying22 Try.sizeOf26 Try.zeroValue26 rfl rfl rfl rfl rfl rfl ?_
  intro b18
  have w18 : OwnS (intE .u64) 26 H (.slice (some ⟨b18, 0, none⟩) 2 2) [r7.1, r11.1] [(b18, .cells #[.int .u64 (r7.1), .int .u64 (r11.1)] 26)] := OwnS.lit (xs := [r7.1, r11.1]) (cellsOf_cons (a := [.int .u64 (r7.1)]) rfl (cellsOf_cons (a := [.int .u64 (r11.1)]) rfl cellsOf_nil)) (by show 2 ≤ maxLen; decide)
  refine R.asE rfl (by conv => lhs; whnf) ?_
  refine R.asE rfl (by conv => lhs; whnf) ?_
  refine TL.nil (Post.thnN ?_)
  refine T.has (Has.cons (.tl .hd) (Has.cons .hd Has.nil)) ?_
  refine T.ret ?_
  have hM : windroselaw14_types_m = ([r7.1], [r7.1, r11.1]) := by subst er11; subst er7; rw [windroselaw14_types_m, LR.seq_go, LR.seq_go]
  exact fin2L (v := .slice (some ⟨b15, 0, none⟩) 1 1) (v' := .slice (some ⟨b18, 0, none⟩) 2 2) [[(b15, .cells #[.int .u64 (r7.1)] 26)], [(b18, .cells #[.int .u64 (r7.1), .int .u64 (r11.1)] 26)]] rfl rfl rfl (List.Sublist.refl _) ⟨.slice (some ⟨b15, 0, none⟩) 1 1, .slice (some ⟨b18, 0, none⟩) 2 2, [(b15, .cells #[.int .u64 (r7.1)] 26)], [(b18, .cells #[.int .u64 (r7.1), .int .u64 (r11.1)] 26)], by first | rw [hM] | rfl, rfl, by rw [hM]; exact w15, by rw [hM]; exact w18⟩

def windroselaw14_wakes_m  : Bool :=
  LR.seq (windroselaw14_types_m) (fun r12 => LR.seq (index_Put_m (([] : (List (Int × (List Int))))) 1 r12.1) (fun r18 => LR.seq (index_Put_m r18.1 2 r12.2) (fun r24 => LR.seq (ident_Pair_m 4 0) (fun r28 => LR.seq (index_Put_m r24.1 2 r12.1) (fun r34 => if r18.2 = 0 then (if r24.2 = 0 then (if r28.2 = 0 then (if r34.2 = 5 then (LR.seq (index_Keys_m r12.2) (fun r53 => if (r53.length : Int) = 5 then (LR.seq (index_Find_m r24.1 (r12.2.getD 0 (0 : Int))) (fun r62 => if r62 = [1, 2] then (LR.seq (index_Find_m r24.1 r28.1) (fun r69 => if r69 = [2] then (LR.seq (index_Type_m r24.1 2) (fun r75 => (decide (r75 = r12.2)))) else false)) else false)) else false)) else false) else false) else false) else false)))))
set_option maxHeartbeats 3200000 in
theorem windroselaw14_wakes_c (H : Heap) : Fv Try.prog (fnv 23) [] H (.bool windroselaw14_wakes_m) := by
  refine Fc.of_body (N := 79) Try.func23 rfl (by kernel_rfl) rfl rfl ?_
  intro w0
  refine T.seq ?_
  refine T.region ?_
  refine R.asE rfl (by conv => lhs; whnf) ?_
  refine TL.nil (Post.thnN ?_)
  refine T.seq ?_
  refine T.region ?_
  obtain ⟨r12, er12⟩ : ∃ r, r = windroselaw14_types_m := ⟨_, rfl⟩
  refine TL.call [] rfl rfl rfl (windroselaw14_types_c _ ) ?_
  intro v12 H12 L12 s12 q12
  rw [← er12] at q12
  obtain ⟨u12_0_0, u12_1_0, c12_0_0, c12_1_0, rfl, rfl, w12_0_0, w12_1_0⟩ := q12
  obtain ⟨A12_0_0, p12_0_0, rfl, m12_0_0, n12_0_0⟩ := OwnS.shape w12_0_0
  obtain ⟨A12_1_0, p12_1_0, rfl, m12_1_0, n12_1_0⟩ := OwnS.shape w12_1_0
  have tt12 : r12.2.length = 2 := by rw [er12]; rfl
  refine R.mvE rfl (by conv => lhs; whnf) ?_
  refine R.ext rfl rfl rfl ?_
  refine R.ext rfl rfl rfl ?_
  refine R.asE rfl (by conv => lhs; whnf) ?_
  refine R.asE rfl (by conv => lhs; whnf) ?_
  refine TL.nil (Post.thnN ?_)
  refine T.seq ?_
  refine T.region ?_
  refine R.bld (cs := [.slice none 0 0]) rfl (fun _ => by kernel_rfl) ?_
  refine R.mvE rfl (by conv => lhs; whnf) ?_
  refine TL.shut .hd ?_
  intro HF12_0_0_1 sF12_0_0_1 qF12_0_0_1
  have fF12_0_0_1 := OwnS.read w12_0_0 sF12_0_0_1 qF12_0_0_1
  obtain ⟨r18, er18⟩ : ∃ r, r = (index_Put_m (([] : (List (Int × (List Int))))) 1 r12.1) := ⟨_, rfl⟩
  refine TL.call [] rfl rfl rfl (index_Put_c _ (([] : (List (Int × (List Int))))) _ RdS.nil (1) _ r12.1 fF12_0_0_1 (by first | omega | assumption | (simp; done) | (simp; omega) | (simp at *; omega)) (by first | assumption | exact rows_le (by assumption) (by omega) | (intro r h; simp at h; done))) ?_
  intro v18 H18 L18 s18 q18
  rw [← er18] at q18
  obtain ⟨u18_0_0, c18_0_0, rfl, rfl, w18_0_0⟩ := q18
  obtain ⟨A18_0_0, p18_0_0, rfl, m18_0_0, n18_0_0⟩ := OwnS.shape w18_0_0
  have tpa18 := (put_len _ _ _ _ er18).1
  have tpb18 := (put_len _ _ _ _ er18).2 _ (by first | assumption | exact rows_nil)
  refine R.mvE rfl (by conv => lhs; whnf) ?_
  refine R.ext rfl rfl rfl ?_
  refine R.ext rfl rfl rfl ?_
  refine R.alloc Try.zeroValue46 rfl ?_
  intro b3
  refine R.stX (old := [.slice none 0 0]) (l := [.slice A18_0_0 r18.1.length p18_0_0]) (new := [.slice A18_0_0 r18.1.length p18_0_0]) (et := 46) Try.sizeOf46 rfl rfl rfl rfl rfl (by show 0 + 1 ≤ 1; decide) rfl (all_one rfl) .hd ?_
  refine R.asE rfl (by conv => lhs; whnf) ?_
  refine TL.shut (.tl .hd) ?_
  intro HF18_0_0_2 sF18_0_0_2 qF18_0_0_2
  have fF18_0_0_2 := OwnS.read w18_0_0 sF18_0_0_2 qF18_0_0_2
  refine TL.shut .hd ?_
  intro Hb3_3 sb3_3 qb3_3
  have hb3_3 : Hb3_3 b3 = some (.cells #[.slice A18_0_0 r18.1.length p18_0_0] 46) := shut1 qb3_3
  refine TL.nil (Post.thnN ?_)
  refine T.seq ?_
  refine T.region ?_
  refine R.ldXH (cs := [.slice A18_0_0 r18.1.length p18_0_0]) (l := [.slice A18_0_0 r18.1.length p18_0_0]) Try.isAgg46 Try.sizeOf46 rfl rfl hb3_3 rfl rfl ?_
  refine R.mvE rfl (by conv => lhs; whnf) ?_
  refine TL.shut .hd ?_
  intro HF12_1_0_4 sF12_1_0_4 qF12_1_0_4
  have fF12_1_0_4 := OwnS.read (OwnS.mono w12_1_0 (sF12_0_0_1.trans (s18.trans (sF18_0_0_2.trans sb3_3)))) sF12_1_0_4 qF12_1_0_4
  obtain ⟨r24, er24⟩ : ∃ r, r = (index_Put_m r18.1 2 r12.2) := ⟨_, rfl⟩
  refine TL.call [] rfl rfl rfl (index_Put_c _ r18.1 _ (fF18_0_0_2.mono (sb3_3.trans sF12_1_0_4)) (2) _ r12.2 fF12_1_0_4 (by first | omega | assumption | (simp; done) | (simp; omega) | (simp at *; omega)) (by first | assumption | exact rows_le (by assumption) (by omega) | (intro r h; simp at h; done))) ?_
  intro v24 H24 L24 s24 q24
  rw [← er24] at q24
  obtain ⟨u24_0_0, c24_0_0, rfl, rfl, w24_0_0⟩ := q24
  obtain ⟨A24_0_0, p24_0_0, rfl, m24_0_0, n24_0_0⟩ := OwnS.shape w24_0_0
  have tpa24 := (put_len _ _ _ _ er24).1
  have tpb24 := (put_len _ _ _ _ er24).2 _ (by first | assumption | exact rows_nil)
  refine R.mvE rfl (by conv => lhs; whnf) ?_
  refine R.ext rfl rfl rfl ?_
  refine R.ext rfl rfl rfl ?_
  refine R.alloc Try.zeroValue46 rfl ?_
  intro b5
  refine R.stX (old := [.slice none 0 0]) (l := [.slice A24_0_0 r24.1.length p24_0_0]) (new := [.slice A24_0_0 r24.1.length p24_0_0]) (et := 46) Try.sizeOf46 rfl rfl rfl rfl rfl (by show 0 + 1 ≤ 1; decide) rfl (all_one rfl) .hd ?_
  refine R.asE rfl (by conv => lhs; whnf) ?_
  refine TL.shut (.tl .hd) ?_
  intro HF24_0_0_5 sF24_0_0_5 qF24_0_0_5
  have fF24_0_0_5 := OwnS.read w24_0_0 sF24_0_0_5 qF24_0_0_5
  refine TL.shut .hd ?_
  intro Hb5_6 sb5_6 qb5_6
  have hb5_6 : Hb5_6 b5 = some (.cells #[.slice A24_0_0 r24.1.length p24_0_0] 46) := shut1 qb5_6
  refine TL.nil (Post.thnN ?_)
  refine T.seq ?_
  refine T.region ?_
  obtain ⟨r28, er28⟩ : ∃ r, r = (ident_Pair_m 4 0) := ⟨_, rfl⟩
  refine R.callv (v := .tuple #[.int .u64 r28.1, .int .i64 r28.2]) rfl rfl rfl (by rw [er28]; exact ident_Pair_c _ (4) (0)) ?_
  refine R.mvE rfl (by conv => lhs; whnf) ?_
  refine R.ext rfl rfl rfl ?_
  refine R.ext rfl rfl rfl ?_
  refine R.asE rfl (by conv => lhs; whnf) ?_
  refine R.asE rfl (by conv => lhs; whnf) ?_
  refine TL.nil (Post.thnN ?_)
  refine T.seq ?_
  refine T.region ?_
  refine R.ldXH (cs := [.slice A24_0_0 r24.1.length p24_0_0]) (l := [.slice A24_0_0 r24.1.length p24_0_0]) Try.isAgg46 Try.sizeOf46 rfl rfl hb5_6 rfl rfl ?_
  refine R.mvE rfl (by conv => lhs; whnf) ?_
  obtain ⟨r34, er34⟩ : ∃ r, r = (index_Put_m r24.1 2 r12.1) := ⟨_, rfl⟩
  refine TL.call [] rfl rfl rfl (index_Put_c _ r24.1 _ (fF24_0_0_5.mono sb5_6) (2) _ r12.1 (fF12_0_0_1.mono (s18.trans (sF18_0_0_2.trans (sb3_3.trans (sF12_1_0_4.trans (s24.trans (sF24_0_0_5.trans sb5_6))))))) (by first | omega | assumption | (simp; done) | (simp; omega) | (simp at *; omega)) (by first | assumption | exact rows_le (by assumption) (by omega) | (intro r h; simp at h; done))) ?_
  intro v34 H34 L34 s34 q34
  rw [← er34] at q34
  obtain ⟨u34_0_0, c34_0_0, rfl, rfl, w34_0_0⟩ := q34
  obtain ⟨A34_0_0, p34_0_0, rfl, m34_0_0, n34_0_0⟩ := OwnS.shape w34_0_0
  have tpa34 := (put_len _ _ _ _ er34).1
  have tpb34 := (put_len _ _ _ _ er34).2 _ (by first | assumption | exact rows_nil)
  refine R.mvE rfl (by conv => lhs; whnf) ?_
  refine R.ext rfl rfl rfl ?_
  refine R.ext rfl rfl rfl ?_
  refine R.alloc Try.zeroValue46 rfl ?_
  intro b9
  refine R.stX (old := [.slice none 0 0]) (l := [.slice A34_0_0 r34.1.length p34_0_0]) (new := [.slice A34_0_0 r34.1.length p34_0_0]) (et := 46) Try.sizeOf46 rfl rfl rfl rfl rfl (by show 0 + 1 ≤ 1; decide) rfl (all_one rfl) .hd ?_
  refine R.asE rfl (by conv => lhs; whnf) ?_
  refine TL.shut (.tl .hd) ?_
  intro HF34_0_0_7 sF34_0_0_7 qF34_0_0_7
  have fF34_0_0_7 := OwnS.read w34_0_0 sF34_0_0_7 qF34_0_0_7
  refine TL.shut .hd ?_
  intro Hb9_8 sb9_8 qb9_8
  have hb9_8 : Hb9_8 b9 = some (.cells #[.slice A34_0_0 r34.1.length p34_0_0] 46) := shut1 qb9_8
  refine TL.nil (Post.thnN ?_)
  refine T.seq ?_
  refine T.draw Try_mixed (by kernel_rfl) ?_
  refine Plan.v 0 [1, 2, 3, 4, 5, 6, 7, 8, 9, 10, 11, 12, 13, 14, 15, 16, 17, 18, 19, 20, 21, 22, 23, 24, 25, 26, 27, 28, 29, 30, 31, 32, 33, 34, 35, 36, 37, 38, 39, 40, 41, 42] (by kernel_rfl) (by kernel_rfl) (by kernel_rfl) (by kernel_rfl) rfl (fun _ _ h_ => R.mvE rfl (by conv => lhs; whnf) (TL.nil h_)) ?_
  refine Plan.v 1 [2, 3, 4, 5, 6, 7, 8, 9, 10, 11, 12, 13, 14, 15, 16, 17, 18, 19, 20, 21, 22, 23, 24, 25, 26, 27, 28, 29, 30, 31, 32, 33, 34, 35, 36, 37, 38, 39, 40, 41, 42] (by kernel_rfl) (by kernel_rfl) (by kernel_rfl) (by kernel_rfl) rfl (fun _ _ h_ => R.eql rfl rfl rfl (TL.nil h_)) ?_
  refine Plan.v 2 [3, 4, 5, 6, 7, 8, 9, 10, 11, 12, 13, 14, 15, 16, 17, 18, 19, 20, 21, 22, 23, 24, 25, 26, 27, 28, 29, 30, 31, 32, 33, 34, 35, 36, 37, 38, 39, 40, 41, 42] (by kernel_rfl) (by kernel_rfl) (by kernel_rfl) (by kernel_rfl) rfl (fun _ _ h_ => R.mvE rfl (by conv => lhs; whnf) (TL.nil h_)) ?_
  refine Plan.gsplitD 39 rfl (fun g39 => ?_) (fun g39 => ?_)
  · refine Plan.v 3 [4, 5, 6, 7, 8, 9, 10, 11, 12, 13, 14, 15, 16, 17, 18, 19, 20, 21, 22, 23, 24, 25, 26, 27, 28, 29, 30, 31, 32, 33, 34, 35, 36, 37, 38, 39, 40, 41, 42] (by kernel_rfl) (by kernel_rfl) (by kernel_rfl) (by kernel_rfl) rfl (fun _ _ h_ => R.mvE rfl (by conv => lhs; whnf) (TL.nil h_)) ?_
    refine Plan.v 4 [5, 6, 7, 8, 9, 10, 11, 12, 13, 14, 15, 16, 17, 18, 19, 20, 21, 22, 23, 24, 25, 26, 27, 28, 29, 30, 31, 32, 33, 34, 35, 36, 37, 38, 39, 40, 41, 42] (by kernel_rfl) (by kernel_rfl) (by kernel_rfl) (by kernel_rfl) rfl (fun _ _ h_ => R.eql rfl rfl rfl (TL.nil h_)) ?_
    refine Plan.v 5 [6, 7, 8, 9, 10, 11, 12, 13, 14, 15, 16, 17, 18, 19, 20, 21, 22, 23, 24, 25, 26, 27, 28, 29, 30, 31, 32, 33, 34, 35, 36, 37, 38, 39, 40, 41, 42] (by kernel_rfl) (by kernel_rfl) (by kernel_rfl) (by kernel_rfl) rfl (fun _ _ h_ => R.pkTE rfl rfl (by conv => lhs; whnf) (TL.nil h_)) ?_
    refine Plan.v 6 [7, 8, 9, 10, 11, 12, 13, 14, 15, 16, 17, 18, 19, 20, 21, 22, 23, 24, 25, 26, 27, 28, 29, 30, 31, 32, 33, 34, 35, 36, 37, 38, 39, 40, 41, 42] (by kernel_rfl) (by kernel_rfl) (by kernel_rfl) (by kernel_rfl) rfl (fun _ _ h_ => R.mvE rfl (by conv => lhs; whnf) (TL.nil h_)) ?_
    refine Plan.gsplitD 43 rfl (fun g43 => ?_) (fun g43 => ?_)
    · refine Plan.v 7 [8, 9, 10, 11, 12, 13, 14, 15, 16, 17, 18, 19, 20, 21, 22, 23, 24, 25, 26, 27, 28, 29, 30, 31, 32, 33, 34, 35, 36, 37, 38, 39, 40, 41, 42] (by kernel_rfl) (by kernel_rfl) (by kernel_rfl) (by kernel_rfl) rfl (fun _ _ h_ => R.mvE rfl (by conv => lhs; whnf) (TL.nil h_)) ?_
      refine Plan.v 8 [9, 10, 11, 12, 13, 14, 15, 16, 17, 18, 19, 20, 21, 22, 23, 24, 25, 26, 27, 28, 29, 30, 31, 32, 33, 34, 35, 36, 37, 38, 39, 40, 41, 42] (by kernel_rfl) (by kernel_rfl) (by kernel_rfl) (by kernel_rfl) rfl (fun _ _ h_ => R.eql rfl rfl rfl (TL.nil h_)) ?_
      refine Plan.v 9 [10, 11, 12, 13, 14, 15, 16, 17, 18, 19, 20, 21, 22, 23, 24, 25, 26, 27, 28, 29, 30, 31, 32, 33, 34, 35, 36, 37, 38, 39, 40, 41, 42] (by kernel_rfl) (by kernel_rfl) (by kernel_rfl) (by kernel_rfl) rfl (fun _ _ h_ => R.pkTE rfl rfl (by conv => lhs; whnf) (TL.nil h_)) ?_
      refine Plan.v 10 [11, 12, 13, 14, 15, 16, 17, 18, 19, 20, 21, 22, 23, 24, 25, 26, 27, 28, 29, 30, 31, 32, 33, 34, 35, 36, 37, 38, 39, 40, 41, 42] (by kernel_rfl) (by kernel_rfl) (by kernel_rfl) (by kernel_rfl) rfl (fun _ _ h_ => R.mvE rfl (by conv => lhs; whnf) (TL.nil h_)) ?_
      refine Plan.gsplitD 47 rfl (fun g47 => ?_) (fun g47 => ?_)
      · refine Plan.v 11 [12, 13, 14, 15, 16, 17, 18, 19, 20, 21, 22, 23, 24, 25, 26, 27, 28, 29, 30, 31, 32, 33, 34, 35, 36, 37, 38, 39, 40, 41, 42] (by kernel_rfl) (by kernel_rfl) (by kernel_rfl) (by kernel_rfl) rfl (fun _ _ h_ => R.mvE rfl (by conv => lhs; whnf) (TL.nil h_)) ?_
        refine Plan.v 12 [13, 14, 15, 16, 17, 18, 19, 20, 21, 22, 23, 24, 25, 26, 27, 28, 29, 30, 31, 32, 33, 34, 35, 36, 37, 38, 39, 40, 41, 42] (by kernel_rfl) (by kernel_rfl) (by kernel_rfl) (by kernel_rfl) rfl (fun _ _ h_ => R.eql rfl rfl rfl (TL.nil h_)) ?_
        refine Plan.v 13 [14, 15, 16, 17, 18, 19, 20, 21, 22, 23, 24, 25, 26, 27, 28, 29, 30, 31, 32, 33, 34, 35, 36, 37, 38, 39, 40, 41, 42] (by kernel_rfl) (by kernel_rfl) (by kernel_rfl) (by kernel_rfl) rfl (fun _ _ h_ => R.pkTE rfl rfl (by conv => lhs; whnf) (TL.nil h_)) ?_
        refine Plan.v 14 [15, 16, 17, 18, 19, 20, 21, 22, 23, 24, 25, 26, 27, 28, 29, 30, 31, 32, 33, 34, 35, 36, 37, 38, 39, 40, 41, 42] (by kernel_rfl) (by kernel_rfl) (by kernel_rfl) (by kernel_rfl) rfl (fun _ _ h_ => R.mvE rfl (by conv => lhs; whnf) (TL.nil h_)) ?_
        refine Plan.gsplitD 51 rfl (fun g51 => ?_) (fun g51 => ?_)
        · refine Plan.v 15 [16, 17, 18, 19, 20, 21, 22, 23, 24, 25, 26, 27, 28, 29, 30, 31, 32, 33, 34, 35, 36, 37, 38, 39, 40, 41, 42] (by kernel_rfl) (by kernel_rfl) (by kernel_rfl) (by kernel_rfl) rfl (fun _ _ h_ => R.mvE rfl (by conv => lhs; whnf) (TL.nil h_)) ?_
          refine Plan.s1 16 [17, 18, 19, 20, 21, 22, 23, 24, 25, 26, 27, 28, 29, 30, 31, 32, 33, 34, 35, 36, 37, 38, 39, 40, 41, 42] (by kernel_rfl) (by kernel_rfl) rfl ?_
          obtain ⟨r53, er53⟩ : ∃ r, r = (index_Keys_m r12.2) := ⟨_, rfl⟩
          refine TL.call [] rfl rfl rfl (index_Keys_c _ _ r12.2 (fF12_1_0_4.mono (s24.trans (sF24_0_0_5.trans (sb5_6.trans (s34.trans (sF34_0_0_7.trans sb9_8))))))) ?_
          intro v53 H53 L53 s53 q53
          rw [← er53] at q53
          obtain ⟨u53_0_0, c53_0_0, rfl, rfl, w53_0_0⟩ := q53
          obtain ⟨A53_0_0, p53_0_0, rfl, m53_0_0, n53_0_0⟩ := OwnS.shape w53_0_0
          have tK53 := Keys_len _ _ er53
          refine TL.nil (Plan.e1 (s53) ?_)
          refine Plan.v 17 [18, 19, 20, 21, 22, 23, 24, 25, 26, 27, 28, 29, 30, 31, 32, 33, 34, 35, 36, 37, 38, 39, 40, 41, 42] (by kernel_rfl) (by kernel_rfl) (by kernel_rfl) (by kernel_rfl) rfl (fun _ _ h_ => R.len Try.underlying22 rfl rfl (TL.nil h_)) ?_
          refine Plan.v 18 [19, 20, 21, 22, 23, 24, 25, 26, 27, 28, 29, 30, 31, 32, 33, 34, 35, 36, 37, 38, 39, 40, 41, 42] (by kernel_rfl) (by kernel_rfl) (by kernel_rfl) (by kernel_rfl) rfl (fun _ _ h_ => R.eql rfl rfl rfl (TL.nil h_)) ?_
          refine Plan.v 19 [20, 21, 22, 23, 24, 25, 26, 27, 28, 29, 30, 31, 32, 33, 34, 35, 36, 37, 38, 39, 40, 41, 42] (by kernel_rfl) (by kernel_rfl) (by kernel_rfl) (by kernel_rfl) rfl (fun _ _ h_ => R.pkTE rfl rfl (by conv => lhs; whnf) (TL.nil h_)) ?_
          refine Plan.v 20 [21, 22, 23, 24, 25, 26, 27, 28, 29, 30, 31, 32, 33, 34, 35, 36, 37, 38, 39, 40, 41, 42] (by kernel_rfl) (by kernel_rfl) (by kernel_rfl) (by kernel_rfl) rfl (fun _ _ h_ => R.mvE rfl (by conv => lhs; whnf) (TL.nil h_)) ?_
          refine Plan.gsplitD 57 rfl (fun g57 => ?_) (fun g57 => ?_)
          · refine Plan.v 21 [22, 23, 24, 25, 26, 27, 28, 29, 30, 31, 32, 33, 34, 35, 36, 37, 38, 39, 40, 41, 42] (by kernel_rfl) (by kernel_rfl) (by kernel_rfl) (by kernel_rfl) rfl (fun _ _ h_ => R.ldXH (cs := [.slice A24_0_0 r24.1.length p24_0_0]) (l := [.slice A24_0_0 r24.1.length p24_0_0]) Try.isAgg46 Try.sizeOf46 rfl rfl ((s34.trans (sF34_0_0_7.trans (sb9_8.trans s53))) _ _ hb5_6) rfl rfl (TL.nil h_)) ?_
            refine Plan.v 22 [23, 24, 25, 26, 27, 28, 29, 30, 31, 32, 33, 34, 35, 36, 37, 38, 39, 40, 41, 42] (by kernel_rfl) (by kernel_rfl) (by kernel_rfl) (by kernel_rfl) rfl (fun _ _ h_ => R.mvE rfl (by conv => lhs; whnf) (TL.nil h_)) ?_
            have hl60 : 0 < r12.2.length := by first | omega | (simp; done) | (simp; omega) | (simp at *; omega)
            obtain ⟨y60, e60, h60⟩ : ∃ y, y = (r12.2.getD 0 (0 : Int)) ∧ r12.2[0]? = some y := ⟨_, rfl, getD_get (by first | exact hl60 | simpa using hl60 | (simp only [List.length_set]; omega) | omega | (rw [(sortI_perm _).length_eq]; exact hl60))⟩
            obtain ⟨b60, o60, i60, k60⟩ := RdS.elem (fF12_1_0_4.mono (s24.trans (sF24_0_0_5.trans (sb5_6.trans (s34.trans (sF34_0_0_7.trans (sb9_8.trans s53))))))) h60
            obtain ⟨l60, g60, k60⟩ := k60
            obtain rfl : l60 = [.int .u64 y60] := g60
            refine Plan.v 23 [24, 25, 26, 27, 28, 29, 30, 31, 32, 33, 34, 35, 36, 37, 38, 39, 40, 41, 42] (by kernel_rfl) (by kernel_rfl) (by kernel_rfl) (by kernel_rfl) rfl (fun _ _ h_ => R.ixp Try.underlying22 Try.sizeOf26 rfl rfl rfl (by first | omega | (simp; done) | (simp; omega) | (simp at *; omega)) i60 (TL.nil h_)) ?_
            refine Plan.v 24 [25, 26, 27, 28, 29, 30, 31, 32, 33, 34, 35, 36, 37, 38, 39, 40, 41, 42] (by kernel_rfl) (by kernel_rfl) (by kernel_rfl) (by kernel_rfl) rfl (fun _ _ h_ => R.ldC Try.isAgg26 rfl rfl (k60 0 _ rfl) (TL.nil h_)) ?_
            refine Plan.s2 25 26 [26, 27, 28, 29, 30, 31, 32, 33, 34, 35, 36, 37, 38, 39, 40, 41, 42] [25, 27, 28, 29, 30, 31, 32, 33, 34, 35, 36, 37, 38, 39, 40, 41, 42] (by kernel_rfl) (by kernel_rfl) (by kernel_rfl) rfl rfl ?_ ?_
            · obtain ⟨r62, er62⟩ : ∃ r, r = (index_Find_m r24.1 y60) := ⟨_, rfl⟩
              refine TL.call [] rfl rfl rfl (index_Find_c _ r24.1 _ (fF24_0_0_5.mono (sb5_6.trans (s34.trans (sF34_0_0_7.trans (sb9_8.trans s53))))) (y60) (by first | omega | assumption | (simp; done) | (simp; omega) | (simp at *; omega)) (by first | assumption | exact rows_le (by assumption) (by omega) | (intro r h; simp at h; done))) ?_
              intro v62 H62 L62 s62 q62
              rw [← er62] at q62
              obtain ⟨u62_0_0, c62_0_0, rfl, rfl, w62_0_0⟩ := q62
              obtain ⟨A62_0_0, p62_0_0, rfl, m62_0_0, n62_0_0⟩ := OwnS.shape w62_0_0
              refine TL.nil (Plan.e1 (s62) ?_)
              refine Plan.s1 26 [27, 28, 29, 30, 31, 32, 33, 34, 35, 36, 37, 38, 39, 40, 41, 42] (by kernel_rfl) (by kernel_rfl) rfl ?_
              refine R.bsN [.int .i64 1, .int .i64 2] rfl Try.underlying37 Try.sizeOf3 Try.zeroValue3 rfl rfl rfl rfl rfl rfl ?_
              intro b63
              have w63 : OwnS (intE .i64) 3 H62 (.slice (some ⟨b63, 0, none⟩) 2 2) [1, 2] [(b63, .cells #[.int .i64 1, .int .i64 2] 3)] := OwnS.lit (xs := [1, 2]) (cellsOf_cons (a := [.int .i64 1]) rfl (cellsOf_cons (a := [.int .i64 2]) rfl cellsOf_nil)) (by show 2 ≤ maxLen; decide)
              refine TL.nil (Plan.e1 (HLe.refl _) ?_)
              refine Plan.s1 27 [28, 29, 30, 31, 32, 33, 34, 35, 36, 37, 38, 39, 40, 41, 42] (by kernel_rfl) (by kernel_rfl) rfl ?_
              refine TL.shut (.tl .hd) ?_
              intro HF62_0_0_11 sF62_0_0_11 qF62_0_0_11
              have fF62_0_0_11 := OwnS.read w62_0_0 sF62_0_0_11 qF62_0_0_11
              refine TL.shut .hd ?_
              intro HF63_12 sF63_12 qF63_12
              have fF63_12 := OwnS.read (OwnS.mono w63 sF62_0_0_11) sF63_12 qF63_12
              refine R.callv rfl rfl rfl (slices_Equal_int_d _ _ r62 (fF62_0_0_11.mono sF63_12) _ ([1, 2]) fF63_12) ?_
              refine TL.nil (Plan.e1 ((sF62_0_0_11.trans sF63_12)) ?_)
              refine Plan.v 28 [29, 30, 31, 32, 33, 34, 35, 36, 37, 38, 39, 40, 41, 42] (by kernel_rfl) (by kernel_rfl) (by kernel_rfl) (by kernel_rfl) rfl (fun _ _ h_ => R.pkTE rfl rfl (by conv => lhs; whnf) (TL.nil h_)) ?_
              refine Plan.v 29 [30, 31, 32, 33, 34, 35, 36, 37, 38, 39, 40, 41, 42] (by kernel_rfl) (by kernel_rfl) (by kernel_rfl) (by kernel_rfl) rfl (fun _ _ h_ => R.mvE rfl (by conv => lhs; whnf) (TL.nil h_)) ?_
              refine Plan.gsplitD 66 rfl (fun g66 => ?_) (fun g66 => ?_)
              · refine Plan.v 30 [31, 32, 33, 34, 35, 36, 37, 38, 39, 40, 41, 42] (by kernel_rfl) (by kernel_rfl) (by kernel_rfl) (by kernel_rfl) rfl (fun _ _ h_ => R.ldXH (cs := [.slice A24_0_0 r24.1.length p24_0_0]) (l := [.slice A24_0_0 r24.1.length p24_0_0]) Try.isAgg46 Try.sizeOf46 rfl rfl ((s34.trans (sF34_0_0_7.trans (sb9_8.trans (s53.trans (s62.trans (sF62_0_0_11.trans sF63_12)))))) _ _ hb5_6) rfl rfl (TL.nil h_)) ?_
                refine Plan.v 31 [32, 33, 34, 35, 36, 37, 38, 39, 40, 41, 42] (by kernel_rfl) (by kernel_rfl) (by kernel_rfl) (by kernel_rfl) rfl (fun _ _ h_ => R.mvE rfl (by conv => lhs; whnf) (TL.nil h_)) ?_
                refine Plan.s2 32 33 [33, 34, 35, 36, 37, 38, 39, 40, 41, 42] [32, 34, 35, 36, 37, 38, 39, 40, 41, 42] (by kernel_rfl) (by kernel_rfl) (by kernel_rfl) rfl rfl ?_ ?_
                · obtain ⟨r69, er69⟩ : ∃ r, r = (index_Find_m r24.1 r28.1) := ⟨_, rfl⟩
                  refine TL.call [] rfl rfl rfl (index_Find_c _ r24.1 _ (fF24_0_0_5.mono (sb5_6.trans (s34.trans (sF34_0_0_7.trans (sb9_8.trans (s53.trans (s62.trans (sF62_0_0_11.trans sF63_12)))))))) (r28.1) (by first | omega | assumption | (simp; done) | (simp; omega) | (simp at *; omega)) (by first | assumption | exact rows_le (by assumption) (by omega) | (intro r h; simp at h; done))) ?_
                  intro v69 H69 L69 s69 q69
                  rw [← er69] at q69
                  obtain ⟨u69_0_0, c69_0_0, rfl, rfl, w69_0_0⟩ := q69
                  obtain ⟨A69_0_0, p69_0_0, rfl, m69_0_0, n69_0_0⟩ := OwnS.shape w69_0_0
                  refine TL.nil (Plan.e1 (s69) ?_)
                  refine Plan.s1 33 [34, 35, 36, 37, 38, 39, 40, 41, 42] (by kernel_rfl) (by kernel_rfl) rfl ?_
                  refine R.bs rfl (run_buildSlice1 Try.underlying37 Try.sizeOf3 Try.zeroValue3 rfl rfl) ?_
                  intro b70
                  have w70 : OwnS (intE .i64) 3 H69 (.slice (some ⟨b70, 0, none⟩) 1 1) [2] [(b70, .cells #[.int .i64 2] 3)] := OwnS.lit (xs := [2]) (cellsOf_cons (a := [.int .i64 2]) rfl cellsOf_nil) (by show 1 ≤ maxLen; decide)
                  refine TL.nil (Plan.e1 (HLe.refl _) ?_)
                  refine Plan.s1 34 [35, 36, 37, 38, 39, 40, 41, 42] (by kernel_rfl) (by kernel_rfl) rfl ?_
                  refine TL.shut (.tl .hd) ?_
                  intro HF69_0_0_15 sF69_0_0_15 qF69_0_0_15
                  have fF69_0_0_15 := OwnS.read w69_0_0 sF69_0_0_15 qF69_0_0_15
                  refine TL.shut .hd ?_
                  intro HF70_16 sF70_16 qF70_16
                  have fF70_16 := OwnS.read (OwnS.mono w70 sF69_0_0_15) sF70_16 qF70_16
                  refine R.callv rfl rfl rfl (slices_Equal_int_d _ _ r69 (fF69_0_0_15.mono sF70_16) _ ([2]) fF70_16) ?_
                  refine TL.nil (Plan.e1 ((sF69_0_0_15.trans sF70_16)) ?_)
                  refine Plan.v 35 [36, 37, 38, 39, 40, 41, 42] (by kernel_rfl) (by kernel_rfl) (by kernel_rfl) (by kernel_rfl) rfl (fun _ _ h_ => R.pkTE rfl rfl (by conv => lhs; whnf) (TL.nil h_)) ?_
                  refine Plan.v 36 [37, 38, 39, 40, 41, 42] (by kernel_rfl) (by kernel_rfl) (by kernel_rfl) (by kernel_rfl) rfl (fun _ _ h_ => R.mvE rfl (by conv => lhs; whnf) (TL.nil h_)) ?_
                  refine Plan.gsplitD 73 rfl (fun g73 => ?_) (fun g73 => ?_)
                  · refine Plan.v 37 [38, 39, 40, 41, 42] (by kernel_rfl) (by kernel_rfl) (by kernel_rfl) (by kernel_rfl) rfl (fun _ _ h_ => R.ldXH (cs := [.slice A24_0_0 r24.1.length p24_0_0]) (l := [.slice A24_0_0 r24.1.length p24_0_0]) Try.isAgg46 Try.sizeOf46 rfl rfl ((s34.trans (sF34_0_0_7.trans (sb9_8.trans (s53.trans (s62.trans (sF62_0_0_11.trans (sF63_12.trans (s69.trans (sF69_0_0_15.trans sF70_16))))))))) _ _ hb5_6) rfl rfl (TL.nil h_)) ?_
                    refine Plan.v 39 [38, 40, 41, 42] (by kernel_rfl) (by kernel_rfl) (by kernel_rfl) (by kernel_rfl) rfl (fun _ _ h_ => R.mvE rfl (by conv => lhs; whnf) (TL.nil h_)) ?_
                    refine Plan.s1 38 [40, 41, 42] (by kernel_rfl) (by kernel_rfl) rfl ?_
                    obtain ⟨r75, er75⟩ : ∃ r, r = (index_Type_m r24.1 2) := ⟨_, rfl⟩
                    refine TL.call [] rfl rfl rfl (index_Type_c _ r24.1 _ (fF24_0_0_5.mono (sb5_6.trans (s34.trans (sF34_0_0_7.trans (sb9_8.trans (s53.trans (s62.trans (sF62_0_0_11.trans (sF63_12.trans (s69.trans (sF69_0_0_15.trans sF70_16))))))))))) (2) (by first | omega | assumption | (simp; done) | (simp; omega) | (simp at *; omega)) (by first | assumption | exact rows_le (by assumption) (by omega) | (intro r h; simp at h; done))) ?_
                    intro v75 H75 L75 s75 q75
                    rw [← er75] at q75
                    obtain ⟨u75_0_0, c75_0_0, rfl, rfl, w75_0_0⟩ := q75
                    obtain ⟨A75_0_0, p75_0_0, rfl, m75_0_0, n75_0_0⟩ := OwnS.shape w75_0_0
                    refine TL.nil (Plan.e1 (s75) ?_)
                    refine Plan.s1 40 [41, 42] (by kernel_rfl) (by kernel_rfl) rfl ?_
                    refine TL.shut .hd ?_
                    intro HF75_0_0_18 sF75_0_0_18 qF75_0_0_18
                    have fF75_0_0_18 := OwnS.read w75_0_0 sF75_0_0_18 qF75_0_0_18
                    refine R.callv rfl rfl rfl (slices_Equal_Id_d _ _ r75 fF75_0_0_18 _ r12.2 (fF12_1_0_4.mono (s24.trans (sF24_0_0_5.trans (sb5_6.trans (s34.trans (sF34_0_0_7.trans (sb9_8.trans (s53.trans (s62.trans (sF62_0_0_11.trans (sF63_12.trans (s69.trans (sF69_0_0_15.trans (sF70_16.trans (s75.trans sF75_0_0_18)))))))))))))))) ?_
                    refine TL.nil (Plan.e1 (sF75_0_0_18) ?_)
                    refine Plan.v 41 [42] (by kernel_rfl) (by kernel_rfl) (by kernel_rfl) (by kernel_rfl) rfl (fun _ _ h_ => R.pkTE rfl rfl (by conv => lhs; whnf) (TL.nil h_)) ?_
                    refine Plan.v 42 [] (by kernel_rfl) (by kernel_rfl) (by kernel_rfl) (by kernel_rfl) rfl (fun _ _ h_ => R.asE rfl (by conv => lhs; whnf) (TL.nil h_)) ?_
                    refine Plan.done (Post.thnN ?_)
                    refine T.has Has.nil ?_
                    refine T.ret ?_
                    have hM : windroselaw14_wakes_m = (decide (r75 = r12.2)) := by subst er75; subst er69; subst er62; subst e60; subst er53; subst er34; subst er28; subst er24; subst er18; subst er12; rw [windroselaw14_wakes_m, LR.seq_go, LR.seq_go, LR.seq_go, LR.seq_go, LR.seq_go, if_pos g39, if_pos g43, if_pos g47, if_pos g51, LR.seq_go, if_pos g57, LR.seq_go, if_pos g66, LR.seq_go, if_pos g73, LR.seq_go]
                    exact fin1L (v := .bool (decide (r75 = r12.2))) [] rfl rfl (List.Sublist.refl _) ⟨rfl, by first | rw [hM] | rfl⟩
                  · refine Plan.v 37 [38, 39, 40, 41, 42] (by kernel_rfl) (by kernel_rfl) (by kernel_rfl) (by kernel_rfl) rfl (fun _ _ h_ => TL.off rfl rfl rfl (TL.nil h_)) ?_
                    refine Plan.v 38 [39, 40, 41, 42] (by kernel_rfl) (by kernel_rfl) (by kernel_rfl) (by kernel_rfl) rfl (fun _ _ h_ => TL.off rfl rfl rfl (TL.nil h_)) ?_
                    refine Plan.v 39 [40, 41, 42] (by kernel_rfl) (by kernel_rfl) (by kernel_rfl) (by kernel_rfl) rfl (fun _ _ h_ => TL.off rfl rfl rfl (TL.nil h_)) ?_
                    refine Plan.v 40 [41, 42] (by kernel_rfl) (by kernel_rfl) (by kernel_rfl) (by kernel_rfl) rfl (fun _ _ h_ => TL.off rfl rfl rfl (TL.nil h_)) ?_
                    refine Plan.v 41 [42] (by kernel_rfl) (by kernel_rfl) (by kernel_rfl) (by kernel_rfl) rfl (fun _ _ h_ => R.pkFE rfl rfl (by conv => lhs; whnf) (TL.nil h_)) ?_
                    refine Plan.v 42 [] (by kernel_rfl) (by kernel_rfl) (by kernel_rfl) (by kernel_rfl) rfl (fun _ _ h_ => R.asE rfl (by conv => lhs; whnf) (TL.nil h_)) ?_
                    refine Plan.done (Post.thnN ?_)
                    refine T.has Has.nil ?_
                    refine T.ret ?_
                    have hM : windroselaw14_wakes_m = false := by subst er69; subst er62; subst e60; subst er53; subst er34; subst er28; subst er24; subst er18; subst er12; rw [windroselaw14_wakes_m, LR.seq_go, LR.seq_go, LR.seq_go, LR.seq_go, LR.seq_go, if_pos g39, if_pos g43, if_pos g47, if_pos g51, LR.seq_go, if_pos g57, LR.seq_go, if_pos g66, LR.seq_go, if_neg g73]
                    exact fin1L (v := .bool false) [] rfl rfl (List.Sublist.refl _) ⟨rfl, by first | rw [hM] | rfl⟩
                · refine R.bs rfl (run_buildSlice1 Try.underlying37 Try.sizeOf3 Try.zeroValue3 rfl rfl) ?_
                  intro b70
                  have w70 : OwnS (intE .i64) 3 HF63_12 (.slice (some ⟨b70, 0, none⟩) 1 1) [2] [(b70, .cells #[.int .i64 2] 3)] := OwnS.lit (xs := [2]) (cellsOf_cons (a := [.int .i64 2]) rfl cellsOf_nil) (by show 1 ≤ maxLen; decide)
                  refine TL.nil (Plan.e1 (HLe.refl _) ?_)
                  refine Plan.s1 32 [34, 35, 36, 37, 38, 39, 40, 41, 42] (by kernel_rfl) (by kernel_rfl) rfl ?_
                  obtain ⟨r69, er69⟩ : ∃ r, r = (index_Find_m r24.1 r28.1) := ⟨_, rfl⟩
                  refine TL.call [] rfl rfl rfl (index_Find_c _ r24.1 _ (fF24_0_0_5.mono (sb5_6.trans (s34.trans (sF34_0_0_7.trans (sb9_8.trans (s53.trans (s62.trans (sF62_0_0_11.trans sF63_12)))))))) (r28.1) (by first | omega | assumption | (simp; done) | (simp; omega) | (simp at *; omega)) (by first | assumption | exact rows_le (by assumption) (by omega) | (intro r h; simp at h; done))) ?_
                  intro v69 H69 L69 s69 q69
                  rw [← er69] at q69
                  obtain ⟨u69_0_0, c69_0_0, rfl, rfl, w69_0_0⟩ := q69
                  obtain ⟨A69_0_0, p69_0_0, rfl, m69_0_0, n69_0_0⟩ := OwnS.shape w69_0_0
                  refine TL.nil (Plan.e1 (s69) ?_)
                  refine Plan.s1 34 [35, 36, 37, 38, 39, 40, 41, 42] (by kernel_rfl) (by kernel_rfl) rfl ?_
                  refine TL.shut .hd ?_
                  intro HF69_0_0_21 sF69_0_0_21 qF69_0_0_21
                  have fF69_0_0_21 := OwnS.read w69_0_0 sF69_0_0_21 qF69_0_0_21
                  refine TL.shut .hd ?_
                  intro HF70_22 sF70_22 qF70_22
                  have fF70_22 := OwnS.read (OwnS.mono w70 (s69.trans sF69_0_0_21)) sF70_22 qF70_22
                  refine R.callv rfl rfl rfl (slices_Equal_int_d _ _ r69 (fF69_0_0_21.mono sF70_22) _ ([2]) fF70_22) ?_
                  refine TL.nil (Plan.e1 ((sF69_0_0_21.trans sF70_22)) ?_)
                  refine Plan.v 35 [36, 37, 38, 39, 40, 41, 42] (by kernel_rfl) (by kernel_rfl) (by kernel_rfl) (by kernel_rfl) rfl (fun _ _ h_ => R.pkTE rfl rfl (by conv => lhs; whnf) (TL.nil h_)) ?_
                  refine Plan.v 36 [37, 38, 39, 40, 41, 42] (by kernel_rfl) (by kernel_rfl) (by kernel_rfl) (by kernel_rfl) rfl (fun _ _ h_ => R.mvE rfl (by conv => lhs; whnf) (TL.nil h_)) ?_
                  refine Plan.gsplitD 73 rfl (fun g73 => ?_) (fun g73 => ?_)
                  · refine Plan.v 37 [38, 39, 40, 41, 42] (by kernel_rfl) (by kernel_rfl) (by kernel_rfl) (by kernel_rfl) rfl (fun _ _ h_ => R.ldXH (cs := [.slice A24_0_0 r24.1.length p24_0_0]) (l := [.slice A24_0_0 r24.1.length p24_0_0]) Try.isAgg46 Try.sizeOf46 rfl rfl ((s34.trans (sF34_0_0_7.trans (sb9_8.trans (s53.trans (s62.trans (sF62_0_0_11.trans (sF63_12.trans (s69.trans (sF69_0_0_21.trans sF70_22))))))))) _ _ hb5_6) rfl rfl (TL.nil h_)) ?_
                    refine Plan.v 39 [38, 40, 41, 42] (by kernel_rfl) (by kernel_rfl) (by kernel_rfl) (by kernel_rfl) rfl (fun _ _ h_ => R.mvE rfl (by conv => lhs; whnf) (TL.nil h_)) ?_
                    refine Plan.s1 38 [40, 41, 42] (by kernel_rfl) (by kernel_rfl) rfl ?_
                    obtain ⟨r75, er75⟩ : ∃ r, r = (index_Type_m r24.1 2) := ⟨_, rfl⟩
                    refine TL.call [] rfl rfl rfl (index_Type_c _ r24.1 _ (fF24_0_0_5.mono (sb5_6.trans (s34.trans (sF34_0_0_7.trans (sb9_8.trans (s53.trans (s62.trans (sF62_0_0_11.trans (sF63_12.trans (s69.trans (sF69_0_0_21.trans sF70_22))))))))))) (2) (by first | omega | assumption | (simp; done) | (simp; omega) | (simp at *; omega)) (by first | assumption | exact rows_le (by assumption) (by omega) | (intro r h; simp at h; done))) ?_
                    intro v75 H75 L75 s75 q75
                    rw [← er75] at q75
                    obtain ⟨u75_0_0, c75_0_0, rfl, rfl, w75_0_0⟩ := q75
                    obtain ⟨A75_0_0, p75_0_0, rfl, m75_0_0, n75_0_0⟩ := OwnS.shape w75_0_0
                    refine TL.nil (Plan.e1 (s75) ?_)
                    refine Plan.s1 40 [41, 42] (by kernel_rfl) (by kernel_rfl) rfl ?_
                    refine TL.shut .hd ?_
                    intro HF75_0_0_24 sF75_0_0_24 qF75_0_0_24
                    have fF75_0_0_24 := OwnS.read w75_0_0 sF75_0_0_24 qF75_0_0_24
                    refine R.callv rfl rfl rfl (slices_Equal_Id_d _ _ r75 fF75_0_0_24 _ r12.2 (fF12_1_0_4.mono (s24.trans (sF24_0_0_5.trans (sb5_6.trans (s34.trans (sF34_0_0_7.trans (sb9_8.trans (s53.trans (s62.trans (sF62_0_0_11.trans (sF63_12.trans (s69.trans (sF69_0_0_21.trans (sF70_22.trans (s75.trans sF75_0_0_24)))))))))))))))) ?_
                    refine TL.nil (Plan.e1 (sF75_0_0_24) ?_)
                    refine Plan.v 41 [42] (by kernel_rfl) (by kernel_rfl) (by kernel_rfl) (by kernel_rfl) rfl (fun _ _ h_ => R.pkTE rfl rfl (by conv => lhs; whnf) (TL.nil h_)) ?_
                    refine Plan.v 42 [] (by kernel_rfl) (by kernel_rfl) (by kernel_rfl) (by kernel_rfl) rfl (fun _ _ h_ => R.asE rfl (by conv => lhs; whnf) (TL.nil h_)) ?_
                    refine Plan.done (Post.thnN ?_)
                    refine T.has Has.nil ?_
                    refine T.ret ?_
                    have hM : windroselaw14_wakes_m = (decide (r75 = r12.2)) := by subst er75; subst er69; subst er62; subst e60; subst er53; subst er34; subst er28; subst er24; subst er18; subst er12; rw [windroselaw14_wakes_m, LR.seq_go, LR.seq_go, LR.seq_go, LR.seq_go, LR.seq_go, if_pos g39, if_pos g43, if_pos g47, if_pos g51, LR.seq_go, if_pos g57, LR.seq_go, if_pos g66, LR.seq_go, if_pos g73, LR.seq_go]
                    exact fin1L (v := .bool (decide (r75 = r12.2))) [] rfl rfl (List.Sublist.refl _) ⟨rfl, by first | rw [hM] | rfl⟩
                  · refine Plan.v 37 [38, 39, 40, 41, 42] (by kernel_rfl) (by kernel_rfl) (by kernel_rfl) (by kernel_rfl) rfl (fun _ _ h_ => TL.off rfl rfl rfl (TL.nil h_)) ?_
                    refine Plan.v 38 [39, 40, 41, 42] (by kernel_rfl) (by kernel_rfl) (by kernel_rfl) (by kernel_rfl) rfl (fun _ _ h_ => TL.off rfl rfl rfl (TL.nil h_)) ?_
                    refine Plan.v 39 [40, 41, 42] (by kernel_rfl) (by kernel_rfl) (by kernel_rfl) (by kernel_rfl) rfl (fun _ _ h_ => TL.off rfl rfl rfl (TL.nil h_)) ?_
                    refine Plan.v 40 [41, 42] (by kernel_rfl) (by kernel_rfl) (by kernel_rfl) (by kernel_rfl) rfl (fun _ _ h_ => TL.off rfl rfl rfl (TL.nil h_)) ?_
                    refine Plan.v 41 [42] (by kernel_rfl) (by kernel_rfl) (by kernel_rfl) (by kernel_rfl) rfl (fun _ _ h_ => R.pkFE rfl rfl (by conv => lhs; whnf) (TL.nil h_)) ?_
                    refine Plan.v 42 [] (by kernel_rfl) (by kernel_rfl) (by kernel_rfl) (by kernel_rfl) rfl (fun _ _ h_ => R.asE rfl (by conv => lhs; whnf) (TL.nil h_)) ?_
                    refine Plan.done (Post.thnN ?_)
                    refine T.has Has.nil ?_
                    refine T.ret ?_
                    have hM : windroselaw14_wakes_m = false := by subst er69; subst er62; subst e60; subst er53; subst er34; subst er28; subst er24; subst er18; subst er12; rw [windroselaw14_wakes_m, LR.seq_go, LR.seq_go, LR.seq_go, LR.seq_go, LR.seq_go, if_pos g39, if_pos g43, if_pos g47, if_pos g51, LR.seq_go, if_pos g57, LR.seq_go, if_pos g66, LR.seq_go, if_neg g73]
                    exact fin1L (v := .bool false) [] rfl rfl (List.Sublist.refl _) ⟨rfl, by first | rw [hM] | rfl⟩
              · refine Plan.v 30 [31, 32, 33, 34, 35, 36, 37, 38, 39, 40, 41, 42] (by kernel_rfl) (by kernel_rfl) (by kernel_rfl) (by kernel_rfl) rfl (fun _ _ h_ => TL.off rfl rfl rfl (TL.nil h_)) ?_
                refine Plan.v 31 [32, 33, 34, 35, 36, 37, 38, 39, 40, 41, 42] (by kernel_rfl) (by kernel_rfl) (by kernel_rfl) (by kernel_rfl) rfl (fun _ _ h_ => TL.off rfl rfl rfl (TL.nil h_)) ?_
                refine Plan.v 32 [33, 34, 35, 36, 37, 38, 39, 40, 41, 42] (by kernel_rfl) (by kernel_rfl) (by kernel_rfl) (by kernel_rfl) rfl (fun _ _ h_ => TL.off rfl rfl rfl (TL.nil h_)) ?_
                refine Plan.v 33 [34, 35, 36, 37, 38, 39, 40, 41, 42] (by kernel_rfl) (by kernel_rfl) (by kernel_rfl) (by kernel_rfl) rfl (fun _ _ h_ => TL.off rfl rfl rfl (TL.nil h_)) ?_
                refine Plan.v 34 [35, 36, 37, 38, 39, 40, 41, 42] (by kernel_rfl) (by kernel_rfl) (by kernel_rfl) (by kernel_rfl) rfl (fun _ _ h_ => TL.off rfl rfl rfl (TL.nil h_)) ?_
                refine Plan.v 35 [36, 37, 38, 39, 40, 41, 42] (by kernel_rfl) (by kernel_rfl) (by kernel_rfl) (by kernel_rfl) rfl (fun _ _ h_ => R.pkFE rfl rfl (by conv => lhs; whnf) (TL.nil h_)) ?_
                refine Plan.v 36 [37, 38, 39, 40, 41, 42] (by kernel_rfl) (by kernel_rfl) (by kernel_rfl) (by kernel_rfl) rfl (fun _ _ h_ => R.mvE rfl (by conv => lhs; whnf) (TL.nil h_)) ?_
                refine Plan.v 37 [38, 39, 40, 41, 42] (by kernel_rfl) (by kernel_rfl) (by kernel_rfl) (by kernel_rfl) rfl (fun _ _ h_ => TL.off rfl rfl rfl (TL.nil h_)) ?_
                refine Plan.v 38 [39, 40, 41, 42] (by kernel_rfl) (by kernel_rfl) (by kernel_rfl) (by kernel_rfl) rfl (fun _ _ h_ => TL.off rfl rfl rfl (TL.nil h_)) ?_
                refine Plan.v 39 [40, 41, 42] (by kernel_rfl) (by kernel_rfl) (by kernel_rfl) (by kernel_rfl) rfl (fun _ _ h_ => TL.off rfl rfl rfl (TL.nil h_)) ?_
                refine Plan.v 40 [41, 42] (by kernel_rfl) (by kernel_rfl) (by kernel_rfl) (by kernel_rfl) rfl (fun _ _ h_ => TL.off rfl rfl rfl (TL.nil h_)) ?_
                refine Plan.v 41 [42] (by kernel_rfl) (by kernel_rfl) (by kernel_rfl) (by kernel_rfl) rfl (fun _ _ h_ => R.pkFE rfl rfl (by conv => lhs; whnf) (TL.nil h_)) ?_
                refine Plan.v 42 [] (by kernel_rfl) (by kernel_rfl) (by kernel_rfl) (by kernel_rfl) rfl (fun _ _ h_ => R.asE rfl (by conv => lhs; whnf) (TL.nil h_)) ?_
                refine Plan.done (Post.thnN ?_)
                refine T.has Has.nil ?_
                refine T.ret ?_
                have hM : windroselaw14_wakes_m = false := by subst er62; subst e60; subst er53; subst er34; subst er28; subst er24; subst er18; subst er12; rw [windroselaw14_wakes_m, LR.seq_go, LR.seq_go, LR.seq_go, LR.seq_go, LR.seq_go, if_pos g39, if_pos g43, if_pos g47, if_pos g51, LR.seq_go, if_pos g57, LR.seq_go, if_neg g66]
                exact fin1L (v := .bool false) [] rfl rfl (List.Sublist.refl _) ⟨rfl, by first | rw [hM] | rfl⟩
            · refine R.bsN [.int .i64 1, .int .i64 2] rfl Try.underlying37 Try.sizeOf3 Try.zeroValue3 rfl rfl rfl rfl rfl rfl ?_
              intro b63
              have w63 : OwnS (intE .i64) 3 H53 (.slice (some ⟨b63, 0, none⟩) 2 2) [1, 2] [(b63, .cells #[.int .i64 1, .int .i64 2] 3)] := OwnS.lit (xs := [1, 2]) (cellsOf_cons (a := [.int .i64 1]) rfl (cellsOf_cons (a := [.int .i64 2]) rfl cellsOf_nil)) (by show 2 ≤ maxLen; decide)
              refine TL.nil (Plan.e1 (HLe.refl _) ?_)
              refine Plan.s1 25 [27, 28, 29, 30, 31, 32, 33, 34, 35, 36, 37, 38, 39, 40, 41, 42] (by kernel_rfl) (by kernel_rfl) rfl ?_
              obtain ⟨r62, er62⟩ : ∃ r, r = (index_Find_m r24.1 y60) := ⟨_, rfl⟩
              refine TL.call [] rfl rfl rfl (index_Find_c _ r24.1 _ (fF24_0_0_5.mono (sb5_6.trans (s34.trans (sF34_0_0_7.trans (sb9_8.trans s53))))) (y60) (by first | omega | assumption | (simp; done) | (simp; omega) | (simp at *; omega)) (by first | assumption | exact rows_le (by assumption) (by omega) | (intro r h; simp at h; done))) ?_
              intro v62 H62 L62 s62 q62
              rw [← er62] at q62
              obtain ⟨u62_0_0, c62_0_0, rfl, rfl, w62_0_0⟩ := q62
              obtain ⟨A62_0_0, p62_0_0, rfl, m62_0_0, n62_0_0⟩ := OwnS.shape w62_0_0
              refine TL.nil (Plan.e1 (s62) ?_)
              refine Plan.s1 27 [28, 29, 30, 31, 32, 33, 34, 35, 36, 37, 38, 39, 40, 41, 42] (by kernel_rfl) (by kernel_rfl) rfl ?_
              refine TL.shut .hd ?_
              intro HF62_0_0_27 sF62_0_0_27 qF62_0_0_27
              have fF62_0_0_27 := OwnS.read w62_0_0 sF62_0_0_27 qF62_0_0_27
              refine TL.shut .hd ?_
              intro HF63_28 sF63_28 qF63_28
              have fF63_28 := OwnS.read (OwnS.mono w63 (s62.trans sF62_0_0_27)) sF63_28 qF63_28
              refine R.callv rfl rfl rfl (slices_Equal_int_d _ _ r62 (fF62_0_0_27.mono sF63_28) _ ([1, 2]) fF63_28) ?_
              refine TL.nil (Plan.e1 ((sF62_0_0_27.trans sF63_28)) ?_)
              refine Plan.v 28 [29, 30, 31, 32, 33, 34, 35, 36, 37, 38, 39, 40, 41, 42] (by kernel_rfl) (by kernel_rfl) (by kernel_rfl) (by kernel_rfl) rfl (fun _ _ h_ => R.pkTE rfl rfl (by conv => lhs; whnf) (TL.nil h_)) ?_
              refine Plan.v 29 [30, 31, 32, 33, 34, 35, 36, 37, 38, 39, 40, 41, 42] (by kernel_rfl) (by kernel_rfl) (by kernel_rfl) (by kernel_rfl) rfl (fun _ _ h_ => R.mvE rfl (by conv => lhs; whnf) (TL.nil h_)) ?_
              refine Plan.gsplitD 66 rfl (fun g66 => ?_) (fun g66 => ?_)
              · refine Plan.v 30 [31, 32, 33, 34, 35, 36, 37, 38, 39, 40, 41, 42] (by kernel_rfl) (by kernel_rfl) (by kernel_rfl) (by kernel_rfl) rfl (fun _ _ h_ => R.ldXH (cs := [.slice A24_0_0 r24.1.length p24_0_0]) (l := [.slice A24_0_0 r24.1.length p24_0_0]) Try.isAgg46 Try.sizeOf46 rfl rfl ((s34.trans (sF34_0_0_7.trans (sb9_8.trans (s53.trans (s62.trans (sF62_0_0_27.trans sF63_28)))))) _ _ hb5_6) rfl rfl (TL.nil h_)) ?_
                refine Plan.v 31 [32, 33, 34, 35, 36, 37, 38, 39, 40, 41, 42] (by kernel_rfl) (by kernel_rfl) (by kernel_rfl) (by kernel_rfl) rfl (fun _ _ h_ => R.mvE rfl (by conv => lhs; whnf) (TL.nil h_)) ?_
                refine Plan.s2 32 33 [33, 34, 35, 36, 37, 38, 39, 40, 41, 42] [32, 34, 35, 36, 37, 38, 39, 40, 41, 42] (by kernel_rfl) (by kernel_rfl) (by kernel_rfl) rfl rfl ?_ ?_
                · obtain ⟨r69, er69⟩ : ∃ r, r = (index_Find_m r24.1 r28.1) := ⟨_, rfl⟩
                  refine TL.call [] rfl rfl rfl (index_Find_c _ r24.1 _ (fF24_0_0_5.mono (sb5_6.trans (s34.trans (sF34_0_0_7.trans (sb9_8.trans (s53.trans (s62.trans (sF62_0_0_27.trans sF63_28)))))))) (r28.1) (by first | omega | assumption | (simp; done) | (simp; omega) | (simp at *; omega)) (by first | assumption | exact rows_le (by assumption) (by omega) | (intro r h; simp at h; done))) ?_
                  intro v69 H69 L69 s69 q69
                  rw [← er69] at q69
                  obtain ⟨u69_0_0, c69_0_0, rfl, rfl, w69_0_0⟩ := q69
                  obtain ⟨A69_0_0, p69_0_0, rfl, m69_0_0, n69_0_0⟩ := OwnS.shape w69_0_0
                  refine TL.nil (Plan.e1 (s69) ?_)
                  refine Plan.s1 33 [34, 35, 36, 37, 38, 39, 40, 41, 42] (by kernel_rfl) (by kernel_rfl) rfl ?_
                  refine R.bs rfl (run_buildSlice1 Try.underlying37 Try.sizeOf3 Try.zeroValue3 rfl rfl) ?_
                  intro b70
                  have w70 : OwnS (intE .i64) 3 H69 (.slice (some ⟨b70, 0, none⟩) 1 1) [2] [(b70, .cells #[.int .i64 2] 3)] := OwnS.lit (xs := [2]) (cellsOf_cons (a := [.int .i64 2]) rfl cellsOf_nil) (by show 1 ≤ maxLen; decide)
                  refine TL.nil (Plan.e1 (HLe.refl _) ?_)
                  refine Plan.s1 34 [35, 36, 37, 38, 39, 40, 41, 42] (by kernel_rfl) (by kernel_rfl) rfl ?_
                  refine TL.shut (.tl .hd) ?_
                  intro HF69_0_0_31 sF69_0_0_31 qF69_0_0_31
                  have fF69_0_0_31 := OwnS.read w69_0_0 sF69_0_0_31 qF69_0_0_31
                  refine TL.shut .hd ?_
                  intro HF70_32 sF70_32 qF70_32
                  have fF70_32 := OwnS.read (OwnS.mono w70 sF69_0_0_31) sF70_32 qF70_32
                  refine R.callv rfl rfl rfl (slices_Equal_int_d _ _ r69 (fF69_0_0_31.mono sF70_32) _ ([2]) fF70_32) ?_
                  refine TL.nil (Plan.e1 ((sF69_0_0_31.trans sF70_32)) ?_)
                  refine Plan.v 35 [36, 37, 38, 39, 40, 41, 42] (by kernel_rfl) (by kernel_rfl) (by kernel_rfl) (by kernel_rfl) rfl (fun _ _ h_ => R.pkTE rfl rfl (by conv => lhs; whnf) (TL.nil h_)) ?_
                  refine Plan.v 36 [37, 38, 39, 40, 41, 42] (by kernel_rfl) (by kernel_rfl) (by kernel_rfl) (by kernel_rfl) rfl (fun _ _ h_ => R.mvE rfl (by conv => lhs; whnf) (TL.nil h_)) ?_
                  refine Plan.gsplitD 73 rfl (fun g73 => ?_) (fun g73 => ?_)
                  · refine Plan.v 37 [38, 39, 40, 41, 42] (by kernel_rfl) (by kernel_rfl) (by kernel_rfl) (by kernel_rfl) rfl (fun _ _ h_ => R.ldXH (cs := [.slice A24_0_0 r24.1.length p24_0_0]) (l := [.slice A24_0_0 r24.1.length p24_0_0]) Try.isAgg46 Try.sizeOf46 rfl rfl ((s34.trans (sF34_0_0_7.trans (sb9_8.trans (s53.trans (s62.trans (sF62_0_0_27.trans (sF63_28.trans (s69.trans (sF69_0_0_31.trans sF70_32))))))))) _ _ hb5_6) rfl rfl (TL.nil h_)) ?_
                    refine Plan.v 39 [38, 40, 41, 42] (by kernel_rfl) (by kernel_rfl) (by kernel_rfl) (by kernel_rfl) rfl (fun _ _ h_ => R.mvE rfl (by conv => lhs; whnf) (TL.nil h_)) ?_
                    refine Plan.s1 38 [40, 41, 42] (by kernel_rfl) (by kernel_rfl) rfl ?_
                    obtain ⟨r75, er75⟩ : ∃ r, r = (index_Type_m r24.1 2) := ⟨_, rfl⟩
                    refine TL.call [] rfl rfl rfl (index_Type_c _ r24.1 _ (fF24_0_0_5.mono (sb5_6.trans (s34.trans (sF34_0_0_7.trans (sb9_8.trans (s53.trans (s62.trans (sF62_0_0_27.trans (sF63_28.trans (s69.trans (sF69_0_0_31.trans sF70_32))))))))))) (2) (by first | omega | assumption | (simp; done) | (simp; omega) | (simp at *; omega)) (by first | assumption | exact rows_le (by assumption) (by omega) | (intro r h; simp at h; done))) ?_
                    intro v75 H75 L75 s75 q75
                    rw [← er75] at q75
                    obtain ⟨u75_0_0, c75_0_0, rfl, rfl, w75_0_0⟩ := q75
                    obtain ⟨A75_0_0, p75_0_0, rfl, m75_0_0, n75_0_0⟩ := OwnS.shape w75_0_0
                    refine TL.nil (Plan.e1 (s75) ?_)
                    refine Plan.s1 40 [41, 42] (by kernel_rfl) (by kernel_rfl) rfl ?_
                    refine TL.shut .hd ?_
                    intro HF75_0_0_34 sF75_0_0_34 qF75_0_0_34
                    have fF75_0_0_34 := OwnS.read w75_0_0 sF75_0_0_34 qF75_0_0_34
                    refine R.callv rfl rfl rfl (slices_Equal_Id_d _ _ r75 fF75_0_0_34 _ r12.2 (fF12_1_0_4.mono (s24.trans (sF24_0_0_5.trans (sb5_6.trans (s34.trans (sF34_0_0_7.trans (sb9_8.trans (s53.trans (s62.trans (sF62_0_0_27.trans (sF63_28.trans (s69.trans (sF69_0_0_31.trans (sF70_32.trans (s75.trans sF75_0_0_34)))))))))))))))) ?_
                    refine TL.nil (Plan.e1 (sF75_0_0_34) ?_)
                    refine Plan.v 41 [42] (by kernel_rfl) (by kernel_rfl) (by kernel_rfl) (by kernel_rfl) rfl (fun _ _ h_ => R.pkTE rfl rfl (by conv => lhs; whnf) (TL.nil h_)) ?_
                    refine Plan.v 42 [] (by kernel_rfl) (by kernel_rfl) (by kernel_rfl) (by kernel_rfl) rfl (fun _ _ h_ => R.asE rfl (by conv => lhs; whnf) (TL.nil h_)) ?_
                    refine Plan.done (Post.thnN ?_)
                    refine T.has Has.nil ?_
                    refine T.ret ?_
                    have hM : windroselaw14_wakes_m = (decide (r75 = r12.2)) := by subst er75; subst er69; subst er62; subst e60; subst er53; subst er34; subst er28; subst er24; subst er18; subst er12; rw [windroselaw14_wakes_m, LR.seq_go, LR.seq_go, LR.seq_go, LR.seq_go, LR.seq_go, if_pos g39, if_pos g43, if_pos g47, if_pos g51, LR.seq_go, if_pos g57, LR.seq_go, if_pos g66, LR.seq_go, if_pos g73, LR.seq_go]
                    exact fin1L (v := .bool (decide (r75 = r12.2))) [] rfl rfl (List.Sublist.refl _) ⟨rfl, by first | rw [hM] | rfl⟩
                  · refine Plan.v 37 [38, 39, 40, 41, 42] (by kernel_rfl) (by kernel_rfl) (by kernel_rfl) (by kernel_rfl) rfl (fun _ _ h_ => TL.off rfl rfl rfl (TL.nil h_)) ?_
                    refine Plan.v 38 [39, 40, 41, 42] (by kernel_rfl) (by kernel_rfl) (by kernel_rfl) (by kernel_rfl) rfl (fun _ _ h_ => TL.off rfl rfl rfl (TL.nil h_)) ?_
                    refine Plan.v 39 [40, 41, 42] (by kernel_rfl) (by kernel_rfl) (by kernel_rfl) (by kernel_rfl) rfl (fun _ _ h_ => TL.off rfl rfl rfl (TL.nil h_)) ?_
                    refine Plan.v 40 [41, 42] (by kernel_rfl) (by kernel_rfl) (by kernel_rfl) (by kernel_rfl) rfl (fun _ _ h_ => TL.off rfl rfl rfl (TL.nil h_)) ?_
                    refine Plan.v 41 [42] (by kernel_rfl) (by kernel_rfl) (by kernel_rfl) (by kernel_rfl) rfl (fun _ _ h_ => R.pkFE rfl rfl (by conv => lhs; whnf) (TL.nil h_)) ?_
                    refine Plan.v 42 [] (by kernel_rfl) (by kernel_rfl) (by kernel_rfl) (by kernel_rfl) rfl (fun _ _ h_ => R.asE rfl (by conv => lhs; whnf) (TL.nil h_)) ?_
                    refine Plan.done (Post.thnN ?_)
                    refine T.has Has.nil ?_
                    refine T.ret ?_
                    have hM : windroselaw14_wakes_m = false := by subst er69; subst er62; subst e60; subst er53; subst er34; subst er28; subst er24; subst er18; subst er12; rw [windroselaw14_wakes_m, LR.seq_go, LR.seq_go, LR.seq_go, LR.seq_go, LR.seq_go, if_pos g39, if_pos g43, if_pos g47, if_pos g51, LR.seq_go, if_pos g57, LR.seq_go, if_pos g66, LR.seq_go, if_neg g73]
                    exact fin1L (v := .bool false) [] rfl rfl (List.Sublist.refl _) ⟨rfl, by first | rw [hM] | rfl⟩
                · refine R.bs rfl (run_buildSlice1 Try.underlying37 Try.sizeOf3 Try.zeroValue3 rfl rfl) ?_
                  intro b70
                  have w70 : OwnS (intE .i64) 3 HF63_28 (.slice (some ⟨b70, 0, none⟩) 1 1) [2] [(b70, .cells #[.int .i64 2] 3)] := OwnS.lit (xs := [2]) (cellsOf_cons (a := [.int .i64 2]) rfl cellsOf_nil) (by show 1 ≤ maxLen; decide)
                  refine TL.nil (Plan.e1 (HLe.refl _) ?_)
                  refine Plan.s1 32 [34, 35, 36, 37, 38, 39, 40, 41, 42] (by kernel_rfl) (by kernel_rfl) rfl ?_
                  obtain ⟨r69, er69⟩ : ∃ r, r = (index_Find_m r24.1 r28.1) := ⟨_, rfl⟩
                  refine TL.call [] rfl rfl rfl (index_Find_c _ r24.1 _ (fF24_0_0_5.mono (sb5_6.trans (s34.trans (sF34_0_0_7.trans (sb9_8.trans (s53.trans (s62.trans (sF62_0_0_27.trans sF63_28)))))))) (r28.1) (by first | omega | assumption | (simp; done) | (simp; omega) | (simp at *; omega)) (by first | assumption | exact rows_le (by assumption) (by omega) | (intro r h; simp at h; done))) ?_
                  intro v69 H69 L69 s69 q69
                  rw [← er69] at q69
                  obtain ⟨u69_0_0, c69_0_0, rfl, rfl, w69_0_0⟩ := q69
                  obtain ⟨A69_0_0, p69_0_0, rfl, m69_0_0, n69_0_0⟩ := OwnS.shape w69_0_0
                  refine TL.nil (Plan.e1 (s69) ?_)
                  refine Plan.s1 34 [35, 36, 37, 38, 39, 40, 41, 42] (by kernel_rfl) (by kernel_rfl) rfl ?_
                  refine TL.shut .hd ?_
                  intro HF69_0_0_37 sF69_0_0_37 qF69_0_0_37
                  have fF69_0_0_37 := OwnS.read w69_0_0 sF69_0_0_37 qF69_0_0_37
                  refine TL.shut .hd ?_
                  intro HF70_38 sF70_38 qF70_38
                  have fF70_38 := OwnS.read (OwnS.mono w70 (s69.trans sF69_0_0_37)) sF70_38 qF70_38
                  refine R.callv rfl rfl rfl (slices_Equal_int_d _ _ r69 (fF69_0_0_37.mono sF70_38) _ ([2]) fF70_38) ?_
                  refine TL.nil (Plan.e1 ((sF69_0_0_37.trans sF70_38)) ?_)
                  refine Plan.v 35 [36, 37, 38, 39, 40, 41, 42] (by kernel_rfl) (by kernel_rfl) (by kernel_rfl) (by kernel_rfl) rfl (fun _ _ h_ => R.pkTE rfl rfl (by conv => lhs; whnf) (TL.nil h_)) ?_
                  refine Plan.v 36 [37, 38, 39, 40, 41, 42] (by kernel_rfl) (by kernel_rfl) (by kernel_rfl) (by kernel_rfl) rfl (fun _ _ h_ => R.mvE rfl (by conv => lhs; whnf) (TL.nil h_)) ?_
                  refine Plan.gsplitD 73 rfl (fun g73 => ?_) (fun g73 => ?_)
                  · refine Plan.v 37 [38, 39, 40, 41, 42] (by kernel_rfl) (by kernel_rfl) (by kernel_rfl) (by kernel_rfl) rfl (fun _ _ h_ => R.ldXH (cs := [.slice A24_0_0 r24.1.length p24_0_0]) (l := [.slice A24_0_0 r24.1.length p24_0_0]) Try.isAgg46 Try.sizeOf46 rfl rfl ((s34.trans (sF34_0_0_7.trans (sb9_8.trans (s53.trans (s62.trans (sF62_0_0_27.trans (sF63_28.trans (s69.trans (sF69_0_0_37.trans sF70_38))))))))) _ _ hb5_6) rfl rfl (TL.nil h_)) ?_
                    refine Plan.v 39 [38, 40, 41, 42] (by kernel_rfl) (by kernel_rfl) (by kernel_rfl) (by kernel_rfl) rfl (fun _ _ h_ => R.mvE rfl (by conv => lhs; whnf) (TL.nil h_)) ?_
                    refine Plan.s1 38 [40, 41, 42] (by kernel_rfl) (by kernel_rfl) rfl ?_
                    obtain ⟨r75, er75⟩ : ∃ r, r = (index_Type_m r24.1 2) := ⟨_, rfl⟩
                    refine TL.call [] rfl rfl rfl (index_Type_c _ r24.1 _ (fF24_0_0_5.mono (sb5_6.trans (s34.trans (sF34_0_0_7.trans (sb9_8.trans (s53.trans (s62.trans (sF62_0_0_27.trans (sF63_28.trans (s69.trans (sF69_0_0_37.trans sF70_38))))))))))) (2) (by first | omega | assumption | (simp; done) | (simp; omega) | (simp at *; omega)) (by first | assumption | exact rows_le (by assumption) (by omega) | (intro r h; simp at h; done))) ?_
                    intro v75 H75 L75 s75 q75
                    rw [← er75] at q75
                    obtain ⟨u75_0_0, c75_0_0, rfl, rfl, w75_0_0⟩ := q75
                    obtain ⟨A75_0_0, p75_0_0, rfl, m75_0_0, n75_0_0⟩ := OwnS.shape w75_0_0
                    refine TL.nil (Plan.e1 (s75) ?_)
                    refine Plan.s1 40 [41, 42] (by kernel_rfl) (by kernel_rfl) rfl ?_
                    refine TL.shut .hd ?_
                    intro HF75_0_0_40 sF75_0_0_40 qF75_0_0_40
                    have fF75_0_0_40 := OwnS.read w75_0_0 sF75_0_0_40 qF75_0_0_40
                    refine R.callv rfl rfl rfl (slices_Equal_Id_d _ _ r75 fF75_0_0_40 _ r12.2 (fF12_1_0_4.mono (s24.trans (sF24_0_0_5.trans (sb5_6.trans (s34.trans (sF34_0_0_7.trans (sb9_8.trans (s53.trans (s62.trans (sF62_0_0_27.trans (sF63_28.trans (s69.trans (sF69_0_0_37.trans (sF70_38.trans (s75.trans sF75_0_0_40)))))))))))))))) ?_
                    refine TL.nil (Plan.e1 (sF75_0_0_40) ?_)
                    refine Plan.v 41 [42] (by kernel_rfl) (by kernel_rfl) (by kernel_rfl) (by kernel_rfl) rfl (fun _ _ h_ => R.pkTE rfl rfl (by conv => lhs; whnf) (TL.nil h_)) ?_
                    refine Plan.v 42 [] (by kernel_rfl) (by kernel_rfl) (by kernel_rfl) (by kernel_rfl) rfl (fun _ _ h_ => R.asE rfl (by conv => lhs; whnf) (TL.nil h_)) ?_
                    refine Plan.done (Post.thnN ?_)
                    refine T.has Has.nil ?_
                    refine T.ret ?_
                    have hM : windroselaw14_wakes_m = (decide (r75 = r12.2)) := by subst er75; subst er69; subst er62; subst e60; subst er53; subst er34; subst er28; subst er24; subst er18; subst er12; rw [windroselaw14_wakes_m, LR.seq_go, LR.seq_go, LR.seq_go, LR.seq_go, LR.seq_go, if_pos g39, if_pos g43, if_pos g47, if_pos g51, LR.seq_go, if_pos g57, LR.seq_go, if_pos g66, LR.seq_go, if_pos g73, LR.seq_go]
                    exact fin1L (v := .bool (decide (r75 = r12.2))) [] rfl rfl (List.Sublist.refl _) ⟨rfl, by first | rw [hM] | rfl⟩
                  · refine Plan.v 37 [38, 39, 40, 41, 42] (by kernel_rfl) (by kernel_rfl) (by kernel_rfl) (by kernel_rfl) rfl (fun _ _ h_ => TL.off rfl rfl rfl (TL.nil h_)) ?_
                    refine Plan.v 38 [39, 40, 41, 42] (by kernel_rfl) (by kernel_rfl) (by kernel_rfl) (by kernel_rfl) rfl (fun _ _ h_ => TL.off rfl rfl rfl (TL.nil h_)) ?_
                    refine Plan.v 39 [40, 41, 42] (by kernel_rfl) (by kernel_rfl) (by kernel_rfl) (by kernel_rfl) rfl (fun _ _ h_ => TL.off rfl rfl rfl (TL.nil h_)) ?_
                    refine Plan.v 40 [41, 42] (by kernel_rfl) (by kernel_rfl) (by kernel_rfl) (by kernel_rfl) rfl (fun _ _ h_ => TL.off rfl rfl rfl (TL.nil h_)) ?_
                    refine Plan.v 41 [42] (by kernel_rfl) (by kernel_rfl) (by kernel_rfl) (by kernel_rfl) rfl (fun _ _ h_ => R.pkFE rfl rfl (by conv => lhs; whnf) (TL.nil h_)) ?_
                    refine Plan.v 42 [] (by kernel_rfl) (by kernel_rfl) (by kernel_rfl) (by kernel_rfl) rfl (fun _ _ h_ => R.asE rfl (by conv => lhs; whnf) (TL.nil h_)) ?_
                    refine Plan.done (Post.thnN ?_)
                    refine T.has Has.nil ?_
                    refine T.ret ?_
                    have hM : windroselaw14_wakes_m = false := by subst er69; subst er62; subst e60; subst er53; subst er34; subst er28; subst er24; subst er18; subst er12; rw [windroselaw14_wakes_m, LR.seq_go, LR.seq_go, LR.seq_go, LR.seq_go, LR.seq_go, if_pos g39, if_pos g43, if_pos g47, if_pos g51, LR.seq_go, if_pos g57, LR.seq_go, if_pos g66, LR.seq_go, if_neg g73]
                    exact fin1L (v := .bool false) [] rfl rfl (List.Sublist.refl _) ⟨rfl, by first | rw [hM] | rfl⟩
              · refine Plan.v 30 [31, 32, 33, 34, 35, 36, 37, 38, 39, 40, 41, 42] (by kernel_rfl) (by kernel_rfl) (by kernel_rfl) (by kernel_rfl) rfl (fun _ _ h_ => TL.off rfl rfl rfl (TL.nil h_)) ?_
                refine Plan.v 31 [32, 33, 34, 35, 36, 37, 38, 39, 40, 41, 42] (by kernel_rfl) (by kernel_rfl) (by kernel_rfl) (by kernel_rfl) rfl (fun _ _ h_ => TL.off rfl rfl rfl (TL.nil h_)) ?_
                refine Plan.v 32 [33, 34, 35, 36, 37, 38, 39, 40, 41, 42] (by kernel_rfl) (by kernel_rfl) (by kernel_rfl) (by kernel_rfl) rfl (fun _ _ h_ => TL.off rfl rfl rfl (TL.nil h_)) ?_
                refine Plan.v 33 [34, 35, 36, 37, 38, 39, 40, 41, 42] (by kernel_rfl) (by kernel_rfl) (by kernel_rfl) (by kernel_rfl) rfl (fun _ _ h_ => TL.off rfl rfl rfl (TL.nil h_)) ?_
                refine Plan.v 34 [35, 36, 37, 38, 39, 40, 41, 42] (by kernel_rfl) (by kernel_rfl) (by kernel_rfl) (by kernel_rfl) rfl (fun _ _ h_ => TL.off rfl rfl rfl (TL.nil h_)) ?_
                refine Plan.v 35 [36, 37, 38, 39, 40, 41, 42] (by kernel_rfl) (by kernel_rfl) (by kernel_rfl) (by kernel_rfl) rfl (fun _ _ h_ => R.pkFE rfl rfl (by conv => lhs; whnf) (TL.nil h_)) ?_
                refine Plan.v 36 [37, 38, 39, 40, 41, 42] (by kernel_rfl) (by kernel_rfl) (by kernel_rfl) (by kernel_rfl) rfl (fun _ _ h_ => R.mvE rfl (by conv => lhs; whnf) (TL.nil h_)) ?_
                refine Plan.v 37 [38, 39, 40, 41, 42] (by kernel_rfl) (by kernel_rfl) (by kernel_rfl) (by kernel_rfl) rfl (fun _ _ h_ => TL.off rfl rfl rfl (TL.nil h_)) ?_
                refine Plan.v 38 [39, 40, 41, 42] (by kernel_rfl) (by kernel_rfl) (by kernel_rfl) (by kernel_rfl) rfl (fun _ _ h_ => TL.off rfl rfl rfl (TL.nil h_)) ?_
                refine Plan.v 39 [40, 41, 42] (by kernel_rfl) (by kernel_rfl) (by kernel_rfl) (by kernel_rfl) rfl (fun _ _ h_ => TL.off rfl rfl rfl (TL.nil h_)) ?_
                refine Plan.v 40 [41, 42] (by kernel_rfl) (by kernel_rfl) (by kernel_rfl) (by kernel_rfl) rfl (fun _ _ h_ => TL.off rfl rfl rfl (TL.nil h_)) ?_
                refine Plan.v 41 [42] (by kernel_rfl) (by kernel_rfl) (by kernel_rfl) (by kernel_rfl) rfl (fun _ _ h_ => R.pkFE rfl rfl (by conv => lhs; whnf) (TL.nil h_)) ?_
                refine Plan.v 42 [] (by kernel_rfl) (by kernel_rfl) (by kernel_rfl) (by kernel_rfl) rfl (fun _ _ h_ => R.asE rfl (by conv => lhs; whnf) (TL.nil h_)) ?_
                refine Plan.done (Post.thnN ?_)
                refine T.has Has.nil ?_
                refine T.ret ?_
                have hM : windroselaw14_wakes_m = false := by subst er62; subst e60; subst er53; subst er34; subst er28; subst er24; subst er18; subst er12; rw [windroselaw14_wakes_m, LR.seq_go, LR.seq_go, LR.seq_go, LR.seq_go, LR.seq_go, if_pos g39, if_pos g43, if_pos g47, if_pos g51, LR.seq_go, if_pos g57, LR.seq_go, if_neg g66]
                exact fin1L (v := .bool false) [] rfl rfl (List.Sublist.refl _) ⟨rfl, by first | rw [hM] | rfl⟩
          · refine Plan.v 21 [22, 23, 24, 25, 26, 27, 28, 29, 30, 31, 32, 33, 34, 35, 36, 37, 38, 39, 40, 41, 42] (by kernel_rfl) (by kernel_rfl) (by kernel_rfl) (by kernel_rfl) rfl (fun _ _ h_ => TL.off rfl rfl rfl (TL.nil h_)) ?_
            refine Plan.v 22 [23, 24, 25, 26, 27, 28, 29, 30, 31, 32, 33, 34, 35, 36, 37, 38, 39, 40, 41, 42] (by kernel_rfl) (by kernel_rfl) (by kernel_rfl) (by kernel_rfl) rfl (fun _ _ h_ => TL.off rfl rfl rfl (TL.nil h_)) ?_
            refine Plan.v 23 [24, 25, 26, 27, 28, 29, 30, 31, 32, 33, 34, 35, 36, 37, 38, 39, 40, 41, 42] (by kernel_rfl) (by kernel_rfl) (by kernel_rfl) (by kernel_rfl) rfl (fun _ _ h_ => TL.off rfl rfl rfl (TL.nil h_)) ?_
            refine Plan.v 24 [25, 26, 27, 28, 29, 30, 31, 32, 33, 34, 35, 36, 37, 38, 39, 40, 41, 42] (by kernel_rfl) (by kernel_rfl) (by kernel_rfl) (by kernel_rfl) rfl (fun _ _ h_ => TL.off rfl rfl rfl (TL.nil h_)) ?_
            refine Plan.v 25 [26, 27, 28, 29, 30, 31, 32, 33, 34, 35, 36, 37, 38, 39, 40, 41, 42] (by kernel_rfl) (by kernel_rfl) (by kernel_rfl) (by kernel_rfl) rfl (fun _ _ h_ => TL.off rfl rfl rfl (TL.nil h_)) ?_
            refine Plan.v 26 [27, 28, 29, 30, 31, 32, 33, 34, 35, 36, 37, 38, 39, 40, 41, 42] (by kernel_rfl) (by kernel_rfl) (by kernel_rfl) (by kernel_rfl) rfl (fun _ _ h_ => TL.off rfl rfl rfl (TL.nil h_)) ?_
            refine Plan.v 27 [28, 29, 30, 31, 32, 33, 34, 35, 36, 37, 38, 39, 40, 41, 42] (by kernel_rfl) (by kernel_rfl) (by kernel_rfl) (by kernel_rfl) rfl (fun _ _ h_ => TL.off rfl rfl rfl (TL.nil h_)) ?_
            refine Plan.v 28 [29, 30, 31, 32, 33, 34, 35, 36, 37, 38, 39, 40, 41, 42] (by kernel_rfl) (by kernel_rfl) (by kernel_rfl) (by kernel_rfl) rfl (fun _ _ h_ => R.pkFE rfl rfl (by conv => lhs; whnf) (TL.nil h_)) ?_
            refine Plan.v 29 [30, 31, 32, 33, 34, 35, 36, 37, 38, 39, 40, 41, 42] (by kernel_rfl) (by kernel_rfl) (by kernel_rfl) (by kernel_rfl) rfl (fun _ _ h_ => R.mvE rfl (by conv => lhs; whnf) (TL.nil h_)) ?_
            refine Plan.v 30 [31, 32, 33, 34, 35, 36, 37, 38, 39, 40, 41, 42] (by kernel_rfl) (by kernel_rfl) (by kernel_rfl) (by kernel_rfl) rfl (fun _ _ h_ => TL.off rfl rfl rfl (TL.nil h_)) ?_
            refine Plan.v 31 [32, 33, 34, 35, 36, 37, 38, 39, 40, 41, 42] (by kernel_rfl) (by kernel_rfl) (by kernel_rfl) (by kernel_rfl) rfl (fun _ _ h_ => TL.off rfl rfl rfl (TL.nil h_)) ?_
            refine Plan.v 32 [33, 34, 35, 36, 37, 38, 39, 40, 41, 42] (by kernel_rfl) (by kernel_rfl) (by kernel_rfl) (by kernel_rfl) rfl (fun _ _ h_ => TL.off rfl rfl rfl (TL.nil h_)) ?_
            refine Plan.v 33 [34, 35, 36, 37, 38, 39, 40, 41, 42] (by kernel_rfl) (by kernel_rfl) (by kernel_rfl) (by kernel_rfl) rfl (fun _ _ h_ => TL.off rfl rfl rfl (TL.nil h_)) ?_
            refine Plan.v 34 [35, 36, 37, 38, 39, 40, 41, 42] (by kernel_rfl) (by kernel_rfl) (by kernel_rfl) (by kernel_rfl) rfl (fun _ _ h_ => TL.off rfl rfl rfl (TL.nil h_)) ?_
            refine Plan.v 35 [36, 37, 38, 39, 40, 41, 42] (by kernel_rfl) (by kernel_rfl) (by kernel_rfl) (by kernel_rfl) rfl (fun _ _ h_ => R.pkFE rfl rfl (by conv => lhs; whnf) (TL.nil h_)) ?_
            refine Plan.v 36 [37, 38, 39, 40, 41, 42] (by kernel_rfl) (by kernel_rfl) (by kernel_rfl) (by kernel_rfl) rfl (fun _ _ h_ => R.mvE rfl (by conv => lhs; whnf) (TL.nil h_)) ?_
            refine Plan.v 37 [38, 39, 40, 41, 42] (by kernel_rfl) (by kernel_rfl) (by kernel_rfl) (by kernel_rfl) rfl (fun _ _ h_ => TL.off rfl rfl rfl (TL.nil h_)) ?_
            refine Plan.v 38 [39, 40, 41, 42] (by kernel_rfl) (by kernel_rfl) (by kernel_rfl) (by kernel_rfl) rfl (fun _ _ h_ => TL.off rfl rfl rfl (TL.nil h_)) ?_
            refine Plan.v 39 [40, 41, 42] (by kernel_rfl) (by kernel_rfl) (by kernel_rfl) (by kernel_rfl) rfl (fun _ _ h_ => TL.off rfl rfl rfl (TL.nil h_)) ?_
            refine Plan.v 40 [41, 42] (by kernel_rfl) (by kernel_rfl) (by kernel_rfl) (by kernel_rfl) rfl (fun _ _ h_ => TL.off rfl rfl rfl (TL.nil h_)) ?_
            refine Plan.v 41 [42] (by kernel_rfl) (by kernel_rfl) (by kernel_rfl) (by kernel_rfl) rfl (fun _ _ h_ => R.pkFE rfl rfl (by conv => lhs; whnf) (TL.nil h_)) ?_
            refine Plan.v 42 [] (by kernel_rfl) (by kernel_rfl) (by kernel_rfl) (by kernel_rfl) rfl (fun _ _ h_ => R.asE rfl (by conv => lhs; whnf) (TL.nil h_)) ?_
            refine Plan.done (Post.thnN ?_)
            refine T.has Has.nil ?_
            refine T.ret ?_
            have hM : windroselaw14_wakes_m = false := by subst er53; subst er34; subst er28; subst er24; subst er18; subst er12; rw [windroselaw14_wakes_m, LR.seq_go, LR.seq_go, LR.seq_go, LR.seq_go, LR.seq_go, if_pos g39, if_pos g43, if_pos g47, if_pos g51, LR.seq_go, if_neg g57]
            exact fin1L (v := .bool false) [] rfl rfl (List.Sublist.refl _) ⟨rfl, by first | rw [hM] | rfl⟩
        · refine Plan.v 15 [16, 17, 18, 19, 20, 21, 22, 23, 24, 25, 26, 27, 28, 29, 30, 31, 32, 33, 34, 35, 36, 37, 38, 39, 40, 41, 42] (by kernel_rfl) (by kernel_rfl) (by kernel_rfl) (by kernel_rfl) rfl (fun _ _ h_ => TL.off rfl rfl rfl (TL.nil h_)) ?_
          refine Plan.v 16 [17, 18, 19, 20, 21, 22, 23, 24, 25, 26, 27, 28, 29, 30, 31, 32, 33, 34, 35, 36, 37, 38, 39, 40, 41, 42] (by kernel_rfl) (by kernel_rfl) (by kernel_rfl) (by kernel_rfl) rfl (fun _ _ h_ => TL.off rfl rfl rfl (TL.nil h_)) ?_
          refine Plan.v 17 [18, 19, 20, 21, 22, 23, 24, 25, 26, 27, 28, 29, 30, 31, 32, 33, 34, 35, 36, 37, 38, 39, 40, 41, 42] (by kernel_rfl) (by kernel_rfl) (by kernel_rfl) (by kernel_rfl) rfl (fun _ _ h_ => TL.off rfl rfl rfl (TL.nil h_)) ?_
          refine Plan.v 18 [19, 20, 21, 22, 23, 24, 25, 26, 27, 28, 29, 30, 31, 32, 33, 34, 35, 36, 37, 38, 39, 40, 41, 42] (by kernel_rfl) (by kernel_rfl) (by kernel_rfl) (by kernel_rfl) rfl (fun _ _ h_ => TL.off rfl rfl rfl (TL.nil h_)) ?_
          refine Plan.v 19 [20, 21, 22, 23, 24, 25, 26, 27, 28, 29, 30, 31, 32, 33, 34, 35, 36, 37, 38, 39, 40, 41, 42] (by kernel_rfl) (by kernel_rfl) (by kernel_rfl) (by kernel_rfl) rfl (fun _ _ h_ => R.pkFE rfl rfl (by conv => lhs; whnf) (TL.nil h_)) ?_
          refine Plan.v 20 [21, 22, 23, 24, 25, 26, 27, 28, 29, 30, 31, 32, 33, 34, 35, 36, 37, 38, 39, 40, 41, 42] (by kernel_rfl) (by kernel_rfl) (by kernel_rfl) (by kernel_rfl) rfl (fun _ _ h_ => R.mvE rfl (by conv => lhs; whnf) (TL.nil h_)) ?_
          refine Plan.v 21 [22, 23, 24, 25, 26, 27, 28, 29, 30, 31, 32, 33, 34, 35, 36, 37, 38, 39, 40, 41, 42] (by kernel_rfl) (by kernel_rfl) (by kernel_rfl) (by kernel_rfl) rfl (fun _ _ h_ => TL.off rfl rfl rfl (TL.nil h_)) ?_
          refine Plan.v 22 [23, 24, 25, 26, 27, 28, 29, 30, 31, 32, 33, 34, 35, 36, 37, 38, 39, 40, 41, 42] (by kernel_rfl) (by kernel_rfl) (by kernel_rfl) (by kernel_rfl) rfl (fun _ _ h_ => TL.off rfl rfl rfl (TL.nil h_)) ?_
          refine Plan.v 23 [24, 25, 26, 27, 28, 29, 30, 31, 32, 33, 34, 35, 36, 37, 38, 39, 40, 41, 42] (by kernel_rfl) (by kernel_rfl) (by kernel_rfl) (by kernel_rfl) rfl (fun _ _ h_ => TL.off rfl rfl rfl (TL.nil h_)) ?_
          refine Plan.v 24 [25, 26, 27, 28, 29, 30, 31, 32, 33, 34, 35, 36, 37, 38, 39, 40, 41, 42] (by kernel_rfl) (by kernel_rfl) (by kernel_rfl) (by kernel_rfl) rfl (fun _ _ h_ => TL.off rfl rfl rfl (TL.nil h_)) ?_
          refine Plan.v 25 [26, 27, 28, 29, 30, 31, 32, 33, 34, 35, 36, 37, 38, 39, 40, 41, 42] (by kernel_rfl) (by kernel_rfl) (by kernel_rfl) (by kernel_rfl) rfl (fun _ _ h_ => TL.off rfl rfl rfl (TL.nil h_)) ?_
          refine Plan.v 26 [27, 28, 29, 30, 31, 32, 33, 34, 35, 36, 37, 38, 39, 40, 41, 42] (by kernel_rfl) (by kernel_rfl) (by kernel_rfl) (by kernel_rfl) rfl (fun _ _ h_ => TL.off rfl rfl rfl (TL.nil h_)) ?_
          refine Plan.v 27 [28, 29, 30, 31, 32, 33, 34, 35, 36, 37, 38, 39, 40, 41, 42] (by kernel_rfl) (by kernel_rfl) (by kernel_rfl) (by kernel_rfl) rfl (fun _ _ h_ => TL.off rfl rfl rfl (TL.nil h_)) ?_
          refine Plan.v 28 [29, 30, 31, 32, 33, 34, 35, 36, 37, 38, 39, 40, 41, 42] (by kernel_rfl) (by kernel_rfl) (by kernel_rfl) (by kernel_rfl) rfl (fun _ _ h_ => R.pkFE rfl rfl (by conv => lhs; whnf) (TL.nil h_)) ?_
          refine Plan.v 29 [30, 31, 32, 33, 34, 35, 36, 37, 38, 39, 40, 41, 42] (by kernel_rfl) (by kernel_rfl) (by kernel_rfl) (by kernel_rfl) rfl (fun _ _ h_ => R.mvE rfl (by conv => lhs; whnf) (TL.nil h_)) ?_
          refine Plan.v 30 [31, 32, 33, 34, 35, 36, 37, 38, 39, 40, 41, 42] (by kernel_rfl) (by kernel_rfl) (by kernel_rfl) (by kernel_rfl) rfl (fun _ _ h_ => TL.off rfl rfl rfl (TL.nil h_)) ?_
          refine Plan.v 31 [32, 33, 34, 35, 36, 37, 38, 39, 40, 41, 42] (by kernel_rfl) (by kernel_rfl) (by kernel_rfl) (by kernel_rfl) rfl (fun _ _ h_ => TL.off rfl rfl rfl (TL.nil h_)) ?_
          refine Plan.v 32 [33, 34, 35, 36, 37, 38, 39, 40, 41, 42] (by kernel_rfl) (by kernel_rfl) (by kernel_rfl) (by kernel_rfl) rfl (fun _ _ h_ => TL.off rfl rfl rfl (TL.nil h_)) ?_
          refine Plan.v 33 [34, 35, 36, 37, 38, 39, 40, 41, 42] (by kernel_rfl) (by kernel_rfl) (by kernel_rfl) (by kernel_rfl) rfl (fun _ _ h_ => TL.off rfl rfl rfl (TL.nil h_)) ?_
          refine Plan.v 34 [35, 36, 37, 38, 39, 40, 41, 42] (by kernel_rfl) (by kernel_rfl) (by kernel_rfl) (by kernel_rfl) rfl (fun _ _ h_ => TL.off rfl rfl rfl (TL.nil h_)) ?_
          refine Plan.v 35 [36, 37, 38, 39, 40, 41, 42] (by kernel_rfl) (by kernel_rfl) (by kernel_rfl) (by kernel_rfl) rfl (fun _ _ h_ => R.pkFE rfl rfl (by conv => lhs; whnf) (TL.nil h_)) ?_
          refine Plan.v 36 [37, 38, 39, 40, 41, 42] (by kernel_rfl) (by kernel_rfl) (by kernel_rfl) (by kernel_rfl) rfl (fun _ _ h_ => R.mvE rfl (by conv => lhs; whnf) (TL.nil h_)) ?_
          refine Plan.v 37 [38, 39, 40, 41, 42] (by kernel_rfl) (by kernel_rfl) (by kernel_rfl) (by kernel_rfl) rfl (fun _ _ h_ => TL.off rfl rfl rfl (TL.nil h_)) ?_
          refine Plan.v 38 [39, 40, 41, 42] (by kernel_rfl) (by kernel_rfl) (by kernel_rfl) (by kernel_rfl) rfl (fun _ _ h_ => TL.off rfl rfl rfl (TL.nil h_)) ?_
          refine Plan.v 39 [40, 41, 42] (by kernel_rfl) (by kernel_rfl) (by kernel_rfl) (by kernel_rfl) rfl (fun _ _ h_ => TL.off rfl rfl rfl (TL.nil h_)) ?_
          refine Plan.v 40 [41, 42] (by kernel_rfl) (by kernel_rfl) (by kernel_rfl) (by kernel_rfl) rfl (fun _ _ h_ => TL.off rfl rfl rfl (TL.nil h_)) ?_
          refine Plan.v 41 [42] (by kernel_rfl) (by kernel_rfl) (by kernel_rfl) (by kernel_rfl) rfl (fun _ _ h_ => R.pkFE rfl rfl (by conv => lhs; whnf) (TL.nil h_)) ?_
          refine Plan.v 42 [] (by kernel_rfl) (by kernel_rfl) (by kernel_rfl) (by kernel_rfl) rfl (fun _ _ h_ => R.asE rfl (by conv => lhs; whnf) (TL.nil h_)) ?_
          refine Plan.done (Post.thnN ?_)
          refine T.has Has.nil ?_
          refine T.ret ?_
          have hM : windroselaw14_wakes_m = false := by subst er34; subst er28; subst er24; subst er18; subst er12; rw [windroselaw14_wakes_m, LR.seq_go, LR.seq_go, LR.seq_go, LR.seq_go, LR.seq_go, if_pos g39, if_pos g43, if_pos g47, if_neg g51]
          exact fin1L (v := .bool false) [] rfl rfl (List.Sublist.refl _) ⟨rfl, by first | rw [hM] | rfl⟩
      · refine Plan.v 11 [12, 13, 14, 15, 16, 17, 18, 19, 20, 21, 22, 23, 24, 25, 26, 27, 28, 29, 30, 31, 32, 33, 34, 35, 36, 37, 38, 39, 40, 41, 42] (by kernel_rfl) (by kernel_rfl) (by kernel_rfl) (by kernel_rfl) rfl (fun _ _ h_ => TL.off rfl rfl rfl (TL.nil h_)) ?_
        refine Plan.v 12 [13, 14, 15, 16, 17, 18, 19, 20, 21, 22, 23, 24, 25, 26, 27, 28, 29, 30, 31, 32, 33, 34, 35, 36, 37, 38, 39, 40, 41, 42] (by kernel_rfl) (by kernel_rfl) (by kernel_rfl) (by kernel_rfl) rfl (fun _ _ h_ => TL.off rfl rfl rfl (TL.nil h_)) ?_
        refine Plan.v 13 [14, 15, 16, 17, 18, 19, 20, 21, 22, 23, 24, 25, 26, 27, 28, 29, 30, 31, 32, 33, 34, 35, 36, 37, 38, 39, 40, 41, 42] (by kernel_rfl) (by kernel_rfl) (by kernel_rfl) (by kernel_rfl) rfl (fun _ _ h_ => R.pkFE rfl rfl (by conv => lhs; whnf) (TL.nil h_)) ?_
        refine Plan.v 14 [15, 16, 17, 18, 19, 20, 21, 22, 23, 24, 25, 26, 27, 28, 29, 30, 31, 32, 33, 34, 35, 36, 37, 38, 39, 40, 41, 42] (by kernel_rfl) (by kernel_rfl) (by kernel_rfl) (by kernel_rfl) rfl (fun _ _ h_ => R.mvE rfl (by conv => lhs; whnf) (TL.nil h_)) ?_
        refine Plan.v 15 [16, 17, 18, 19, 20, 21, 22, 23, 24, 25, 26, 27, 28, 29, 30, 31, 32, 33, 34, 35, 36, 37, 38, 39, 40, 41, 42] (by kernel_rfl) (by kernel_rfl) (by kernel_rfl) (by kernel_rfl) rfl (fun _ _ h_ => TL.off rfl rfl rfl (TL.nil h_)) ?_
        refine Plan.v 16 [17, 18, 19, 20, 21, 22, 23, 24, 25, 26, 27, 28, 29, 30, 31, 32, 33, 34, 35, 36, 37, 38, 39, 40, 41, 42] (by kernel_rfl) (by kernel_rfl) (by kernel_rfl) (by kernel_rfl) rfl (fun _ _ h_ => TL.off rfl rfl rfl (TL.nil h_)) ?_
        refine Plan.v 17 [18, 19, 20, 21, 22, 23, 24, 25, 26, 27, 28, 29, 30, 31, 32, 33, 34, 35, 36, 37, 38, 39, 40, 41, 42] (by kernel_rfl) (by kernel_rfl) (by kernel_rfl) (by kernel_rfl) rfl (fun _ _ h_ => TL.off rfl rfl rfl (TL.nil h_)) ?_
        refine Plan.v 18 [19, 20, 21, 22, 23, 24, 25, 26, 27, 28, 29, 30, 31, 32, 33, 34, 35, 36, 37, 38, 39, 40, 41, 42] (by kernel_rfl) (by kernel_rfl) (by kernel_rfl) (by kernel_rfl) rfl (fun _ _ h_ => TL.off rfl rfl rfl (TL.nil h_)) ?_
        refine Plan.v 19 [20, 21, 22, 23, 24, 25, 26, 27, 28, 29, 30, 31, 32, 33, 34, 35, 36, 37, 38, 39, 40, 41, 42] (by kernel_rfl) (by kernel_rfl) (by kernel_rfl) (by kernel_rfl) rfl (fun _ _ h_ => R.pkFE rfl rfl (by conv => lhs; whnf) (TL.nil h_)) ?_
        refine Plan.v 20 [21, 22, 23, 24, 25, 26, 27, 28, 29, 30, 31, 32, 33, 34, 35, 36, 37, 38, 39, 40, 41, 42] (by kernel_rfl) (by kernel_rfl) (by kernel_rfl) (by kernel_rfl) rfl (fun _ _ h_ => R.mvE rfl (by conv => lhs; whnf) (TL.nil h_)) ?_
        refine Plan.v 21 [22, 23, 24, 25, 26, 27, 28, 29, 30, 31, 32, 33, 34, 35, 36, 37, 38, 39, 40, 41, 42] (by kernel_rfl) (by kernel_rfl) (by kernel_rfl) (by kernel_rfl) rfl (fun _ _ h_ => TL.off rfl rfl rfl (TL.nil h_)) ?_
        refine Plan.v 22 [23, 24, 25, 26, 27, 28, 29, 30, 31, 32, 33, 34, 35, 36, 37, 38, 39, 40, 41, 42] (by kernel_rfl) (by kernel_rfl) (by kernel_rfl) (by kernel_rfl) rfl (fun _ _ h_ => TL.off rfl rfl rfl (TL.nil h_)) ?_
        refine Plan.v 23 [24, 25, 26, 27, 28, 29, 30, 31, 32, 33, 34, 35, 36, 37, 38, 39, 40, 41, 42] (by kernel_rfl) (by kernel_rfl) (by kernel_rfl) (by kernel_rfl) rfl (fun _ _ h_ => TL.off rfl rfl rfl (TL.nil h_)) ?_
        refine Plan.v 24 [25, 26, 27, 28, 29, 30, 31, 32, 33, 34, 35, 36, 37, 38, 39, 40, 41, 42] (by kernel_rfl) (by kernel_rfl) (by kernel_rfl) (by kernel_rfl) rfl (fun _ _ h_ => TL.off rfl rfl rfl (TL.nil h_)) ?_
        refine Plan.v 25 [26, 27, 28, 29, 30, 31, 32, 33, 34, 35, 36, 37, 38, 39, 40, 41, 42] (by kernel_rfl) (by kernel_rfl) (by kernel_rfl) (by kernel_rfl) rfl (fun _ _ h_ => TL.off rfl rfl rfl (TL.nil h_)) ?_
        refine Plan.v 26 [27, 28, 29, 30, 31, 32, 33, 34, 35, 36, 37, 38, 39, 40, 41, 42] (by kernel_rfl) (by kernel_rfl) (by kernel_rfl) (by kernel_rfl) rfl (fun _ _ h_ => TL.off rfl rfl rfl (TL.nil h_)) ?_
        refine Plan.v 27 [28, 29, 30, 31, 32, 33, 34, 35, 36, 37, 38, 39, 40, 41, 42] (by kernel_rfl) (by kernel_rfl) (by kernel_rfl) (by kernel_rfl) rfl (fun _ _ h_ => TL.off rfl rfl rfl (TL.nil h_)) ?_
        refine Plan.v 28 [29, 30, 31, 32, 33, 34, 35, 36, 37, 38, 39, 40, 41, 42] (by kernel_rfl) (by kernel_rfl) (by kernel_rfl) (by kernel_rfl) rfl (fun _ _ h_ => R.pkFE rfl rfl (by conv => lhs; whnf) (TL.nil h_)) ?_
        refine Plan.v 29 [30, 31, 32, 33, 34, 35, 36, 37, 38, 39, 40, 41, 42] (by kernel_rfl) (by kernel_rfl) (by kernel_rfl) (by kernel_rfl) rfl (fun _ _ h_ => R.mvE rfl (by conv => lhs; whnf) (TL.nil h_)) ?_
        refine Plan.v 30 [31, 32, 33, 34, 35, 36, 37, 38, 39, 40, 41, 42] (by kernel_rfl) (by kernel_rfl) (by kernel_rfl) (by kernel_rfl) rfl (fun _ _ h_ => TL.off rfl rfl rfl (TL.nil h_)) ?_
        refine Plan.v 31 [32, 33, 34, 35, 36, 37, 38, 39, 40, 41, 42] (by kernel_rfl) (by kernel_rfl) (by kernel_rfl) (by kernel_rfl) rfl (fun _ _ h_ => TL.off rfl rfl rfl (TL.nil h_)) ?_
        refine Plan.v 32 [33, 34, 35, 36, 37, 38, 39, 40, 41, 42] (by kernel_rfl) (by kernel_rfl) (by kernel_rfl) (by kernel_rfl) rfl (fun _ _ h_ => TL.off rfl rfl rfl (TL.nil h_)) ?_
        refine Plan.v 33 [34, 35, 36, 37, 38, 39, 40, 41, 42] (by kernel_rfl) (by kernel_rfl) (by kernel_rfl) (by kernel_rfl) rfl (fun _ _ h_ => TL.off rfl rfl rfl (TL.nil h_)) ?_
        refine Plan.v 34 [35, 36, 37, 38, 39, 40, 41, 42] (by kernel_rfl) (by kernel_rfl) (by kernel_rfl) (by kernel_rfl) rfl (fun _ _ h_ => TL.off rfl rfl rfl (TL.nil h_)) ?_
        refine Plan.v 35 [36, 37, 38, 39, 40, 41, 42] (by kernel_rfl) (by kernel_rfl) (by kernel_rfl) (by kernel_rfl) rfl (fun _ _ h_ => R.pkFE rfl rfl (by conv => lhs; whnf) (TL.nil h_)) ?_
        refine Plan.v 36 [37, 38, 39, 40, 41, 42] (by kernel_rfl) (by kernel_rfl) (by kernel_rfl) (by kernel_rfl) rfl (fun _ _ h_ => R.mvE rfl (by conv => lhs; whnf) (TL.nil h_)) ?_
        refine Plan.v 37 [38, 39, 40, 41, 42] (by kernel_rfl) (by kernel_rfl) (by kernel_rfl) (by kernel_rfl) rfl (fun _ _ h_ => TL.off rfl rfl rfl (TL.nil h_)) ?_
        refine Plan.v 38 [39, 40, 41, 42] (by kernel_rfl) (by kernel_rfl) (by kernel_rfl) (by kernel_rfl) rfl (fun _ _ h_ => TL.off rfl rfl rfl (TL.nil h_)) ?_
        refine Plan.v 39 [40, 41, 42] (by kernel_rfl) (by kernel_rfl) (by kernel_rfl) (by kernel_rfl) rfl (fun _ _ h_ => TL.off rfl rfl rfl (TL.nil h_)) ?_
        refine Plan.v 40 [41, 42] (by kernel_rfl) (by kernel_rfl) (by kernel_rfl) (by kernel_rfl) rfl (fun _ _ h_ => TL.off rfl rfl rfl (TL.nil h_)) ?_
        refine Plan.v 41 [42] (by kernel_rfl) (by kernel_rfl) (by kernel_rfl) (by kernel_rfl) rfl (fun _ _ h_ => R.pkFE rfl rfl (by conv => lhs; whnf) (TL.nil h_)) ?_
        refine Plan.v 42 [] (by kernel_rfl) (by kernel_rfl) (by kernel_rfl) (by kernel_rfl) rfl (fun _ _ h_ => R.asE rfl (by conv => lhs; whnf) (TL.nil h_)) ?_
        refine Plan.done (Post.thnN ?_)
        refine T.has Has.nil ?_
        refine T.ret ?_
        have hM : windroselaw14_wakes_m = false := by subst er34; subst er28; subst er24; subst er18; subst er12; rw [windroselaw14_wakes_m, LR.seq_go, LR.seq_go, LR.seq_go, LR.seq_go, LR.seq_go, if_pos g39, if_pos g43, if_neg g47]
        exact fin1L (v := .bool false) [] rfl rfl (List.Sublist.refl _) ⟨rfl, by first | rw [hM] | rfl⟩
    · refine Plan.v 7 [8, 9, 10, 11, 12, 13, 14, 15, 16, 17, 18, 19, 20, 21, 22, 23, 24, 25, 26, 27, 28, 29, 30, 31, 32, 33, 34, 35, 36, 37, 38, 39, 40, 41, 42] (by kernel_rfl) (by kernel_rfl) (by kernel_rfl) (by kernel_rfl) rfl (fun _ _ h_ => TL.off rfl rfl rfl (TL.nil h_)) ?_
      refine Plan.v 8 [9, 10, 11, 12, 13, 14, 15, 16, 17, 18, 19, 20, 21, 22, 23, 24, 25, 26, 27, 28, 29, 30, 31, 32, 33, 34, 35, 36, 37, 38, 39, 40, 41, 42] (by kernel_rfl) (by kernel_rfl) (by kernel_rfl) (by kernel_rfl) rfl (fun _ _ h_ => TL.off rfl rfl rfl (TL.nil h_)) ?_
      refine Plan.v 9 [10, 11, 12, 13, 14, 15, 16, 17, 18, 19, 20, 21, 22, 23, 24, 25, 26, 27, 28, 29, 30, 31, 32, 33, 34, 35, 36, 37, 38, 39, 40, 41, 42] (by kernel_rfl) (by kernel_rfl) (by kernel_rfl) (by kernel_rfl) rfl (fun _ _ h_ => R.pkFE rfl rfl (by conv => lhs; whnf) (TL.nil h_)) ?_
      refine Plan.v 10 [11, 12, 13, 14, 15, 16, 17, 18, 19, 20, 21, 22, 23, 24, 25, 26, 27, 28, 29, 30, 31, 32, 33, 34, 35, 36, 37, 38, 39, 40, 41, 42] (by kernel_rfl) (by kernel_rfl) (by kernel_rfl) (by kernel_rfl) rfl (fun _ _ h_ => R.mvE rfl (by conv => lhs; whnf) (TL.nil h_)) ?_
      refine Plan.v 11 [12, 13, 14, 15, 16, 17, 18, 19, 20, 21, 22, 23, 24, 25, 26, 27, 28, 29, 30, 31, 32, 33, 34, 35, 36, 37, 38, 39, 40, 41, 42] (by kernel_rfl) (by kernel_rfl) (by kernel_rfl) (by kernel_rfl) rfl (fun _ _ h_ => TL.off rfl rfl rfl (TL.nil h_)) ?_
      refine Plan.v 12 [13, 14, 15, 16, 17, 18, 19, 20, 21, 22, 23, 24, 25, 26, 27, 28, 29, 30, 31, 32, 33, 34, 35, 36, 37, 38, 39, 40, 41, 42] (by kernel_rfl) (by kernel_rfl) (by kernel_rfl) (by kernel_rfl) rfl (fun _ _ h_ => TL.off rfl rfl rfl (TL.nil h_)) ?_
      refine Plan.v 13 [14, 15, 16, 17, 18, 19, 20, 21, 22, 23, 24, 25, 26, 27, 28, 29, 30, 31, 32, 33, 34, 35, 36, 37, 38, 39, 40, 41, 42] (by kernel_rfl) (by kernel_rfl) (by kernel_rfl) (by kernel_rfl) rfl (fun _ _ h_ => R.pkFE rfl rfl (by conv => lhs; whnf) (TL.nil h_)) ?_
      refine Plan.v 14 [15, 16, 17, 18, 19, 20, 21, 22, 23, 24, 25, 26, 27, 28, 29, 30, 31, 32, 33, 34, 35, 36, 37, 38, 39, 40, 41, 42] (by kernel_rfl) (by kernel_rfl) (by kernel_rfl) (by kernel_rfl) rfl (fun _ _ h_ => R.mvE rfl (by conv => lhs; whnf) (TL.nil h_)) ?_
      refine Plan.v 15 [16, 17, 18, 19, 20, 21, 22, 23, 24, 25, 26, 27, 28, 29, 30, 31, 32, 33, 34, 35, 36, 37, 38, 39, 40, 41, 42] (by kernel_rfl) (by kernel_rfl) (by kernel_rfl) (by kernel_rfl) rfl (fun _ _ h_ => TL.off rfl rfl rfl (TL.nil h_)) ?_
      refine Plan.v 16 [17, 18, 19, 20, 21, 22, 23, 24, 25, 26, 27, 28, 29, 30, 31, 32, 33, 34, 35, 36, 37, 38, 39, 40, 41, 42] (by kernel_rfl) (by kernel_rfl) (by kernel_rfl) (by kernel_rfl) rfl (fun _ _ h_ => TL.off rfl rfl rfl (TL.nil h_)) ?_
      refine Plan.v 17 [18, 19, 20, 21, 22, 23, 24, 25, 26, 27, 28, 29, 30, 31, 32, 33, 34, 35, 36, 37, 38, 39, 40, 41, 42] (by kernel_rfl) (by kernel_rfl) (by kernel_rfl) (by kernel_rfl) rfl (fun _ _ h_ => TL.off rfl rfl rfl (TL.nil h_)) ?_
      refine Plan.v 18 [19, 20, 21, 22, 23, 24, 25, 26, 27, 28, 29, 30, 31, 32, 33, 34, 35, 36, 37, 38, 39, 40, 41, 42] (by kernel_rfl) (by kernel_rfl) (by kernel_rfl) (by kernel_rfl) rfl (fun _ _ h_ => TL.off rfl rfl rfl (TL.nil h_)) ?_
      refine Plan.v 19 [20, 21, 22, 23, 24, 25, 26, 27, 28, 29, 30, 31, 32, 33, 34, 35, 36, 37, 38, 39, 40, 41, 42] (by kernel_rfl) (by kernel_rfl) (by kernel_rfl) (by kernel_rfl) rfl (fun _ _ h_ => R.pkFE rfl rfl (by conv => lhs; whnf) (TL.nil h_)) ?_
      refine Plan.v 20 [21, 22, 23, 24, 25, 26, 27, 28, 29, 30, 31, 32, 33, 34, 35, 36, 37, 38, 39, 40, 41, 42] (by kernel_rfl) (by kernel_rfl) (by kernel_rfl) (by kernel_rfl) rfl (fun _ _ h_ => R.mvE rfl (by conv => lhs; whnf) (TL.nil h_)) ?_
      refine Plan.v 21 [22, 23, 24, 25, 26, 27, 28, 29, 30, 31, 32, 33, 34, 35, 36, 37, 38, 39, 40, 41, 42] (by kernel_rfl) (by kernel_rfl) (by kernel_rfl) (by kernel_rfl) rfl (fun _ _ h_ => TL.off rfl rfl rfl (TL.nil h_)) ?_
      refine Plan.v 22 [23, 24, 25, 26, 27, 28, 29, 30, 31, 32, 33, 34, 35, 36, 37, 38, 39, 40, 41, 42] (by kernel_rfl) (by kernel_rfl) (by kernel_rfl) (by kernel_rfl) rfl (fun _ _ h_ => TL.off rfl rfl rfl (TL.nil h_)) ?_
      refine Plan.v 23 [24, 25, 26, 27, 28, 29, 30, 31, 32, 33, 34, 35, 36, 37, 38, 39, 40, 41, 42] (by kernel_rfl) (by kernel_rfl) (by kernel_rfl) (by kernel_rfl) rfl (fun _ _ h_ => TL.off rfl rfl rfl (TL.nil h_)) ?_
      refine Plan.v 24 [25, 26, 27, 28, 29, 30, 31, 32, 33, 34, 35, 36, 37, 38, 39, 40, 41, 42] (by kernel_rfl) (by kernel_rfl) (by kernel_rfl) (by kernel_rfl) rfl (fun _ _ h_ => TL.off rfl rfl rfl (TL.nil h_)) ?_
      refine Plan.v 25 [26, 27, 28, 29, 30, 31, 32, 33, 34, 35, 36, 37, 38, 39, 40, 41, 42] (by kernel_rfl) (by kernel_rfl) (by kernel_rfl) (by kernel_rfl) rfl (fun _ _ h_ => TL.off rfl rfl rfl (TL.nil h_)) ?_
      refine Plan.v 26 [27, 28, 29, 30, 31, 32, 33, 34, 35, 36, 37, 38, 39, 40, 41, 42] (by kernel_rfl) (by kernel_rfl) (by kernel_rfl) (by kernel_rfl) rfl (fun _ _ h_ => TL.off rfl rfl rfl (TL.nil h_)) ?_
      refine Plan.v 27 [28, 29, 30, 31, 32, 33, 34, 35, 36, 37, 38, 39, 40, 41, 42] (by kernel_rfl) (by kernel_rfl) (by kernel_rfl) (by kernel_rfl) rfl (fun _ _ h_ => TL.off rfl rfl rfl (TL.nil h_)) ?_
      refine Plan.v 28 [29, 30, 31, 32, 33, 34, 35, 36, 37, 38, 39, 40, 41, 42] (by kernel_rfl) (by kernel_rfl) (by kernel_rfl) (by kernel_rfl) rfl (fun _ _ h_ => R.pkFE rfl rfl (by conv => lhs; whnf) (TL.nil h_)) ?_
      refine Plan.v 29 [30, 31, 32, 33, 34, 35, 36, 37, 38, 39, 40, 41, 42] (by kernel_rfl) (by kernel_rfl) (by kernel_rfl) (by kernel_rfl) rfl (fun _ _ h_ => R.mvE rfl (by conv => lhs; whnf) (TL.nil h_)) ?_
      refine Plan.v 30 [31, 32, 33, 34, 35, 36, 37, 38, 39, 40, 41, 42] (by kernel_rfl) (by kernel_rfl) (by kernel_rfl) (by kernel_rfl) rfl (fun _ _ h_ => TL.off rfl rfl rfl (TL.nil h_)) ?_
      refine Plan.v 31 [32, 33, 34, 35, 36, 37, 38, 39, 40, 41, 42] (by kernel_rfl) (by kernel_rfl) (by kernel_rfl) (by kernel_rfl) rfl (fun _ _ h_ => TL.off rfl rfl rfl (TL.nil h_)) ?_
      refine Plan.v 32 [33, 34, 35, 36, 37, 38, 39, 40, 41, 42] (by kernel_rfl) (by kernel_rfl) (by kernel_rfl) (by kernel_rfl) rfl (fun _ _ h_ => TL.off rfl rfl rfl (TL.nil h_)) ?_
      refine Plan.v 33 [34, 35, 36, 37, 38, 39, 40, 41, 42] (by kernel_rfl) (by kernel_rfl) (by kernel_rfl) (by kernel_rfl) rfl (fun _ _ h_ => TL.off rfl rfl rfl (TL.nil h_)) ?_
      refine Plan.v 34 [35, 36, 37, 38, 39, 40, 41, 42] (by kernel_rfl) (by kernel_rfl) (by kernel_rfl) (by kernel_rfl) rfl (fun _ _ h_ => TL.off rfl rfl rfl (TL.nil h_)) ?_
      refine Plan.v 35 [36, 37, 38, 39, 40, 41, 42] (by kernel_rfl) (by kernel_rfl) (by kernel_rfl) (by kernel_rfl) rfl (fun _ _ h_ => R.pkFE rfl rfl (by conv => lhs; whnf) (TL.nil h_)) ?_
      refine Plan.v 36 [37, 38, 39, 40, 41, 42] (by kernel_rfl) (by kernel_rfl) (by kernel_rfl) (by kernel_rfl) rfl (fun _ _ h_ => R.mvE rfl (by conv => lhs; whnf) (TL.nil h_)) ?_
      refine Plan.v 37 [38, 39, 40, 41, 42] (by kernel_rfl) (by kernel_rfl) (by kernel_rfl) (by kernel_rfl) rfl (fun _ _ h_ => TL.off rfl rfl rfl (TL.nil h_)) ?_
      refine Plan.v 38 [39, 40, 41, 42] (by kernel_rfl) (by kernel_rfl) (by kernel_rfl) (by kernel_rfl) rfl (fun _ _ h_ => TL.off rfl rfl rfl (TL.nil h_)) ?_
      refine Plan.v 39 [40, 41, 42] (by kernel_rfl) (by kernel_rfl) (by kernel_rfl) (by kernel_rfl) rfl (fun _ _ h_ => TL.off rfl rfl rfl (TL.nil h_)) ?_
      refine Plan.v 40 [41, 42] (by kernel_rfl) (by kernel_rfl) (by kernel_rfl) (by kernel_rfl) rfl (fun _ _ h_ => TL.off rfl rfl rfl (TL.nil h_)) ?_
      refine Plan.v 41 [42] (by kernel_rfl) (by kernel_rfl) (by kernel_rfl) (by kernel_rfl) rfl (fun _ _ h_ => R.pkFE rfl rfl (by conv => lhs; whnf) (TL.nil h_)) ?_
      refine Plan.v 42 [] (by kernel_rfl) (by kernel_rfl) (by kernel_rfl) (by kernel_rfl) rfl (fun _ _ h_ => R.asE rfl (by conv => lhs; whnf) (TL.nil h_)) ?_
      refine Plan.done (Post.thnN ?_)
      refine T.has Has.nil ?_
      refine T.ret ?_
      have hM : windroselaw14_wakes_m = false := by subst er34; subst er28; subst er24; subst er18; subst er12; rw [windroselaw14_wakes_m, LR.seq_go, LR.seq_go, LR.seq_go, LR.seq_go, LR.seq_go, if_pos g39, if_neg g43]
      exact fin1L (v := .bool false) [] rfl rfl (List.Sublist.refl _) ⟨rfl, by first | rw [hM] | rfl⟩
  · refine Plan.v 3 [4, 5, 6, 7, 8, 9, 10, 11, 12, 13, 14, 15, 16, 17, 18, 19, 20, 21, 22, 23, 24, 25, 26, 27, 28, 29, 30, 31, 32, 33, 34, 35, 36, 37, 38, 39, 40, 41, 42] (by kernel_rfl) (by kernel_rfl) (by kernel_rfl) (by kernel_rfl) rfl (fun _ _ h_ => TL.off rfl rfl rfl (TL.nil h_)) ?_
    refine Plan.v 4 [5, 6, 7, 8, 9, 10, 11, 12, 13, 14, 15, 16, 17, 18, 19, 20, 21, 22, 23, 24, 25, 26, 27, 28, 29, 30, 31, 32, 33, 34, 35, 36, 37, 38, 39, 40, 41, 42] (by kernel_rfl) (by kernel_rfl) (by kernel_rfl) (by kernel_rfl) rfl (fun _ _ h_ => TL.off rfl rfl rfl (TL.nil h_)) ?_
    refine Plan.v 5 [6, 7, 8, 9, 10, 11, 12, 13, 14, 15, 16, 17, 18, 19, 20, 21, 22, 23, 24, 25, 26, 27, 28, 29, 30, 31, 32, 33, 34, 35, 36, 37, 38, 39, 40, 41, 42] (by kernel_rfl) (by kernel_rfl) (by kernel_rfl) (by kernel_rfl) rfl (fun _ _ h_ => R.pkFE rfl rfl (by conv => lhs; whnf) (TL.nil h_)) ?_
    refine Plan.v 6 [7, 8, 9, 10, 11, 12, 13, 14, 15, 16, 17, 18, 19, 20, 21, 22, 23, 24, 25, 26, 27, 28, 29, 30, 31, 32, 33, 34, 35, 36, 37, 38, 39, 40, 41, 42] (by kernel_rfl) (by kernel_rfl) (by kernel_rfl) (by kernel_rfl) rfl (fun _ _ h_ => R.mvE rfl (by conv => lhs; whnf) (TL.nil h_)) ?_
    refine Plan.v 7 [8, 9, 10, 11, 12, 13, 14, 15, 16, 17, 18, 19, 20, 21, 22, 23, 24, 25, 26, 27, 28, 29, 30, 31, 32, 33, 34, 35, 36, 37, 38, 39, 40, 41, 42] (by kernel_rfl) (by kernel_rfl) (by kernel_rfl) (by kernel_rfl) rfl (fun _ _ h_ => TL.off rfl rfl rfl (TL.nil h_)) ?_
    refine Plan.v 8 [9, 10, 11, 12, 13, 14, 15, 16, 17, 18, 19, 20, 21, 22, 23, 24, 25, 26, 27, 28, 29, 30, 31, 32, 33, 34, 35, 36, 37, 38, 39, 40, 41, 42] (by kernel_rfl) (by kernel_rfl) (by kernel_rfl) (by kernel_rfl) rfl (fun _ _ h_ => TL.off rfl rfl rfl (TL.nil h_)) ?_
    refine Plan.v 9 [10, 11, 12, 13, 14, 15, 16, 17, 18, 19, 20, 21, 22, 23, 24, 25, 26, 27, 28, 29, 30, 31, 32, 33, 34, 35, 36, 37, 38, 39, 40, 41, 42] (by kernel_rfl) (by kernel_rfl) (by kernel_rfl) (by kernel_rfl) rfl (fun _ _ h_ => R.pkFE rfl rfl (by conv => lhs; whnf) (TL.nil h_)) ?_
    refine Plan.v 10 [11, 12, 13, 14, 15, 16, 17, 18, 19, 20, 21, 22, 23, 24, 25, 26, 27, 28, 29, 30, 31, 32, 33, 34, 35, 36, 37, 38, 39, 40, 41, 42] (by kernel_rfl) (by kernel_rfl) (by kernel_rfl) (by kernel_rfl) rfl (fun _ _ h_ => R.mvE rfl (by conv => lhs; whnf) (TL.nil h_)) ?_
    refine Plan.v 11 [12, 13, 14, 15, 16, 17, 18, 19, 20, 21, 22, 23, 24, 25, 26, 27, 28, 29, 30, 31, 32, 33, 34, 35, 36, 37, 38, 39, 40, 41, 42] (by kernel_rfl) (by kernel_rfl) (by kernel_rfl) (by kernel_rfl) rfl (fun _ _ h_ => TL.off rfl rfl rfl (TL.nil h_)) ?_
    refine Plan.v 12 [13, 14, 15, 16, 17, 18, 19, 20, 21, 22, 23, 24, 25, 26, 27, 28, 29, 30, 31, 32, 33, 34, 35, 36, 37, 38, 39, 40, 41, 42] (by kernel_rfl) (by kernel_rfl) (by kernel_rfl) (by kernel_rfl) rfl (fun _ _ h_ => TL.off rfl rfl rfl (TL.nil h_)) ?_
    refine Plan.v 13 [14, 15, 16, 17, 18, 19, 20, 21, 22, 23, 24, 25, 26, 27, 28, 29, 30, 31, 32, 33, 34, 35, 36, 37, 38, 39, 40, 41, 42] (by kernel_rfl) (by kernel_rfl) (by kernel_rfl) (by kernel_rfl) rfl (fun _ _ h_ => R.pkFE rfl rfl (by conv => lhs; whnf) (TL.nil h_)) ?_
    refine Plan.v 14 [15, 16, 17, 18, 19, 20, 21, 22, 23, 24, 25, 26, 27, 28, 29, 30, 31, 32, 33, 34, 35, 36, 37, 38, 39, 40, 41, 42] (by kernel_rfl) (by kernel_rfl) (by kernel_rfl) (by kernel_rfl) rfl (fun _ _ h_ => R.mvE rfl (by conv => lhs; whnf) (TL.nil h_)) ?_
    refine Plan.v 15 [16, 17, 18, 19, 20, 21, 22, 23, 24, 25, 26, 27, 28, 29, 30, 31, 32, 33, 34, 35, 36, 37, 38, 39, 40, 41, 42] (by kernel_rfl) (by kernel_rfl) (by kernel_rfl) (by kernel_rfl) rfl (fun _ _ h_ => TL.off rfl rfl rfl (TL.nil h_)) ?_
    refine Plan.v 16 [17, 18, 19, 20, 21, 22, 23, 24, 25, 26, 27, 28, 29, 30, 31, 32, 33, 34, 35, 36, 37, 38, 39, 40, 41, 42] (by kernel_rfl) (by kernel_rfl) (by kernel_rfl) (by kernel_rfl) rfl (fun _ _ h_ => TL.off rfl rfl rfl (TL.nil h_)) ?_
    refine Plan.v 17 [18, 19, 20, 21, 22, 23, 24, 25, 26, 27, 28, 29, 30, 31, 32, 33, 34, 35, 36, 37, 38, 39, 40, 41, 42] (by kernel_rfl) (by kernel_rfl) (by kernel_rfl) (by kernel_rfl) rfl (fun _ _ h_ => TL.off rfl rfl rfl (TL.nil h_)) ?_
    refine Plan.v 18 [19, 20, 21, 22, 23, 24, 25, 26, 27, 28, 29, 30, 31, 32, 33, 34, 35, 36, 37, 38, 39, 40, 41, 42] (by kernel_rfl) (by kernel_rfl) (by kernel_rfl) (by kernel_rfl) rfl (fun _ _ h_ => TL.off rfl rfl rfl (TL.nil h_)) ?_
    refine Plan.v 19 [20, 21, 22, 23, 24, 25, 26, 27, 28, 29, 30, 31, 32, 33, 34, 35, 36, 37, 38, 39, 40, 41, 42] (by kernel_rfl) (by kernel_rfl) (by kernel_rfl) (by kernel_rfl) rfl (fun _ _ h_ => R.pkFE rfl rfl (by conv => lhs; whnf) (TL.nil h_)) ?_
    refine Plan.v 20 [21, 22, 23, 24, 25, 26, 27, 28, 29, 30, 31, 32, 33, 34, 35, 36, 37, 38, 39, 40, 41, 42] (by kernel_rfl) (by kernel_rfl) (by kernel_rfl) (by kernel_rfl) rfl (fun _ _ h_ => R.mvE rfl (by conv => lhs; whnf) (TL.nil h_)) ?_
    refine Plan.v 21 [22, 23, 24, 25, 26, 27, 28, 29, 30, 31, 32, 33, 34, 35, 36, 37, 38, 39, 40, 41, 42] (by kernel_rfl) (by kernel_rfl) (by kernel_rfl) (by kernel_rfl) rfl (fun _ _ h_ => TL.off rfl rfl rfl (TL.nil h_)) ?_
    refine Plan.v 22 [23, 24, 25, 26, 27, 28, 29, 30, 31, 32, 33, 34, 35, 36, 37, 38, 39, 40, 41, 42] (by kernel_rfl) (by kernel_rfl) (by kernel_rfl) (by kernel_rfl) rfl (fun _ _ h_ => TL.off rfl rfl rfl (TL.nil h_)) ?_
    refine Plan.v 23 [24, 25, 26, 27, 28, 29, 30, 31, 32, 33, 34, 35, 36, 37, 38, 39, 40, 41, 42] (by kernel_rfl) (by kernel_rfl) (by kernel_rfl) (by kernel_rfl) rfl (fun _ _ h_ => TL.off rfl rfl rfl (TL.nil h_)) ?_
    refine Plan.v 24 [25, 26, 27, 28, 29, 30, 31, 32, 33, 34, 35, 36, 37, 38, 39, 40, 41, 42] (by kernel_rfl) (by kernel_rfl) (by kernel_rfl) (by kernel_rfl) rfl (fun _ _ h_ => TL.off rfl rfl rfl (TL.nil h_)) ?_
    refine Plan.v 25 [26, 27, 28, 29, 30, 31, 32, 33, 34, 35, 36, 37, 38, 39, 40, 41, 42] (by kernel_rfl) (by kernel_rfl) (by kernel_rfl) (by kernel_rfl) rfl (fun _ _ h_ => TL.off rfl rfl rfl (TL.nil h_)) ?_
    refine Plan.v 26 [27, 28, 29, 30, 31, 32, 33, 34, 35, 36, 37, 38, 39, 40, 41, 42] (by kernel_rfl) (by kernel_rfl) (by kernel_rfl) (by kernel_rfl) rfl (fun _ _ h_ => TL.off rfl rfl rfl (TL.nil h_)) ?_
    refine Plan.v 27 [28, 29, 30, 31, 32, 33, 34, 35, 36, 37, 38, 39, 40, 41, 42] (by kernel_rfl) (by kernel_rfl) (by kernel_rfl) (by kernel_rfl) rfl (fun _ _ h_ => TL.off rfl rfl rfl (TL.nil h_)) ?_
    refine Plan.v 28 [29, 30, 31, 32, 33, 34, 35, 36, 37, 38, 39, 40, 41, 42] (by kernel_rfl) (by kernel_rfl) (by kernel_rfl) (by kernel_rfl) rfl (fun _ _ h_ => R.pkFE rfl rfl (by conv => lhs; whnf) (TL.nil h_)) ?_
    refine Plan.v 29 [30, 31, 32, 33, 34, 35, 36, 37, 38, 39, 40, 41, 42] (by kernel_rfl) (by kernel_rfl) (by kernel_rfl) (by kernel_rfl) rfl (fun _ _ h_ => R.mvE rfl (by conv => lhs; whnf) (TL.nil h_)) ?_
    refine Plan.v 30 [31, 32, 33, 34, 35, 36, 37, 38, 39, 40, 41, 42] (by kernel_rfl) (by kernel_rfl) (by kernel_rfl) (by kernel_rfl) rfl (fun _ _ h_ => TL.off rfl rfl rfl (TL.nil h_)) ?_
    refine Plan.v 31 [32, 33, 34, 35, 36, 37, 38, 39, 40, 41, 42] (by kernel_rfl) (by kernel_rfl) (by kernel_rfl) (by kernel_rfl) rfl (fun _ _ h_ => TL.off rfl rfl rfl (TL.nil h_)) ?_
    refine Plan.v 32 [33, 34, 35, 36, 37, 38, 39, 40, 41, 42] (by kernel_rfl) (by kernel_rfl) (by kernel_rfl) (by kernel_rfl) rfl (fun _ _ h_ => TL.off rfl rfl rfl (TL.nil h_)) ?_
    refine Plan.v 33 [34, 35, 36, 37, 38, 39, 40, 41, 42] (by kernel_rfl) (by kernel_rfl) (by kernel_rfl) (by kernel_rfl) rfl (fun _ _ h_ => TL.off rfl rfl rfl (TL.nil h_)) ?_
    refine Plan.v 34 [35, 36, 37, 38, 39, 40, 41, 42] (by kernel_rfl) (by kernel_rfl) (by kernel_rfl) (by kernel_rfl) rfl (fun _ _ h_ => TL.off rfl rfl rfl (TL.nil h_)) ?_
    refine Plan.v 35 [36, 37, 38, 39, 40, 41, 42] (by kernel_rfl) (by kernel_rfl) (by kernel_rfl) (by kernel_rfl) rfl (fun _ _ h_ => R.pkFE rfl rfl (by conv => lhs; whnf) (TL.nil h_)) ?_
    refine Plan.v 36 [37, 38, 39, 40, 41, 42] (by kernel_rfl) (by kernel_rfl) (by kernel_rfl) (by kernel_rfl) rfl (fun _ _ h_ => R.mvE rfl (by conv => lhs; whnf) (TL.nil h_)) ?_
    refine Plan.v 37 [38, 39, 40, 41, 42] (by kernel_rfl) (by kernel_rfl) (by kernel_rfl) (by kernel_rfl) rfl (fun _ _ h_ => TL.off rfl rfl rfl (TL.nil h_)) ?_
    refine Plan.v 38 [39, 40, 41, 42] (by kernel_rfl) (by kernel_rfl) (by kernel_rfl) (by kernel_rfl) rfl (fun _ _ h_ => TL.off rfl rfl rfl (TL.nil h_)) ?_
    refine Plan.v 39 [40, 41, 42] (by kernel_rfl) (by kernel_rfl) (by kernel_rfl) (by kernel_rfl) rfl (fun _ _ h_ => TL.off rfl rfl rfl (TL.nil h_)) ?_
    refine Plan.v 40 [41, 42] (by kernel_rfl) (by kernel_rfl) (by kernel_rfl) (by kernel_rfl) rfl (fun _ _ h_ => TL.off rfl rfl rfl (TL.nil h_)) ?_
    refine Plan.v 41 [42] (by kernel_rfl) (by kernel_rfl) (by kernel_rfl) (by kernel_rfl) rfl (fun _ _ h_ => R.pkFE rfl rfl (by conv => lhs; whnf) (TL.nil h_)) ?_
    refine Plan.v 42 [] (by kernel_rfl) (by kernel_rfl) (by kernel_rfl) (by kernel_rfl) rfl (fun _ _ h_ => R.asE rfl (by conv => lhs; whnf) (TL.nil h_)) ?_
    refine Plan.done (Post.thnN ?_)
    refine T.has Has.nil ?_
    refine T.ret ?_
    have hM : windroselaw14_wakes_m = false := by subst er34; subst er28; subst er24; subst er18; subst er12; rw [windroselaw14_wakes_m, LR.seq_go, LR.seq_go, LR.seq_go, LR.seq_go, LR.seq_go, if_neg g39]
    exact fin1L (v := .bool false) [] rfl rfl (List.Sublist.refl _) ⟨rfl, by first | rw [hM] | rfl⟩

end Go.SX

set_option linter.unusedVariables false
set_option linter.unusedSimpArgs false
namespace Go.SX
open Go Go.Proofs
theorem w14_true : windroselaw14_wakes_m = true := by kernel_rfl
def slices_ContainsFunc_Id_m (a0 : List Int) (a1 : Int → Bool) : Bool :=
  (decide ((0 : Int) ≤ (slices_IndexFunc_Id_m a0 a1)))
set_option maxHeartbeats 3200000 in
theorem slices_ContainsFunc_Id_c (H : Heap) (va0 : Value) (a0 : List Int) (ha0 : RdS (intE .u64) H va0 a0) (fa1 : Value) (a1 : Int → Bool) (ha1 : ∀ H', HLe H H' → ∀ (z0 : Int), Fv Try.prog fa1 [.int .u64 z0] H' (.bool (a1 z0))) (na1 : fa1.oneCell' = true) : Fv Try.prog (fnv 38) [va0, fa1] H (.bool (slices_ContainsFunc_Id_m a0 a1)) := by
  refine Fc.of_body (N := 9) Try.func38 rfl (by kernel_rfl) rfl rfl ?_
  intro w0
  obtain ⟨Aa0, ca0, rfl, hca0, hda0, ha0⟩ := ha0.shape
  refine T.seq ?_
  refine T.region ?_
  refine R.asE rfl (by conv => lhs; whnf) ?_
  refine TL.nil (Post.thnN ?_)
  refine T.seq ?_
  refine T.region ?_
  refine R.mvE rfl (by conv => lhs; whnf) ?_
  refine R.mvE rfl (by conv => lhs; whnf) ?_
  refine R.callv rfl rfl rfl (slices_IndexFunc_Id_c _ _ a0 ha0 _ a1 (fun H' h' => ha1 H' ((HLe.refl _).trans h')) na1) ?_
  refine R.geq rfl rfl rfl ?_
  refine R.asE rfl (by conv => lhs; whnf) ?_
  refine TL.nil (Post.thnN ?_)
  refine T.has Has.nil ?_
  refine T.ret ?_
  have hM : slices_ContainsFunc_Id_m a0 a1 = (decide ((0 : Int) ≤ (slices_IndexFunc_Id_m a0 a1))) := by rw [slices_ContainsFunc_Id_m]
  exact fin1L (v := .bool (decide ((0 : Int) ≤ (slices_IndexFunc_Id_m a0 a1)))) [] rfl rfl (List.Sublist.refl _) ⟨rfl, by first | rw [hM] | rfl⟩

def windroselaw14_IndexKeys_1_m (q0 : Int) (a0 : Int) : Bool :=
  (ident_Takes_m q0 a0)
set_option maxHeartbeats 3200000 in
theorem windroselaw14_IndexKeys_1_c (H : Heap) (b1000 : Nat) (q0 : Int) (hb0 : H b1000 = some (.cells #[.int .u64 q0] 26)) (a0 : Int) : Fv Try.prog (.func (.func 39) #[] ([.pointer (some ⟨b1000, 0, none⟩)] : List Value).toArray) [.int .u64 a0] H (.bool (windroselaw14_IndexKeys_1_m q0 a0)) := by
  refine Fc.of_body (N := 7) Try.func39 rfl (by kernel_rfl) rfl rfl ?_
  intro w0
  refine T.seq ?_
  refine T.region ?_
  refine R.asE rfl (by conv => lhs; whnf) ?_
  refine TL.nil (Post.thnN ?_)
  refine T.seq ?_
  refine T.region ?_
  refine R.ldH Try.isAgg26 rfl rfl hb0 rfl ?_
  refine R.mvE rfl (by conv => lhs; whnf) ?_
  refine R.callv rfl rfl rfl (ident_Takes_c _ (q0) (a0)) ?_
  refine R.asE rfl (by conv => lhs; whnf) ?_
  refine TL.nil (Post.thnN ?_)
  refine T.has Has.nil ?_
  refine T.ret ?_
  have hM : windroselaw14_IndexKeys_1_m q0 a0 = (ident_Takes_m q0 a0) := by rw [windroselaw14_IndexKeys_1_m]
  exact fin1L (v := .bool ((ident_Takes_m q0 a0))) [] rfl rfl (List.Sublist.refl _) ⟨rfl, by first | rw [hM] | rfl⟩

def windroselaw14_IndexKeys_l4 (r19 : (List Int)) : List (Int × Int) → Unit → LR (LR (Bool) (Unit)) (Unit)
  | [], sl4 => .go ()
  | yl4 :: ysl4, sl4 => LR.seq (ident_Pair_m yl4.1 yl4.2) (fun r96 => LR.seq (if r96.2 ≠ 0 then true else ((decide (¬ (r96.1 ∈ r19)))) : Bool) (fun sc5 => if sc5 = true then (.ret (.ret false)) else (windroselaw14_IndexKeys_l4 r19 ysl4 ())))
def windroselaw14_IndexKeys_l3 (r19 : (List Int)) : List Int → Unit → LR (Bool) (Unit)
  | [], sl3 => .go ()
  | yl3 :: ysl3, sl3 => LR.seq (ident_Parts_m yl3) (fun r70 => if ¬ (yl3 ∈ r19) then (.ret false) else (if ((kindG yl3) : Int) ≠ 3 then (windroselaw14_IndexKeys_l3 r19 ysl3 ()) else (LR.on (windroselaw14_IndexKeys_l4 r19 ([((r70.1, 0) : Int × Int), ((0, r70.2) : Int × Int), ((0, 0) : Int × Int)]) ()) (fun r => r) (fun ol4 => windroselaw14_IndexKeys_l3 r19 ysl3 ()))))
def windroselaw14_IndexKeys_l1 (r17 : (List Int)) (r19 : (List Int)) : List Int → Nat → Unit → LR (Bool) (Unit)
  | [], kl1, sl1 => .go ()
  | yl1 :: ysl1, kl1, sl1 => LR.seq (if (0 : Int) < (kl1 : Int) then (if (r19.getD ((((kl1 : Int) - 1)).toNat) (0 : Int)) = yl1 then true else (LR.seq (slices_ContainsFunc_Id_m r17 ((fun z0 => windroselaw14_IndexKeys_1_m yl1 z0))) (fun r47 => if (!r47) = true then true else (if ((kindG yl1) : Int) ≠ 4 then ((decide (¬ (yl1 ∈ r17)))) else false)))) else (LR.seq (slices_ContainsFunc_Id_m r17 ((fun z0 => windroselaw14_IndexKeys_1_m yl1 z0))) (fun r47 => if (!r47) = true then true else (if ((kindG yl1) : Int) ≠ 4 then ((decide (¬ (yl1 ∈ r17)))) else false))) : Bool) (fun sc2 => if sc2 = true then (.ret false) else (windroselaw14_IndexKeys_l1 r17 r19 ysl1 (kl1 + 1) ()))
def windroselaw14_IndexKeys_m (a0 : List Int) : Bool :=
  if (!windroselaw14_wakes_m) = true then false else (LR.seq (windroselaw14_few_m a0) (fun r17 => LR.seq (index_Keys_m r17) (fun r19 => if (!(slices_IsSorted_Id_m r19)) = true then false else (if (r19.length : Int) = 0 then true else (LR.on (windroselaw14_IndexKeys_l1 r17 r19 r19 0 ()) (fun r => r) (fun ol1 => LR.on (windroselaw14_IndexKeys_l3 r19 r17 ()) (fun r => r) (fun ol3 => true)))))))
set_option maxHeartbeats 3200000 in
theorem windroselaw14_IndexKeys_c (H : Heap) (va0 : Value) (a0 : List Int) (ha0 : RdS (intE .u64) H va0 a0) : Fv Try.prog (fnv 6) [va0] H (.bool (windroselaw14_IndexKeys_m a0)) := by
  refine Fc.of_body (N := 109) Try.func6 rfl (by kernel_rfl) rfl rfl ?_
  intro w0
  obtain ⟨Aa0, ca0, rfl, hca0, hda0, ha0⟩ := ha0.shape
  refine T.seq ?_
  refine T.region ?_
  refine R.asE rfl (by conv => lhs; whnf) ?_
  refine TL.nil (Post.thnN ?_)
  refine T.seq ?_
  refine T.seq ?_
  refine T.region ?_
  refine R.callv rfl rfl rfl (windroselaw14_wakes_c _ ) ?_
  refine R.not rfl rfl ?_
  refine TL.nil (Post.thnN ?_)
  refine T.cond rfl (fun c15 => ?_) (fun c15 => ?_)
  · refine T.set 15 (.bool true) (congrArg Value.bool c15) ?_
    refine T.seq ?_
    refine T.region ?_
    refine R.asE rfl (by conv => lhs; whnf) ?_
    refine TL.nil (Post.thnN ?_)
    refine T.has Has.nil ?_
    refine T.ret (Post.thnR ?_)
    have hM : windroselaw14_IndexKeys_m a0 = false := by rw [windroselaw14_IndexKeys_m, if_t c15]
    exact fin1L (v := .bool false) [] rfl rfl (List.Sublist.refl _) ⟨rfl, by first | rw [hM] | rfl⟩
  · refine T.set 15 (.bool false) (congrArg Value.bool c15) ?_
    refine T.skip (Post.thnN ?_)
    refine T.seq ?_
    refine T.region ?_
    refine R.mvE rfl (by conv => lhs; whnf) ?_
    obtain ⟨r17, er17⟩ : ∃ r, r = (windroselaw14_few_m a0) := ⟨_, rfl⟩
    refine TL.call [] rfl rfl rfl (windroselaw14_few_c _ _ a0 ha0) ?_
    intro v17 H17 L17 s17 q17
    rw [← er17] at q17
    obtain ⟨u17_0_0, c17_0_0, rfl, rfl, w17_0_0⟩ := q17
    obtain ⟨A17_0_0, p17_0_0, rfl, m17_0_0, n17_0_0⟩ := OwnS.shape w17_0_0
    have tfw17 := few_len _ _ er17
    refine R.asE rfl (by conv => lhs; whnf) ?_
    refine TL.nil (Post.thnN ?_)
    refine T.seq ?_
    refine T.region ?_
    refine R.mvE rfl (by conv => lhs; whnf) ?_
    refine TL.shut .hd ?_
    intro HF17_0_0_1 sF17_0_0_1 qF17_0_0_1
    have fF17_0_0_1 := OwnS.read w17_0_0 sF17_0_0_1 qF17_0_0_1
    obtain ⟨r19, er19⟩ : ∃ r, r = (index_Keys_m r17) := ⟨_, rfl⟩
    refine TL.call [] rfl rfl rfl (index_Keys_c _ _ r17 fF17_0_0_1) ?_
    intro v19 H19 L19 s19 q19
    rw [← er19] at q19
    obtain ⟨u19_0_0, c19_0_0, rfl, rfl, w19_0_0⟩ := q19
    obtain ⟨A19_0_0, p19_0_0, rfl, m19_0_0, n19_0_0⟩ := OwnS.shape w19_0_0
    have tK19 := Keys_len _ _ er19
    refine R.asE rfl (by conv => lhs; whnf) ?_
    refine TL.nil (Post.thnN ?_)
    refine T.seq ?_
    refine T.seq ?_
    refine T.region ?_
    refine R.mvE rfl (by conv => lhs; whnf) ?_
    refine TL.shut .hd ?_
    intro HF19_0_0_2 sF19_0_0_2 qF19_0_0_2
    have fF19_0_0_2 := OwnS.read w19_0_0 sF19_0_0_2 qF19_0_0_2
    refine R.callv rfl rfl rfl (slices_IsSorted_Id_c _ _ r19 fF19_0_0_2) ?_
    refine R.not rfl rfl ?_
    refine TL.nil (Post.thnN ?_)
    refine T.cond rfl (fun c22 => ?_) (fun c22 => ?_)
    · refine T.set 22 (.bool true) (congrArg Value.bool c22) ?_
      refine T.seq ?_
      refine T.region ?_
      refine R.asE rfl (by conv => lhs; whnf) ?_
      refine TL.nil (Post.thnN ?_)
      refine T.has Has.nil ?_
      refine T.ret (Post.thnR ?_)
      have hM : windroselaw14_IndexKeys_m a0 = false := by subst er19; subst er17; rw [windroselaw14_IndexKeys_m, if_f c15, LR.seq_go, LR.seq_go, if_t c22]
      exact fin1L (v := .bool false) [] rfl rfl (List.Sublist.refl _) ⟨rfl, by first | rw [hM] | rfl⟩
    · refine T.set 22 (.bool false) (congrArg Value.bool c22) ?_
      refine T.skip (Post.thnN ?_)
      refine T.seq ?_
      refine T.seq ?_
      refine T.region ?_
      refine R.mvE rfl (by conv => lhs; whnf) ?_
      refine R.len Try.underlying22 rfl rfl ?_
      refine R.eql rfl rfl rfl ?_
      refine TL.nil (Post.thnN ?_)
      refine T.condD rfl (fun c25 => ?_) (fun c25 => ?_)
      · refine T.set 25 (.bool true) (congrArg Value.bool (decide_eq_true c25)) ?_
        refine T.seq ?_
        refine T.region ?_
        refine R.asE rfl (by conv => lhs; whnf) ?_
        refine TL.nil (Post.thnN ?_)
        refine T.has Has.nil ?_
        refine T.ret (Post.thnR ?_)
        have hM : windroselaw14_IndexKeys_m a0 = true := by subst er19; subst er17; rw [windroselaw14_IndexKeys_m, if_f c15, LR.seq_go, LR.seq_go, if_f c22, if_pos c25]
        exact fin1L (v := .bool true) [] rfl rfl (List.Sublist.refl _) ⟨rfl, by first | rw [hM] | rfl⟩
      · refine T.set 25 (.bool false) (congrArg Value.bool (decide_eq_false c25)) ?_
        refine T.skip (Post.thnN ?_)
        refine T.seq ?_
        refine T.seq ?_
        refine T.region ?_
        refine R.mvE rfl (by conv => lhs; whnf) ?_
        refine R.len Try.underlying22 rfl rfl ?_
        refine R.mvE rfl (by conv => lhs; whnf) ?_
        refine TL.nil (Post.thnN ?_)
        refine T.block ?_
        refine T.loop (ι := Nat) (fun kl1 H' L' ds' => kl1 ≤ r19.length ∧ Has L' [] ∧ windroselaw14_IndexKeys_l1 r17 r19 (r19.drop kl1) kl1 () = windroselaw14_IndexKeys_l1 r17 r19 r19 0 ()) (fun kl1 => [(28, .int .i64 (kl1 : Int)), (0, .slice A17_0_0 r17.length p17_0_0), (3, .slice A19_0_0 r19.length p19_0_0), (26, .slice A19_0_0 r19.length p19_0_0), (27, .int .i64 (r19.length : Int))]) (fun kl1 => r19.length - kl1) 0 ?_ ?_ ?_
        · exact ⟨(by omega), Has.nil, (by rfl)⟩
        · exact ⟨rfl, rfl, rfl, rfl, rfl, trivial⟩
        · intro kl1 σ_l1 H_l1 L_l1 ds_l1 s_l1 hI_l1
          obtain ⟨hkl1, hI_l1⟩ := hI_l1
          obtain ⟨hLl1, hQl1⟩ := hI_l1
          refine T.has hLl1 ?_
          refine T.seq ?_
          refine T.region ?_
          refine R.lss rfl rfl rfl ?_
          refine TL.nil (Post.thnN ?_)
          refine T.seq ?_
          refine T.condD rfl (fun c29 => ?_) (fun c29 => ?_)
          · have hltl1 : kl1 < r19.length := by omega
            obtain ⟨yl1, hyl1⟩ := getk (xs := r19) (k := kl1) (by omega)
            refine T.skip (Post.thnN ?_)
            refine T.seq ?_
            refine T.block ?_
            refine T.seq ?_
            refine T.region ?_
            refine R.mvE rfl (by conv => lhs; whnf) ?_
            obtain ⟨b31, o31, i31, k31⟩ := RdS.elem (fF19_0_0_2.mono s_l1) hyl1
            obtain ⟨l31, g31, k31⟩ := k31
            obtain rfl : l31 = [.int .u64 yl1] := g31
            refine R.ixp Try.underlying22 Try.sizeOf26 rfl rfl rfl (by omega) i31 ?_
            refine R.ldC Try.isAgg26 rfl rfl (k31 0 _ rfl) ?_
            refine R.alloc Try.zeroValue26 rfl ?_
            intro b5
            refine R.asE rfl (by conv => lhs; whnf) ?_
            refine R.stX (old := [.int .u64 0]) (l := [.int .u64 yl1]) (new := [.int .u64 yl1]) (et := 26) Try.sizeOf26 rfl rfl rfl (cells1 rfl) rfl (by show 0 + 1 ≤ 1; decide) rfl (all_one rfl) .hd ?_
            refine TL.shut .hd ?_
            intro Hb5_3 sb5_3 qb5_3
            have hb5_3 : Hb5_3 b5 = some (.cells #[.int .u64 yl1] 26) := shut1 qb5_3
            refine TL.nil (Post.thnN ?_)
            refine T.seq ?_
            refine T.cutK (ι := Bool) (fun b60c2 H' L' ds' => Has L' [] ∧ (if (0 : Int) < (kl1 : Int) then (if (r19.getD ((((kl1 : Int) - 1)).toNat) (0 : Int)) = yl1 then true else (LR.seq (slices_ContainsFunc_Id_m r17 ((fun z0 => windroselaw14_IndexKeys_1_m yl1 z0))) (fun r47 => if (!r47) = true then true else (if ((kindG yl1) : Int) ≠ 4 then ((decide (¬ (yl1 ∈ r17)))) else false)))) else (LR.seq (slices_ContainsFunc_Id_m r17 ((fun z0 => windroselaw14_IndexKeys_1_m yl1 z0))) (fun r47 => if (!r47) = true then true else (if ((kindG yl1) : Int) ≠ 4 then ((decide (¬ (yl1 ∈ r17)))) else false))) : Bool) = b60c2) (fun b60c2 => [(0, .slice A17_0_0 r17.length p17_0_0), (3, .slice A19_0_0 r19.length p19_0_0), (26, .slice A19_0_0 r19.length p19_0_0), (27, .int .i64 (r19.length : Int)), (28, .int .i64 (kl1 : Int)), (60, .bool (b60c2))]) ?_ ?_
            · refine T.draw Try_mixed (by kernel_rfl) ?_
              refine Plan.v 0 [1, 2, 3, 4, 5, 6, 7, 8, 9, 10, 11, 12, 13, 14, 15, 16, 17, 18, 19, 20, 21, 22, 23, 24, 25, 26, 27] (by kernel_rfl) (by kernel_rfl) (by kernel_rfl) (by kernel_rfl) rfl (fun _ _ h_ => R.mvE rfl (by conv => lhs; whnf) (TL.nil h_)) ?_
              refine Plan.v 1 [2, 3, 4, 5, 6, 7, 8, 9, 10, 11, 12, 13, 14, 15, 16, 17, 18, 19, 20, 21, 22, 23, 24, 25, 26, 27] (by kernel_rfl) (by kernel_rfl) (by kernel_rfl) (by kernel_rfl) rfl (fun _ _ h_ => R.gtr rfl rfl rfl (TL.nil h_)) ?_
              refine Plan.v 2 [3, 4, 5, 6, 7, 8, 9, 10, 11, 12, 13, 14, 15, 16, 17, 18, 19, 20, 21, 22, 23, 24, 25, 26, 27] (by kernel_rfl) (by kernel_rfl) (by kernel_rfl) (by kernel_rfl) rfl (fun _ _ h_ => R.mvE rfl (by conv => lhs; whnf) (TL.nil h_)) ?_
              refine Plan.gsplitD 35 rfl (fun g35 => ?_) (fun g35 => ?_)
              · refine Plan.v 3 [4, 5, 6, 7, 8, 9, 10, 11, 12, 13, 14, 15, 16, 17, 18, 19, 20, 21, 22, 23, 24, 25, 26, 27] (by kernel_rfl) (by kernel_rfl) (by kernel_rfl) (by kernel_rfl) rfl (fun _ _ h_ => R.mvE rfl (by conv => lhs; whnf) (TL.nil h_)) ?_
                refine Plan.v 4 [5, 6, 7, 8, 9, 10, 11, 12, 13, 14, 15, 16, 17, 18, 19, 20, 21, 22, 23, 24, 25, 26, 27] (by kernel_rfl) (by kernel_rfl) (by kernel_rfl) (by kernel_rfl) rfl (fun _ _ h_ => R.mvE rfl (by conv => lhs; whnf) (TL.nil h_)) ?_
                refine Plan.v 5 [6, 7, 8, 9, 10, 11, 12, 13, 14, 15, 16, 17, 18, 19, 20, 21, 22, 23, 24, 25, 26, 27] (by kernel_rfl) (by kernel_rfl) (by kernel_rfl) (by kernel_rfl) rfl (fun _ _ h_ => R.subI rfl rfl rfl (by omega) (TL.nil h_)) ?_
                have hl39 : (((kl1 : Int) - 1)).toNat < r19.length := by first | omega | (simp; done) | (simp; omega) | (simp at *; omega)
                obtain ⟨y39, e39, h39⟩ : ∃ y, y = (r19.getD ((((kl1 : Int) - 1)).toNat) (0 : Int)) ∧ r19[(((kl1 : Int) - 1)).toNat]? = some y := ⟨_, rfl, getD_get (by first | exact hl39 | simpa using hl39 | (simp only [List.length_set]; omega) | omega | (rw [(sortI_perm _).length_eq]; exact hl39))⟩
                obtain ⟨b39, o39, i39, k39⟩ := RdS.elem (fF19_0_0_2.mono (s_l1.trans sb5_3)) h39
                obtain ⟨l39, g39, k39⟩ := k39
                obtain rfl : l39 = [.int .u64 y39] := g39
                refine Plan.v 6 [7, 8, 9, 10, 11, 12, 13, 14, 15, 16, 17, 18, 19, 20, 21, 22, 23, 24, 25, 26, 27] (by kernel_rfl) (by kernel_rfl) (by kernel_rfl) (by kernel_rfl) rfl (fun _ _ h_ => R.ixp Try.underlying22 Try.sizeOf26 rfl rfl rfl (by first | omega | (simp; done) | (simp; omega) | (simp at *; omega)) i39 (TL.nil h_)) ?_
                refine Plan.v 7 [8, 9, 10, 11, 12, 13, 14, 15, 16, 17, 18, 19, 20, 21, 22, 23, 24, 25, 26, 27] (by kernel_rfl) (by kernel_rfl) (by kernel_rfl) (by kernel_rfl) rfl (fun _ _ h_ => R.ldC Try.isAgg26 rfl rfl (k39 0 _ rfl) (TL.nil h_)) ?_
                refine Plan.v 8 [9, 10, 11, 12, 13, 14, 15, 16, 17, 18, 19, 20, 21, 22, 23, 24, 25, 26, 27] (by kernel_rfl) (by kernel_rfl) (by kernel_rfl) (by kernel_rfl) rfl (fun _ _ h_ => R.ldH Try.isAgg26 rfl rfl hb5_3 rfl (TL.nil h_)) ?_
                refine Plan.v 9 [10, 11, 12, 13, 14, 15, 16, 17, 18, 19, 20, 21, 22, 23, 24, 25, 26, 27] (by kernel_rfl) (by kernel_rfl) (by kernel_rfl) (by kernel_rfl) rfl (fun _ _ h_ => R.eql rfl rfl rfl (TL.nil h_)) ?_
                refine Plan.v 10 [11, 12, 13, 14, 15, 16, 17, 18, 19, 20, 21, 22, 23, 24, 25, 26, 27] (by kernel_rfl) (by kernel_rfl) (by kernel_rfl) (by kernel_rfl) rfl (fun _ _ h_ => R.pkTE rfl rfl (by conv => lhs; whnf) (TL.nil h_)) ?_
                refine Plan.v 11 [12, 13, 14, 15, 16, 17, 18, 19, 20, 21, 22, 23, 24, 25, 26, 27] (by kernel_rfl) (by kernel_rfl) (by kernel_rfl) (by kernel_rfl) rfl (fun _ _ h_ => R.mvE rfl (by conv => lhs; whnf) (TL.nil h_)) ?_
                refine Plan.gsplitD 44 rfl (fun g44 => ?_) (fun g44 => ?_)
                · refine Plan.v 12 [13, 14, 15, 16, 17, 18, 19, 20, 21, 22, 23, 24, 25, 26, 27] (by kernel_rfl) (by kernel_rfl) (by kernel_rfl) (by kernel_rfl) rfl (fun _ _ h_ => TL.off rfl rfl rfl (TL.nil h_)) ?_
                  refine Plan.v 13 [14, 15, 16, 17, 18, 19, 20, 21, 22, 23, 24, 25, 26, 27] (by kernel_rfl) (by kernel_rfl) (by kernel_rfl) (by kernel_rfl) rfl (fun _ _ h_ => TL.off rfl rfl rfl (TL.nil h_)) ?_
                  refine Plan.v 14 [15, 16, 17, 18, 19, 20, 21, 22, 23, 24, 25, 26, 27] (by kernel_rfl) (by kernel_rfl) (by kernel_rfl) (by kernel_rfl) rfl (fun _ _ h_ => TL.off rfl rfl rfl (TL.nil h_)) ?_
                  refine Plan.v 15 [16, 17, 18, 19, 20, 21, 22, 23, 24, 25, 26, 27] (by kernel_rfl) (by kernel_rfl) (by kernel_rfl) (by kernel_rfl) rfl (fun _ _ h_ => TL.off rfl rfl rfl (TL.nil h_)) ?_
                  refine Plan.v 16 [17, 18, 19, 20, 21, 22, 23, 24, 25, 26, 27] (by kernel_rfl) (by kernel_rfl) (by kernel_rfl) (by kernel_rfl) rfl (fun _ _ h_ => R.pkTE rfl rfl (by conv => lhs; whnf) (TL.nil h_)) ?_
                  refine Plan.v 17 [18, 19, 20, 21, 22, 23, 24, 25, 26, 27] (by kernel_rfl) (by kernel_rfl) (by kernel_rfl) (by kernel_rfl) rfl (fun _ _ h_ => R.mvE rfl (by conv => lhs; whnf) (TL.nil h_)) ?_
                  refine Plan.v 18 [19, 20, 21, 22, 23, 24, 25, 26, 27] (by kernel_rfl) (by kernel_rfl) (by kernel_rfl) (by kernel_rfl) rfl (fun _ _ h_ => TL.off rfl rfl rfl (TL.nil h_)) ?_
                  refine Plan.v 19 [20, 21, 22, 23, 24, 25, 26, 27] (by kernel_rfl) (by kernel_rfl) (by kernel_rfl) (by kernel_rfl) rfl (fun _ _ h_ => TL.off rfl rfl rfl (TL.nil h_)) ?_
                  refine Plan.v 20 [21, 22, 23, 24, 25, 26, 27] (by kernel_rfl) (by kernel_rfl) (by kernel_rfl) (by kernel_rfl) rfl (fun _ _ h_ => TL.off rfl rfl rfl (TL.nil h_)) ?_
                  refine Plan.v 21 [22, 23, 24, 25, 26, 27] (by kernel_rfl) (by kernel_rfl) (by kernel_rfl) (by kernel_rfl) rfl (fun _ _ h_ => TL.off rfl rfl rfl (TL.nil h_)) ?_
                  refine Plan.v 22 [23, 24, 25, 26, 27] (by kernel_rfl) (by kernel_rfl) (by kernel_rfl) (by kernel_rfl) rfl (fun _ _ h_ => TL.offU rfl rfl (TL.nil h_)) ?_
                  refine Plan.v 23 [24, 25, 26, 27] (by kernel_rfl) (by kernel_rfl) (by kernel_rfl) (by kernel_rfl) rfl (fun _ _ h_ => TL.offU rfl rfl (TL.nil h_)) ?_
                  refine Plan.v 24 [25, 26, 27] (by kernel_rfl) (by kernel_rfl) (by kernel_rfl) (by kernel_rfl) rfl (fun _ _ h_ => TL.offU rfl rfl (TL.nil h_)) ?_
                  refine Plan.v 25 [26, 27] (by kernel_rfl) (by kernel_rfl) (by kernel_rfl) (by kernel_rfl) rfl (fun _ _ h_ => TL.offU rfl rfl (TL.nil h_)) ?_
                  refine Plan.v 26 [27] (by kernel_rfl) (by kernel_rfl) (by kernel_rfl) (by kernel_rfl) rfl (fun _ _ h_ => TL.off rfl rfl rfl (TL.nil h_)) ?_
                  refine Plan.v 27 [] (by kernel_rfl) (by kernel_rfl) (by kernel_rfl) (by kernel_rfl) rfl (fun _ _ h_ => R.pkTE rfl rfl (by conv => lhs; whnf) (TL.nil h_)) ?_
                  refine Plan.done (Post.thnN ?_)
                  exact ⟨true, HLe.refl _, ⟨Has.nil, (by subst e39; rw [if_pos g35, if_pos g44])⟩, rfl, rfl, rfl, rfl, rfl, rfl, trivial⟩
                · refine Plan.v 12 [13, 14, 15, 16, 17, 18, 19, 20, 21, 22, 23, 24, 25, 26, 27] (by kernel_rfl) (by kernel_rfl) (by kernel_rfl) (by kernel_rfl) rfl (fun _ _ h_ => R.mvE rfl (by conv => lhs; whnf) (TL.nil h_)) ?_
                  refine Plan.v 13 [14, 15, 16, 17, 18, 19, 20, 21, 22, 23, 24, 25, 26, 27] (by kernel_rfl) (by kernel_rfl) (by kernel_rfl) (by kernel_rfl) rfl (fun _ _ h_ => R.mkf (cs := [_]) rfl rfl (TL.nil h_)) ?_
                  obtain ⟨r47, er47⟩ : ∃ r, r = (slices_ContainsFunc_Id_m r17 ((fun z0 => windroselaw14_IndexKeys_1_m yl1 z0))) := ⟨_, rfl⟩
                  refine Plan.v 14 [15, 16, 17, 18, 19, 20, 21, 22, 23, 24, 25, 26, 27] (by kernel_rfl) (by kernel_rfl) (by kernel_rfl) (by kernel_rfl) rfl (fun _ _ h_ => R.callv (v := .bool r47) rfl rfl rfl (by rw [er47]; exact slices_ContainsFunc_Id_c _ _ r17 (fF17_0_0_1.mono (s19.trans (sF19_0_0_2.trans (s_l1.trans sb5_3)))) _ (fun z0 => windroselaw14_IndexKeys_1_m yl1 z0) (fun H2 h2 z0 => windroselaw14_IndexKeys_1_c H2 b5 (yl1) (h2 _ _ hb5_3) z0) rfl) (TL.nil h_)) ?_
                  refine Plan.v 15 [16, 17, 18, 19, 20, 21, 22, 23, 24, 25, 26, 27] (by kernel_rfl) (by kernel_rfl) (by kernel_rfl) (by kernel_rfl) rfl (fun _ _ h_ => R.not rfl rfl (TL.nil h_)) ?_
                  refine Plan.v 16 [17, 18, 19, 20, 21, 22, 23, 24, 25, 26, 27] (by kernel_rfl) (by kernel_rfl) (by kernel_rfl) (by kernel_rfl) rfl (fun _ _ h_ => R.pkFE rfl rfl (by conv => lhs; whnf) (TL.nil h_)) ?_
                  refine Plan.v 17 [18, 19, 20, 21, 22, 23, 24, 25, 26, 27] (by kernel_rfl) (by kernel_rfl) (by kernel_rfl) (by kernel_rfl) rfl (fun _ _ h_ => R.mvE rfl (by conv => lhs; whnf) (TL.nil h_)) ?_
                  refine Plan.gsplit 50 rfl (fun g50 => ?_) (fun g50 => ?_)
                  · refine Plan.v 18 [19, 20, 21, 22, 23, 24, 25, 26, 27] (by kernel_rfl) (by kernel_rfl) (by kernel_rfl) (by kernel_rfl) rfl (fun _ _ h_ => TL.off rfl rfl rfl (TL.nil h_)) ?_
                    refine Plan.v 19 [20, 21, 22, 23, 24, 25, 26, 27] (by kernel_rfl) (by kernel_rfl) (by kernel_rfl) (by kernel_rfl) rfl (fun _ _ h_ => TL.off rfl rfl rfl (TL.nil h_)) ?_
                    refine Plan.v 20 [21, 22, 23, 24, 25, 26, 27] (by kernel_rfl) (by kernel_rfl) (by kernel_rfl) (by kernel_rfl) rfl (fun _ _ h_ => TL.off rfl rfl rfl (TL.nil h_)) ?_
                    refine Plan.v 21 [22, 23, 24, 25, 26, 27] (by kernel_rfl) (by kernel_rfl) (by kernel_rfl) (by kernel_rfl) rfl (fun _ _ h_ => TL.off rfl rfl rfl (TL.nil h_)) ?_
                    refine Plan.v 22 [23, 24, 25, 26, 27] (by kernel_rfl) (by kernel_rfl) (by kernel_rfl) (by kernel_rfl) rfl (fun _ _ h_ => TL.offU rfl rfl (TL.nil h_)) ?_
                    refine Plan.v 23 [24, 25, 26, 27] (by kernel_rfl) (by kernel_rfl) (by kernel_rfl) (by kernel_rfl) rfl (fun _ _ h_ => TL.offU rfl rfl (TL.nil h_)) ?_
                    refine Plan.v 24 [25, 26, 27] (by kernel_rfl) (by kernel_rfl) (by kernel_rfl) (by kernel_rfl) rfl (fun _ _ h_ => TL.offU rfl rfl (TL.nil h_)) ?_
                    refine Plan.v 25 [26, 27] (by kernel_rfl) (by kernel_rfl) (by kernel_rfl) (by kernel_rfl) rfl (fun _ _ h_ => TL.offU rfl rfl (TL.nil h_)) ?_
                    refine Plan.v 26 [27] (by kernel_rfl) (by kernel_rfl) (by kernel_rfl) (by kernel_rfl) rfl (fun _ _ h_ => TL.off rfl rfl rfl (TL.nil h_)) ?_
                    refine Plan.v 27 [] (by kernel_rfl) (by kernel_rfl) (by kernel_rfl) (by kernel_rfl) rfl (fun _ _ h_ => R.pkTE rfl rfl (by conv => lhs; whnf) (TL.nil h_)) ?_
                    refine Plan.done (Post.thnN ?_)
                    exact ⟨true, HLe.refl _, ⟨Has.nil, (by subst er47; subst e39; rw [if_pos g35, if_neg g44, LR.seq_go, if_t g50])⟩, rfl, rfl, rfl, rfl, rfl, rfl, trivial⟩
                  · refine Plan.v 18 [19, 20, 21, 22, 23, 24, 25, 26, 27] (by kernel_rfl) (by kernel_rfl) (by kernel_rfl) (by kernel_rfl) rfl (fun _ _ h_ => R.ldH Try.isAgg26 rfl rfl hb5_3 rfl (TL.nil h_)) ?_
                    refine Plan.v 19 [20, 21, 22, 23, 24, 25, 26, 27] (by kernel_rfl) (by kernel_rfl) (by kernel_rfl) (by kernel_rfl) rfl (fun _ _ h_ => R.callv rfl rfl rfl (kindG_c _ yl1) (TL.nil h_)) ?_
                    refine Plan.v 20 [21, 22, 23, 24, 25, 26, 27] (by kernel_rfl) (by kernel_rfl) (by kernel_rfl) (by kernel_rfl) rfl (fun _ _ h_ => R.neq rfl rfl rfl (TL.nil h_)) ?_
                    refine Plan.v 21 [22, 23, 24, 25, 26, 27] (by kernel_rfl) (by kernel_rfl) (by kernel_rfl) (by kernel_rfl) rfl (fun _ _ h_ => R.mvE rfl (by conv => lhs; whnf) (TL.nil h_)) ?_
                    refine Plan.gsplitD 54 rfl (fun g54 => ?_) (fun g54 => ?_)
                    · refine Plan.v 22 [23, 24, 25, 26, 27] (by kernel_rfl) (by kernel_rfl) (by kernel_rfl) (by kernel_rfl) rfl (fun _ _ h_ => R.mvE rfl (by conv => lhs; whnf) (TL.nil h_)) ?_
                      refine Plan.v 23 [24, 25, 26, 27] (by kernel_rfl) (by kernel_rfl) (by kernel_rfl) (by kernel_rfl) rfl (fun _ _ h_ => R.ldH Try.isAgg26 rfl rfl hb5_3 rfl (TL.nil h_)) ?_
                      refine Plan.v 24 [25, 26, 27] (by kernel_rfl) (by kernel_rfl) (by kernel_rfl) (by kernel_rfl) rfl (fun _ _ h_ => R.callv rfl rfl rfl (slices_Contains_Id_d _ _ r17 (fF17_0_0_1.mono (s19.trans (sF19_0_0_2.trans (s_l1.trans sb5_3)))) yl1) (TL.nil h_)) ?_
                      refine Plan.v 25 [26, 27] (by kernel_rfl) (by kernel_rfl) (by kernel_rfl) (by kernel_rfl) rfl (fun _ _ h_ => R.notD rfl rfl (TL.nil h_)) ?_
                      refine Plan.v 26 [27] (by kernel_rfl) (by kernel_rfl) (by kernel_rfl) (by kernel_rfl) rfl (fun _ _ h_ => R.pkTE rfl rfl (by conv => lhs; whnf) (TL.nil h_)) ?_
                      refine Plan.v 27 [] (by kernel_rfl) (by kernel_rfl) (by kernel_rfl) (by kernel_rfl) rfl (fun _ _ h_ => R.pkFE rfl rfl (by conv => lhs; whnf) (TL.nil h_)) ?_
                      refine Plan.done (Post.thnN ?_)
                      exact ⟨(decide (¬ (yl1 ∈ r17))), HLe.refl _, ⟨Has.nil, (by subst er47; subst e39; rw [if_pos g35, if_neg g44, LR.seq_go, if_f g50, if_pos g54])⟩, rfl, rfl, rfl, rfl, rfl, rfl, trivial⟩
                    · refine Plan.v 22 [23, 24, 25, 26, 27] (by kernel_rfl) (by kernel_rfl) (by kernel_rfl) (by kernel_rfl) rfl (fun _ _ h_ => TL.off rfl rfl rfl (TL.nil h_)) ?_
                      refine Plan.v 23 [24, 25, 26, 27] (by kernel_rfl) (by kernel_rfl) (by kernel_rfl) (by kernel_rfl) rfl (fun _ _ h_ => TL.off rfl rfl rfl (TL.nil h_)) ?_
                      refine Plan.v 24 [25, 26, 27] (by kernel_rfl) (by kernel_rfl) (by kernel_rfl) (by kernel_rfl) rfl (fun _ _ h_ => TL.off rfl rfl rfl (TL.nil h_)) ?_
                      refine Plan.v 25 [26, 27] (by kernel_rfl) (by kernel_rfl) (by kernel_rfl) (by kernel_rfl) rfl (fun _ _ h_ => TL.off rfl rfl rfl (TL.nil h_)) ?_
                      refine Plan.v 26 [27] (by kernel_rfl) (by kernel_rfl) (by kernel_rfl) (by kernel_rfl) rfl (fun _ _ h_ => R.pkFE rfl rfl (by conv => lhs; whnf) (TL.nil h_)) ?_
                      refine Plan.v 27 [] (by kernel_rfl) (by kernel_rfl) (by kernel_rfl) (by kernel_rfl) rfl (fun _ _ h_ => R.pkFE rfl rfl (by conv => lhs; whnf) (TL.nil h_)) ?_
                      refine Plan.done (Post.thnN ?_)
                      exact ⟨false, HLe.refl _, ⟨Has.nil, (by subst er47; subst e39; rw [if_pos g35, if_neg g44, LR.seq_go, if_f g50, if_neg g54])⟩, rfl, rfl, rfl, rfl, rfl, rfl, trivial⟩
              · refine Plan.v 3 [4, 5, 6, 7, 8, 9, 10, 11, 12, 13, 14, 15, 16, 17, 18, 19, 20, 21, 22, 23, 24, 25, 26, 27] (by kernel_rfl) (by kernel_rfl) (by kernel_rfl) (by kernel_rfl) rfl (fun _ _ h_ => TL.off rfl rfl rfl (TL.nil h_)) ?_
                refine Plan.v 4 [5, 6, 7, 8, 9, 10, 11, 12, 13, 14, 15, 16, 17, 18, 19, 20, 21, 22, 23, 24, 25, 26, 27] (by kernel_rfl) (by kernel_rfl) (by kernel_rfl) (by kernel_rfl) rfl (fun _ _ h_ => TL.off rfl rfl rfl (TL.nil h_)) ?_
                refine Plan.v 5 [6, 7, 8, 9, 10, 11, 12, 13, 14, 15, 16, 17, 18, 19, 20, 21, 22, 23, 24, 25, 26, 27] (by kernel_rfl) (by kernel_rfl) (by kernel_rfl) (by kernel_rfl) rfl (fun _ _ h_ => TL.off rfl rfl rfl (TL.nil h_)) ?_
                refine Plan.v 6 [7, 8, 9, 10, 11, 12, 13, 14, 15, 16, 17, 18, 19, 20, 21, 22, 23, 24, 25, 26, 27] (by kernel_rfl) (by kernel_rfl) (by kernel_rfl) (by kernel_rfl) rfl (fun _ _ h_ => TL.off rfl rfl rfl (TL.nil h_)) ?_
                refine Plan.v 7 [8, 9, 10, 11, 12, 13, 14, 15, 16, 17, 18, 19, 20, 21, 22, 23, 24, 25, 26, 27] (by kernel_rfl) (by kernel_rfl) (by kernel_rfl) (by kernel_rfl) rfl (fun _ _ h_ => TL.off rfl rfl rfl (TL.nil h_)) ?_
                refine Plan.v 8 [9, 10, 11, 12, 13, 14, 15, 16, 17, 18, 19, 20, 21, 22, 23, 24, 25, 26, 27] (by kernel_rfl) (by kernel_rfl) (by kernel_rfl) (by kernel_rfl) rfl (fun _ _ h_ => TL.off rfl rfl rfl (TL.nil h_)) ?_
                refine Plan.v 9 [10, 11, 12, 13, 14, 15, 16, 17, 18, 19, 20, 21, 22, 23, 24, 25, 26, 27] (by kernel_rfl) (by kernel_rfl) (by kernel_rfl) (by kernel_rfl) rfl (fun _ _ h_ => TL.off rfl rfl rfl (TL.nil h_)) ?_
                refine Plan.v 10 [11, 12, 13, 14, 15, 16, 17, 18, 19, 20, 21, 22, 23, 24, 25, 26, 27] (by kernel_rfl) (by kernel_rfl) (by kernel_rfl) (by kernel_rfl) rfl (fun _ _ h_ => R.pkFE rfl rfl (by conv => lhs; whnf) (TL.nil h_)) ?_
                refine Plan.v 11 [12, 13, 14, 15, 16, 17, 18, 19, 20, 21, 22, 23, 24, 25, 26, 27] (by kernel_rfl) (by kernel_rfl) (by kernel_rfl) (by kernel_rfl) rfl (fun _ _ h_ => R.mvE rfl (by conv => lhs; whnf) (TL.nil h_)) ?_
                refine Plan.v 12 [13, 14, 15, 16, 17, 18, 19, 20, 21, 22, 23, 24, 25, 26, 27] (by kernel_rfl) (by kernel_rfl) (by kernel_rfl) (by kernel_rfl) rfl (fun _ _ h_ => R.mvE rfl (by conv => lhs; whnf) (TL.nil h_)) ?_
                refine Plan.v 13 [14, 15, 16, 17, 18, 19, 20, 21, 22, 23, 24, 25, 26, 27] (by kernel_rfl) (by kernel_rfl) (by kernel_rfl) (by kernel_rfl) rfl (fun _ _ h_ => R.mkf (cs := [_]) rfl rfl (TL.nil h_)) ?_
                obtain ⟨r47, er47⟩ : ∃ r, r = (slices_ContainsFunc_Id_m r17 ((fun z0 => windroselaw14_IndexKeys_1_m yl1 z0))) := ⟨_, rfl⟩
                refine Plan.v 14 [15, 16, 17, 18, 19, 20, 21, 22, 23, 24, 25, 26, 27] (by kernel_rfl) (by kernel_rfl) (by kernel_rfl) (by kernel_rfl) rfl (fun _ _ h_ => R.callv (v := .bool r47) rfl rfl rfl (by rw [er47]; exact slices_ContainsFunc_Id_c _ _ r17 (fF17_0_0_1.mono (s19.trans (sF19_0_0_2.trans (s_l1.trans sb5_3)))) _ (fun z0 => windroselaw14_IndexKeys_1_m yl1 z0) (fun H2 h2 z0 => windroselaw14_IndexKeys_1_c H2 b5 (yl1) (h2 _ _ hb5_3) z0) rfl) (TL.nil h_)) ?_
                refine Plan.v 15 [16, 17, 18, 19, 20, 21, 22, 23, 24, 25, 26, 27] (by kernel_rfl) (by kernel_rfl) (by kernel_rfl) (by kernel_rfl) rfl (fun _ _ h_ => R.not rfl rfl (TL.nil h_)) ?_
                refine Plan.v 16 [17, 18, 19, 20, 21, 22, 23, 24, 25, 26, 27] (by kernel_rfl) (by kernel_rfl) (by kernel_rfl) (by kernel_rfl) rfl (fun _ _ h_ => R.pkFE rfl rfl (by conv => lhs; whnf) (TL.nil h_)) ?_
                refine Plan.v 17 [18, 19, 20, 21, 22, 23, 24, 25, 26, 27] (by kernel_rfl) (by kernel_rfl) (by kernel_rfl) (by kernel_rfl) rfl (fun _ _ h_ => R.mvE rfl (by conv => lhs; whnf) (TL.nil h_)) ?_
                refine Plan.gsplit 50 rfl (fun g50 => ?_) (fun g50 => ?_)
                · refine Plan.v 18 [19, 20, 21, 22, 23, 24, 25, 26, 27] (by kernel_rfl) (by kernel_rfl) (by kernel_rfl) (by kernel_rfl) rfl (fun _ _ h_ => TL.off rfl rfl rfl (TL.nil h_)) ?_
                  refine Plan.v 19 [20, 21, 22, 23, 24, 25, 26, 27] (by kernel_rfl) (by kernel_rfl) (by kernel_rfl) (by kernel_rfl) rfl (fun _ _ h_ => TL.off rfl rfl rfl (TL.nil h_)) ?_
                  refine Plan.v 20 [21, 22, 23, 24, 25, 26, 27] (by kernel_rfl) (by kernel_rfl) (by kernel_rfl) (by kernel_rfl) rfl (fun _ _ h_ => TL.off rfl rfl rfl (TL.nil h_)) ?_
                  refine Plan.v 21 [22, 23, 24, 25, 26, 27] (by kernel_rfl) (by kernel_rfl) (by kernel_rfl) (by kernel_rfl) rfl (fun _ _ h_ => TL.off rfl rfl rfl (TL.nil h_)) ?_
                  refine Plan.v 22 [23, 24, 25, 26, 27] (by kernel_rfl) (by kernel_rfl) (by kernel_rfl) (by kernel_rfl) rfl (fun _ _ h_ => TL.offU rfl rfl (TL.nil h_)) ?_
                  refine Plan.v 23 [24, 25, 26, 27] (by kernel_rfl) (by kernel_rfl) (by kernel_rfl) (by kernel_rfl) rfl (fun _ _ h_ => TL.offU rfl rfl (TL.nil h_)) ?_
                  refine Plan.v 24 [25, 26, 27] (by kernel_rfl) (by kernel_rfl) (by kernel_rfl) (by kernel_rfl) rfl (fun _ _ h_ => TL.offU rfl rfl (TL.nil h_)) ?_
                  refine Plan.v 25 [26, 27] (by kernel_rfl) (by kernel_rfl) (by kernel_rfl) (by kernel_rfl) rfl (fun _ _ h_ => TL.offU rfl rfl (TL.nil h_)) ?_
                  refine Plan.v 26 [27] (by kernel_rfl) (by kernel_rfl) (by kernel_rfl) (by kernel_rfl) rfl (fun _ _ h_ => TL.off rfl rfl rfl (TL.nil h_)) ?_
                  refine Plan.v 27 [] (by kernel_rfl) (by kernel_rfl) (by kernel_rfl) (by kernel_rfl) rfl (fun _ _ h_ => R.pkTE rfl rfl (by conv => lhs; whnf) (TL.nil h_)) ?_
                  refine Plan.done (Post.thnN ?_)
                  exact ⟨true, HLe.refl _, ⟨Has.nil, (by subst er47; rw [if_neg g35, LR.seq_go, if_t g50])⟩, rfl, rfl, rfl, rfl, rfl, rfl, trivial⟩
                · refine Plan.v 18 [19, 20, 21, 22, 23, 24, 25, 26, 27] (by kernel_rfl) (by kernel_rfl) (by kernel_rfl) (by kernel_rfl) rfl (fun _ _ h_ => R.ldH Try.isAgg26 rfl rfl hb5_3 rfl (TL.nil h_)) ?_
                  refine Plan.v 19 [20, 21, 22, 23, 24, 25, 26, 27] (by kernel_rfl) (by kernel_rfl) (by kernel_rfl) (by kernel_rfl) rfl (fun _ _ h_ => R.callv rfl rfl rfl (kindG_c _ yl1) (TL.nil h_)) ?_
                  refine Plan.v 20 [21, 22, 23, 24, 25, 26, 27] (by kernel_rfl) (by kernel_rfl) (by kernel_rfl) (by kernel_rfl) rfl (fun _ _ h_ => R.neq rfl rfl rfl (TL.nil h_)) ?_
                  refine Plan.v 21 [22, 23, 24, 25, 26, 27] (by kernel_rfl) (by kernel_rfl) (by kernel_rfl) (by kernel_rfl) rfl (fun _ _ h_ => R.mvE rfl (by conv => lhs; whnf) (TL.nil h_)) ?_
                  refine Plan.gsplitD 54 rfl (fun g54 => ?_) (fun g54 => ?_)
                  · refine Plan.v 22 [23, 24, 25, 26, 27] (by kernel_rfl) (by kernel_rfl) (by kernel_rfl) (by kernel_rfl) rfl (fun _ _ h_ => R.mvE rfl (by conv => lhs; whnf) (TL.nil h_)) ?_
                    refine Plan.v 23 [24, 25, 26, 27] (by kernel_rfl) (by kernel_rfl) (by kernel_rfl) (by kernel_rfl) rfl (fun _ _ h_ => R.ldH Try.isAgg26 rfl rfl hb5_3 rfl (TL.nil h_)) ?_
                    refine Plan.v 24 [25, 26, 27] (by kernel_rfl) (by kernel_rfl) (by kernel_rfl) (by kernel_rfl) rfl (fun _ _ h_ => R.callv rfl rfl rfl (slices_Contains_Id_d _ _ r17 (fF17_0_0_1.mono (s19.trans (sF19_0_0_2.trans (s_l1.trans sb5_3)))) yl1) (TL.nil h_)) ?_
                    refine Plan.v 25 [26, 27] (by kernel_rfl) (by kernel_rfl) (by kernel_rfl) (by kernel_rfl) rfl (fun _ _ h_ => R.notD rfl rfl (TL.nil h_)) ?_
                    refine Plan.v 26 [27] (by kernel_rfl) (by kernel_rfl) (by kernel_rfl) (by kernel_rfl) rfl (fun _ _ h_ => R.pkTE rfl rfl (by conv => lhs; whnf) (TL.nil h_)) ?_
                    refine Plan.v 27 [] (by kernel_rfl) (by kernel_rfl) (by kernel_rfl) (by kernel_rfl) rfl (fun _ _ h_ => R.pkFE rfl rfl (by conv => lhs; whnf) (TL.nil h_)) ?_
                    refine Plan.done (Post.thnN ?_)
                    exact ⟨(decide (¬ (yl1 ∈ r17))), HLe.refl _, ⟨Has.nil, (by subst er47; rw [if_neg g35, LR.seq_go, if_f g50, if_pos g54])⟩, rfl, rfl, rfl, rfl, rfl, rfl, trivial⟩
                  · refine Plan.v 22 [23, 24, 25, 26, 27] (by kernel_rfl) (by kernel_rfl) (by kernel_rfl) (by kernel_rfl) rfl (fun _ _ h_ => TL.off rfl rfl rfl (TL.nil h_)) ?_
                    refine Plan.v 23 [24, 25, 26, 27] (by kernel_rfl) (by kernel_rfl) (by kernel_rfl) (by kernel_rfl) rfl (fun _ _ h_ => TL.off rfl rfl rfl (TL.nil h_)) ?_
                    refine Plan.v 24 [25, 26, 27] (by kernel_rfl) (by kernel_rfl) (by kernel_rfl) (by kernel_rfl) rfl (fun _ _ h_ => TL.off rfl rfl rfl (TL.nil h_)) ?_
                    refine Plan.v 25 [26, 27] (by kernel_rfl) (by kernel_rfl) (by kernel_rfl) (by kernel_rfl) rfl (fun _ _ h_ => TL.off rfl rfl rfl (TL.nil h_)) ?_
                    refine Plan.v 26 [27] (by kernel_rfl) (by kernel_rfl) (by kernel_rfl) (by kernel_rfl) rfl (fun _ _ h_ => R.pkFE rfl rfl (by conv => lhs; whnf) (TL.nil h_)) ?_
                    refine Plan.v 27 [] (by kernel_rfl) (by kernel_rfl) (by kernel_rfl) (by kernel_rfl) rfl (fun _ _ h_ => R.pkFE rfl rfl (by conv => lhs; whnf) (TL.nil h_)) ?_
                    refine Plan.done (Post.thnN ?_)
                    exact ⟨false, HLe.refl _, ⟨Has.nil, (by subst er47; rw [if_neg g35, LR.seq_go, if_f g50, if_neg g54])⟩, rfl, rfl, rfl, rfl, rfl, rfl, trivial⟩
            · intro b60c2 σ_c2 H_c2 L_c2 ds_c2 s_c2 hI_c2
              obtain ⟨hLc2, hTc2⟩ := hI_c2
              refine T.has hLc2 ?_
              refine T.cond rfl (fun c60 => ?_) (fun c60 => ?_)
              · refine T.set 60 (.bool true) (congrArg Value.bool c60) ?_
                have hZ60 := hTc2.trans c60
                try simp only [or_f, or_t, and_f, and_t, decide_eq_true_eq, decide_eq_false_iff_not, Bool.not_eq_true'] at hZ60
                refine T.seq ?_
                refine T.region ?_
                refine R.asE rfl (by conv => lhs; whnf) ?_
                refine TL.nil (Post.thnN ?_)
                refine T.has Has.nil ?_
                refine T.ret (Post.blkR (Post.thnR (Post.thnR (Post.blkR (Post.thnR ?_)))))
                have hXl1 : windroselaw14_IndexKeys_l1 r17 r19 r19 0 () = .ret false := by rw [← hQl1, drop_cons hyl1, windroselaw14_IndexKeys_l1]; rw [hTc2, LR.seq_go, if_t c60]
                have hM : windroselaw14_IndexKeys_m a0 = false := by subst er19; subst er17; rw [windroselaw14_IndexKeys_m, if_f c15, LR.seq_go, LR.seq_go, if_f c22, if_neg c25, hXl1, LR.on_ret]
                exact fin1L (v := .bool false) [] rfl rfl (List.Sublist.refl _) ⟨rfl, by first | rw [hM] | rfl⟩
              · refine T.set 60 (.bool false) (congrArg Value.bool c60) ?_
                have hZ60 := hTc2.trans c60
                try simp only [or_f, or_t, and_f, and_t, decide_eq_true_eq, decide_eq_false_iff_not, Bool.not_eq_true'] at hZ60
                refine T.skip (Post.blkN ?_)
                refine id (Post.thnN ?_)
                refine T.region ?_
                refine R.addI rfl rfl rfl (by omega) ?_
                refine R.mvE rfl (by conv => lhs; whnf) ?_
                refine TL.nil (Post.thnN ?_)
                exact ⟨kl1 + 1, (s_l1.trans (sb5_3.trans s_c2)), ⟨(by omega), Has.nil, (by rw [← hQl1, drop_cons hyl1, windroselaw14_IndexKeys_l1]; rw [hTc2, LR.seq_go, if_f c60])⟩, by show r19.length - (kl1 + 1) < r19.length - kl1; omega, rfl, rfl, rfl, rfl, rfl, trivial⟩
          · refine T.exit (Post.thnE (Post.thnE (Post.blkX ?_)))
            have hEl1 : windroselaw14_IndexKeys_l1 r17 r19 r19 0 () = .go () := (hQl1.symm.trans (by rw [show kl1 = r19.length by omega, List.drop_length, windroselaw14_IndexKeys_l1]))
            refine id (Post.thnN ?_)
            refine T.seq ?_
            refine T.seq ?_
            refine T.region ?_
            refine R.mvE rfl (by conv => lhs; whnf) ?_
            refine R.len Try.underlying22 rfl rfl ?_
            refine R.mvE rfl (by conv => lhs; whnf) ?_
            refine TL.nil (Post.thnN ?_)
            refine T.block ?_
            refine T.loop (ι := Nat) (fun kl3 H' L' ds' => kl3 ≤ r17.length ∧ Has L' [] ∧ windroselaw14_IndexKeys_l3 r19 (r17.drop kl3) () = windroselaw14_IndexKeys_l3 r19 r17 ()) (fun kl3 => [(64, .int .i64 (kl3 : Int)), (3, .slice A19_0_0 r19.length p19_0_0), (62, .slice A17_0_0 r17.length p17_0_0), (63, .int .i64 (r17.length : Int))]) (fun kl3 => r17.length - kl3) 0 ?_ ?_ ?_
            · exact ⟨(by omega), Has.nil, (by rfl)⟩
            · exact ⟨rfl, rfl, rfl, rfl, trivial⟩
            · intro kl3 σ_l3 H_l3 L_l3 ds_l3 s_l3 hI_l3
              obtain ⟨hkl3, hI_l3⟩ := hI_l3
              obtain ⟨hLl3, hQl3⟩ := hI_l3
              refine T.has hLl3 ?_
              refine T.seq ?_
              refine T.region ?_
              refine R.lss rfl rfl rfl ?_
              refine TL.nil (Post.thnN ?_)
              refine T.seq ?_
              refine T.condD rfl (fun c65 => ?_) (fun c65 => ?_)
              · have hltl3 : kl3 < r17.length := by omega
                obtain ⟨yl3, hyl3⟩ := getk (xs := r17) (k := kl3) (by omega)
                refine T.skip (Post.thnN ?_)
                refine T.seq ?_
                refine T.block ?_
                refine T.seq ?_
                refine T.region ?_
                obtain ⟨b66, o66, i66, k66⟩ := RdS.elem (fF17_0_0_1.mono (s19.trans (sF19_0_0_2.trans (s_l1.trans s_l3)))) hyl3
                obtain ⟨l66, g66, k66⟩ := k66
                obtain rfl : l66 = [.int .u64 yl3] := g66
                refine R.ixp Try.underlying22 Try.sizeOf26 rfl rfl rfl (by omega) i66 ?_
                refine R.ldC Try.isAgg26 rfl rfl (k66 0 _ rfl) ?_
                refine R.asE rfl (by conv => lhs; whnf) ?_
                refine TL.nil (Post.thnN ?_)
                refine T.seq ?_
                refine T.region ?_
                refine R.mvE rfl (by conv => lhs; whnf) ?_
                obtain ⟨r70, er70⟩ : ∃ r, r = (ident_Parts_m yl3) := ⟨_, rfl⟩
                refine R.callv (v := .tuple #[.int .i64 r70.1, .int .i64 r70.2]) rfl rfl rfl (by rw [er70]; exact ident_Parts_c _ (yl3)) ?_
                refine R.mvE rfl (by conv => lhs; whnf) ?_
                refine R.ext rfl rfl rfl ?_
                refine R.ext rfl rfl rfl ?_
                refine R.asE rfl (by conv => lhs; whnf) ?_
                refine R.asE rfl (by conv => lhs; whnf) ?_
                refine TL.nil (Post.thnN ?_)
                refine T.seq ?_
                refine T.seq ?_
                refine T.region ?_
                refine R.mvE rfl (by conv => lhs; whnf) ?_
                refine R.mvE rfl (by conv => lhs; whnf) ?_
                refine R.callv rfl rfl rfl (slices_Contains_Id_d _ _ r19 (fF19_0_0_2.mono (s_l1.trans s_l3)) yl3) ?_
                refine R.notD rfl rfl ?_
                refine TL.nil (Post.thnN ?_)
                refine T.condD rfl (fun c76 => ?_) (fun c76 => ?_)
                · refine T.set 76 (.bool true) (congrArg Value.bool (decide_eq_true c76)) ?_
                  refine T.seq ?_
                  refine T.region ?_
                  refine R.asE rfl (by conv => lhs; whnf) ?_
                  refine TL.nil (Post.thnN ?_)
                  refine T.has Has.nil ?_
                  refine T.ret (Post.thnR (Post.blkR (Post.thnR (Post.thnR (Post.blkR (Post.thnR ?_))))))
                  have hXl3 : windroselaw14_IndexKeys_l3 r19 r17 () = .ret false := by subst er70; rw [← hQl3, drop_cons hyl3, windroselaw14_IndexKeys_l3]; rw [LR.seq_go, if_pos c76]
                  have hM : windroselaw14_IndexKeys_m a0 = false := by subst er19; subst er17; rw [windroselaw14_IndexKeys_m, if_f c15, LR.seq_go, LR.seq_go, if_f c22, if_neg c25, hEl1, LR.on_go, hXl3, LR.on_ret]
                  exact fin1L (v := .bool false) [] rfl rfl (List.Sublist.refl _) ⟨rfl, by first | rw [hM] | rfl⟩
                · refine T.set 76 (.bool false) (congrArg Value.bool (decide_eq_false c76)) ?_
                  refine T.skip (Post.thnN ?_)
                  refine T.seq ?_
                  refine T.seq ?_
                  refine T.region ?_
                  refine R.mvE rfl (by conv => lhs; whnf) ?_
                  refine R.callv rfl rfl rfl (kindG_c _ yl3) ?_
                  refine R.neq rfl rfl rfl ?_
                  refine TL.nil (Post.thnN ?_)
                  refine T.condD rfl (fun c79 => ?_) (fun c79 => ?_)
                  · refine T.set 79 (.bool true) (congrArg Value.bool (decide_eq_true c79)) ?_
                    refine T.exit (Post.thnE (Post.blkX ?_))
                    refine id (Post.thnN ?_)
                    refine T.region ?_
                    refine R.addI rfl rfl rfl (by omega) ?_
                    refine R.mvE rfl (by conv => lhs; whnf) ?_
                    refine TL.nil (Post.thnN ?_)
                    exact ⟨kl3 + 1, s_l3, ⟨(by omega), Has.nil, (by subst er70; rw [← hQl3, drop_cons hyl3, windroselaw14_IndexKeys_l3]; rw [LR.seq_go, if_neg c76, if_pos c79])⟩, by show r17.length - (kl3 + 1) < r17.length - kl3; omega, rfl, rfl, rfl, rfl, trivial⟩
                  · refine T.set 79 (.bool false) (congrArg Value.bool (decide_eq_false c79)) ?_
                    refine T.skip (Post.thnN ?_)
                    refine T.seq ?_
                    refine T.region ?_
                    refine R.mvE rfl (by conv => lhs; whnf) ?_
                    refine R.bld (cs := [.int .i64 (r70.1), .int .i64 0]) rfl (fun _ => by kernel_rfl) ?_
                    refine R.mvE rfl (by conv => lhs; whnf) ?_
                    refine R.bld (cs := [.int .i64 0, .int .i64 (r70.2)]) rfl (fun _ => by kernel_rfl) ?_
                    refine R.bld (cs := [.int .i64 0, .int .i64 0]) rfl (fun _ => by kernel_rfl) ?_
                    refine R.bs (e := 62) (cs := [.int .i64 (r70.1), .int .i64 0, .int .i64 0, .int .i64 (r70.2), .int .i64 0, .int .i64 0]) rfl (fun _ => by kernel_rfl) ?_
                    intro b85
                    have w85 : OwnS pairE 62 H_l3 (.slice (some ⟨b85, 0, none⟩) 3 3) [((r70.1, 0) : Int × Int), ((0, r70.2) : Int × Int), ((0, 0) : Int × Int)] [(b85, .cells #[.int .i64 (r70.1), .int .i64 0, .int .i64 0, .int .i64 (r70.2), .int .i64 0, .int .i64 0] 62)] := OwnS.lit (xs := [((r70.1, 0) : Int × Int), ((0, r70.2) : Int × Int), ((0, 0) : Int × Int)]) (cellsOf_cons (a := [.int .i64 (r70.1), .int .i64 0]) rfl (cellsOf_cons (a := [.int .i64 0, .int .i64 (r70.2)]) rfl (cellsOf_cons (a := [.int .i64 0, .int .i64 0]) rfl cellsOf_nil))) (by show 3 ≤ maxLen; decide)
                    refine R.len Try.underlying63 rfl rfl ?_
                    refine R.mvE rfl (by conv => lhs; whnf) ?_
                    refine TL.nil (Post.thnN ?_)
                    refine T.block ?_
                    refine T.shut .hd ?_
                    intro HF85_4 sF85_4 qF85_4
                    have fF85_4 := OwnS.read w85 sF85_4 qF85_4
                    refine T.loop (ι := Nat) (fun kl4 H' L' ds' => kl4 ≤ 3 ∧ Has L' [] ∧ windroselaw14_IndexKeys_l4 r19 (([((r70.1, 0) : Int × Int), ((0, r70.2) : Int × Int), ((0, 0) : Int × Int)]).drop kl4) () = windroselaw14_IndexKeys_l4 r19 ([((r70.1, 0) : Int × Int), ((0, r70.2) : Int × Int), ((0, 0) : Int × Int)]) ()) (fun kl4 => [(87, .int .i64 (kl4 : Int)), (3, .slice A19_0_0 r19.length p19_0_0), (62, .slice A17_0_0 r17.length p17_0_0), (63, .int .i64 (r17.length : Int)), (64, .int .i64 (kl3 : Int)), (85, .slice (some ⟨b85, 0, none⟩) 3 3), (86, .int .i64 3)]) (fun kl4 => 3 - kl4) 0 ?_ ?_ ?_
                    · exact ⟨(by omega), Has.nil, (by rfl)⟩
                    · exact ⟨rfl, rfl, rfl, rfl, rfl, rfl, rfl, trivial⟩
                    · intro kl4 σ_l4 H_l4 L_l4 ds_l4 s_l4 hI_l4
                      obtain ⟨hkl4, hI_l4⟩ := hI_l4
                      obtain ⟨hLl4, hQl4⟩ := hI_l4
                      refine T.has hLl4 ?_
                      refine T.seq ?_
                      refine T.region ?_
                      refine R.lss rfl rfl rfl ?_
                      refine TL.nil (Post.thnN ?_)
                      refine T.seq ?_
                      refine T.condD rfl (fun c88 => ?_) (fun c88 => ?_)
                      · have hltl4 : kl4 < 3 := by omega
                        obtain ⟨yl4, hyl4⟩ := getk (xs := [((r70.1, 0) : Int × Int), ((0, r70.2) : Int × Int), ((0, 0) : Int × Int)]) (k := kl4) (by omega)
                        refine T.skip (Post.thnN ?_)
                        refine T.seq ?_
                        refine T.block ?_
                        refine T.seq ?_
                        refine T.region ?_
                        obtain ⟨b89, o89, i89, k89⟩ := RdS.elem (fF85_4.mono s_l4) hyl4
                        obtain ⟨l89, g89, k89⟩ := k89
                        obtain rfl : l89 = [.int .i64 (yl4.1), .int .i64 (yl4.2)] := g89
                        refine R.ixp Try.underlying63 Try.sizeOf62 rfl rfl rfl (by omega) i89 ?_
                        refine R.ldK (l := [.int .i64 (yl4.1), .int .i64 (yl4.2)]) Try.isAgg62 Try.sizeOf62 rfl rfl k89 rfl ?_
                        refine R.alloc Try.zeroValue62 rfl ?_
                        intro b11
                        refine R.stX (old := [.int .i64 0, .int .i64 0]) (l := [.int .i64 (yl4.1), .int .i64 (yl4.2)]) (new := [.int .i64 (yl4.1), .int .i64 (yl4.2)]) (et := 62) Try.sizeOf62 rfl rfl rfl rfl rfl (by show 0 + 2 ≤ 2; decide) rfl (all_one rfl) .hd ?_
                        refine TL.shut .hd ?_
                        intro Hb11_5 sb11_5 qb11_5
                        have hb11_5 : Hb11_5 b11 = some (.cells #[.int .i64 (yl4.1), .int .i64 (yl4.2)] 62) := shut1 qb11_5
                        refine TL.nil (Post.thnN ?_)
                        refine T.seq ?_
                        refine T.region ?_
                        refine R.ixA Try.underlying62 Try.sizeOf3 rfl rfl rfl (by decide) (by decide) ?_
                        refine R.ldH Try.isAgg3 rfl rfl hb11_5 rfl ?_
                        refine R.ixA Try.underlying62 Try.sizeOf3 rfl rfl rfl (by decide) (by decide) ?_
                        refine R.ldH Try.isAgg3 rfl rfl hb11_5 rfl ?_
                        obtain ⟨r96, er96⟩ : ∃ r, r = (ident_Pair_m yl4.1 yl4.2) := ⟨_, rfl⟩
                        refine R.callv (v := .tuple #[.int .u64 r96.1, .int .i64 r96.2]) rfl rfl rfl (by rw [er96]; exact ident_Pair_c _ (yl4.1) (yl4.2)) ?_
                        refine R.mvE rfl (by conv => lhs; whnf) ?_
                        refine R.ext rfl rfl rfl ?_
                        refine R.ext rfl rfl rfl ?_
                        refine R.asE rfl (by conv => lhs; whnf) ?_
                        refine R.asE rfl (by conv => lhs; whnf) ?_
                        refine TL.nil (Post.thnN ?_)
                        refine T.seq ?_
                        refine T.cutK (ι := Bool) (fun b106c5 H' L' ds' => Has L' [] ∧ (if r96.2 ≠ 0 then true else ((decide (¬ (r96.1 ∈ r19)))) : Bool) = b106c5) (fun b106c5 => [(3, .slice A19_0_0 r19.length p19_0_0), (62, .slice A17_0_0 r17.length p17_0_0), (63, .int .i64 (r17.length : Int)), (64, .int .i64 (kl3 : Int)), (85, .slice (some ⟨b85, 0, none⟩) 3 3), (86, .int .i64 3), (87, .int .i64 (kl4 : Int)), (106, .bool (b106c5))]) ?_ ?_
                        · refine T.region ?_
                          refine R.mvE rfl (by conv => lhs; whnf) ?_
                          refine R.neq rfl rfl rfl ?_
                          refine R.mvE rfl (by conv => lhs; whnf) ?_
                          refine TL.gsplitD 101 rfl (fun g101 => ?_) (fun g101 => ?_)
                          · refine TL.off rfl rfl rfl ?_
                            refine TL.off rfl rfl rfl ?_
                            refine TL.off rfl rfl rfl ?_
                            refine TL.off rfl rfl rfl ?_
                            refine R.pkTE rfl rfl (by conv => lhs; whnf) ?_
                            refine TL.nil (Post.thnN ?_)
                            exact ⟨true, HLe.refl _, ⟨Has.nil, (by rw [if_pos g101])⟩, rfl, rfl, rfl, rfl, rfl, rfl, rfl, rfl, trivial⟩
                          · refine R.mvE rfl (by conv => lhs; whnf) ?_
                            refine R.mvE rfl (by conv => lhs; whnf) ?_
                            refine R.callv rfl rfl rfl (slices_Contains_Id_d _ _ r19 (fF19_0_0_2.mono (s_l1.trans (s_l3.trans (sF85_4.trans (s_l4.trans sb11_5))))) r96.1) ?_
                            refine R.notD rfl rfl ?_
                            refine R.pkFE rfl rfl (by conv => lhs; whnf) ?_
                            refine TL.nil (Post.thnN ?_)
                            exact ⟨(decide (¬ (r96.1 ∈ r19))), HLe.refl _, ⟨Has.nil, (by rw [if_neg g101])⟩, rfl, rfl, rfl, rfl, rfl, rfl, rfl, rfl, trivial⟩
                        · intro b106c5 σ_c5 H_c5 L_c5 ds_c5 s_c5 hI_c5
                          obtain ⟨hLc5, hTc5⟩ := hI_c5
                          refine T.has hLc5 ?_
                          refine T.cond rfl (fun c106 => ?_) (fun c106 => ?_)
                          · refine T.set 106 (.bool true) (congrArg Value.bool c106) ?_
                            have hZ106 := hTc5.trans c106
                            try simp only [or_f, or_t, and_f, and_t, decide_eq_true_eq, decide_eq_false_iff_not, Bool.not_eq_true'] at hZ106
                            refine T.seq ?_
                            refine T.region ?_
                            refine R.asE rfl (by conv => lhs; whnf) ?_
                            refine TL.nil (Post.thnN ?_)
                            refine T.has Has.nil ?_
                            refine T.ret (Post.blkR (Post.thnR (Post.thnR (Post.blkR (Post.blkR (Post.thnR (Post.thnR (Post.blkR (Post.thnR ?_)))))))))
                            have hXl4 : windroselaw14_IndexKeys_l4 r19 ([((r70.1, 0) : Int × Int), ((0, r70.2) : Int × Int), ((0, 0) : Int × Int)]) () = .ret (.ret false) := by subst er96; rw [← hQl4, drop_cons hyl4, windroselaw14_IndexKeys_l4]; rw [LR.seq_go, hTc5, LR.seq_go, if_t c106]
                            have hXl3 : windroselaw14_IndexKeys_l3 r19 r17 () = .ret false := by subst er70; rw [← hQl3, drop_cons hyl3, windroselaw14_IndexKeys_l3]; rw [LR.seq_go, if_neg c76, if_neg c79, hXl4, LR.on_ret]
                            have hM : windroselaw14_IndexKeys_m a0 = false := by subst er19; subst er17; rw [windroselaw14_IndexKeys_m, if_f c15, LR.seq_go, LR.seq_go, if_f c22, if_neg c25, hEl1, LR.on_go, hXl3, LR.on_ret]
                            exact fin1L (v := .bool false) [] rfl rfl (List.Sublist.refl _) ⟨rfl, by first | rw [hM] | rfl⟩
                          · refine T.set 106 (.bool false) (congrArg Value.bool c106) ?_
                            have hZ106 := hTc5.trans c106
                            try simp only [or_f, or_t, and_f, and_t, decide_eq_true_eq, decide_eq_false_iff_not, Bool.not_eq_true'] at hZ106
                            refine T.skip (Post.blkN ?_)
                            refine id (Post.thnN ?_)
                            refine T.region ?_
                            refine R.addI rfl rfl rfl (by omega) ?_
                            refine R.mvE rfl (by conv => lhs; whnf) ?_
                            refine TL.nil (Post.thnN ?_)
                            exact ⟨kl4 + 1, (s_l4.trans (sb11_5.trans s_c5)), ⟨(by omega), Has.nil, (by subst er96; rw [← hQl4, drop_cons hyl4, windroselaw14_IndexKeys_l4]; rw [LR.seq_go, hTc5, LR.seq_go, if_f c106])⟩, by show 3 - (kl4 + 1) < 3 - kl4; omega, rfl, rfl, rfl, rfl, rfl, rfl, rfl, trivial⟩
                      · refine T.exit (Post.thnE (Post.thnE (Post.blkX ?_)))
                        have hEl4 : windroselaw14_IndexKeys_l4 r19 ([((r70.1, 0) : Int × Int), ((0, r70.2) : Int × Int), ((0, 0) : Int × Int)]) () = .go () := (hQl4.symm.trans (by rw [show List.drop kl4 ([((r70.1, 0) : Int × Int), ((0, r70.2) : Int × Int), ((0, 0) : Int × Int)]) = [] from List.drop_eq_nil_iff.2 (by simp; omega), windroselaw14_IndexKeys_l4]))
                        refine id (Post.blkN ?_)
                        refine id (Post.thnN ?_)
                        refine T.region ?_
                        refine R.addI rfl rfl rfl (by omega) ?_
                        refine R.mvE rfl (by conv => lhs; whnf) ?_
                        refine TL.nil (Post.thnN ?_)
                        exact ⟨kl3 + 1, (s_l3.trans (sF85_4.trans s_l4)), ⟨(by omega), Has.nil, (by subst er70; rw [← hQl3, drop_cons hyl3, windroselaw14_IndexKeys_l3]; rw [LR.seq_go, if_neg c76, if_neg c79, hEl4, LR.on_go])⟩, by show r17.length - (kl3 + 1) < r17.length - kl3; omega, rfl, rfl, rfl, rfl, trivial⟩
              · refine T.exit (Post.thnE (Post.thnE (Post.blkX ?_)))
                have hEl3 : windroselaw14_IndexKeys_l3 r19 r17 () = .go () := (hQl3.symm.trans (by rw [show kl3 = r17.length by omega, List.drop_length, windroselaw14_IndexKeys_l3]))
                refine id (Post.thnN ?_)
                refine T.seq ?_
                refine T.region ?_
                refine R.asE rfl (by conv => lhs; whnf) ?_
                refine TL.nil (Post.thnN ?_)
                refine T.has Has.nil ?_
                refine T.ret ?_
                have hM : windroselaw14_IndexKeys_m a0 = true := by subst er19; subst er17; rw [windroselaw14_IndexKeys_m, if_f c15, LR.seq_go, LR.seq_go, if_f c22, if_neg c25, hEl1, LR.on_go, hEl3, LR.on_go]
                exact fin1L (v := .bool true) [] rfl rfl (List.Sublist.refl _) ⟨rfl, by first | rw [hM] | rfl⟩

end Go.SX

set_option linter.unusedVariables false
set_option linter.unusedSimpArgs false
namespace Go.SX
open Go
theorem less_Id (x y : Int) : cmp_Less_Id_m x y = decide (x < y) := by
  unfold cmp_Less_Id_m cmp_isNaN_Id_m
  simp
theorem isSortedId_l1 {a : List Int} (hs : a.Pairwise (· < ·)) : ∀ (m : Nat) (i : Int), i < (a.length : Int) → ∃ r, slices_IsSorted_Id_l1 a m i = .go r
  | 0, i, h => ⟨_, rfl⟩
  | m + 1, i, h => by
    rw [slices_IsSorted_Id_l1]
    by_cases c : (0 : Int) < i
    · rw [if_pos c, less_Id, if_neg]
      · exact isSortedId_l1 hs m (i - 1) (by omega)
      · rw [decide_eq_true_eq]
        have h1 : i.toNat < a.length := by omega
        have h2 : (i - 1).toNat < a.length := by omega
        rw [List.getD_eq_getElem?_getD, List.getD_eq_getElem?_getD, List.getElem?_eq_getElem h1, List.getElem?_eq_getElem h2]
        have := (List.pairwise_iff_getElem.1 hs) (i - 1).toNat i.toNat h2 h1 (by omega)
        simp only [Option.getD_some]; omega
    · rw [if_neg c]; exact ⟨i, rfl⟩
theorem isSortedId_true {a : List Int} (hs : a.Pairwise (· < ·)) : slices_IsSorted_Id_m a = true := by
  unfold slices_IsSorted_Id_m
  obtain ⟨r, e⟩ := isSortedId_l1 hs (((a.length : Int) - 1).toNat + 1) ((a.length : Int) - 1) (by omega)
  rw [e, LR.on_go]
theorem containsF_Id {l : List Int} {p : Int → Bool} {y : Int} (hy : y ∈ l) (hp : p y = true) : slices_ContainsFunc_Id_m l p = true := by
  unfold slices_ContainsFunc_Id_m
  rcases idxf_Id l p with ⟨j, h1, _⟩ | ⟨_, h2⟩
  · rw [h1]; exact decide_eq_true (by omega)
  · rw [h2 y hy] at hp; cases hp
theorem takes_self {y : Int} (hu : U y) (h : kindI y = 2 ∨ kindI y = 3) : ident_Takes_m y y = true := by
  unfold ident_Takes_m
  rw [kind_i hu, if_pos (by omega), if_pos rfl]
  exact decide_eq_true (by omega)
theorem ik_l1 (l K : List Int) (hK : K.Pairwise (· < ·)) : ∀ (xs : List Int) (k : Nat), (∀ i y, xs[i]? = some y → K[k + i]? = some y) →
    (∀ x ∈ xs, (∃ y ∈ l, ident_Takes_m x y = true) ∧ (kindG x ≠ 4 → x ∈ l)) → windroselaw14_IndexKeys_l1 l K xs k () = .go ()
  | [], _, _, _ => rfl
  | y :: ys, k, h1, h2 => by
    obtain ⟨⟨z, hz, ht⟩, h4⟩ := h2 y (List.mem_cons_self ..)
    have hc : slices_ContainsFunc_Id_m l (fun z0 => windroselaw14_IndexKeys_1_m y z0) = true := containsF_Id hz ht
    have hrest : (if (!true) = true then true else (if kindG y ≠ 4 then decide (¬ (y ∈ l)) else false)) = false := by
      rw [Bool.not_true, if_neg Bool.false_ne_true]
      by_cases e : kindG y = 4
      · rw [if_neg (fun q => q e)]
      · rw [if_pos e]; exact decide_eq_false (fun q => q (h4 e))
    have ih := ik_l1 l K hK ys (k + 1) (fun i z hz => by rw [show k + 1 + i = k + (i + 1) by omega]; exact h1 (i + 1) z hz) (fun x hx => h2 x (List.mem_cons_of_mem _ hx))
    rw [windroselaw14_IndexKeys_l1, hc]
    simp only [LR.seq_go]
    by_cases hk : (0 : Int) < (k : Int)
    · rw [if_pos hk]
      have hy : K[k]? = some y := h1 0 y rfl
      have hklt := (List.getElem?_eq_some_iff.1 hy).1
      have hne : K.getD (((k : Int) - 1).toNat) 0 ≠ y := by
        rw [show ((k : Int) - 1).toNat = k - 1 by omega, List.getD_eq_getElem?_getD, List.getElem?_eq_getElem (by omega : k - 1 < K.length), Option.getD_some]
        have := (List.pairwise_iff_getElem.1 hK) (k - 1) k (by omega) hklt (by omega)
        have e := (List.getElem?_eq_some_iff.1 hy).2
        omega
      rw [if_neg hne, hrest, if_neg Bool.false_ne_true, ih]
    · rw [if_neg hk, hrest, if_neg Bool.false_ne_true, ih]
theorem ik_l4 (K : List Int) : ∀ (ps : List (Int × Int)), (∀ p ∈ ps, (ident_Pair_m p.1 p.2).2 = 0 ∧ (ident_Pair_m p.1 p.2).1 ∈ K) → windroselaw14_IndexKeys_l4 K ps () = .go ()
  | [], _ => rfl
  | p :: ps, h => by
    obtain ⟨h1, h2⟩ := h p (List.mem_cons_self ..)
    rw [windroselaw14_IndexKeys_l4]
    simp only [LR.seq_go]
    have e : (if (ident_Pair_m p.1 p.2).2 ≠ 0 then true else decide (¬ ((ident_Pair_m p.1 p.2).1 ∈ K))) = false := by
      rw [if_neg (fun q => q h1)]; exact decide_eq_false (fun q => q h2)
    rw [e, if_neg Bool.false_ne_true]
    exact ik_l4 K ps (fun q hq => h q (List.mem_cons_of_mem _ hq))
theorem ik_l3 (K : List Int) : ∀ (l : List Int), (∀ y ∈ l, U y ∧ y ∈ K ∧ (kindI y = 3 → ∀ x ∈ pats y, x ∈ K)) → windroselaw14_IndexKeys_l3 K l () = .go ()
  | [], _ => rfl
  | y :: ys, h => by
    obtain ⟨h1, h2, h3⟩ := h y (List.mem_cons_self ..)
    have ih := ik_l3 K ys (fun z hz => h z (List.mem_cons_of_mem _ hz))
    rw [windroselaw14_IndexKeys_l3]
    simp only [LR.seq_go]
    rw [if_neg (fun q => q h2), kind_i h1]
    by_cases e : kindI y = 3
    · rw [if_neg (fun q => q e), parts_pair h1 e, ik_l4 K _ ?_, LR.on_go, ih]
      obtain ⟨g1, g2, g3⟩ := (kind_pair h1).1 e
      have hp := h3 e
      simp only [pats, List.mem_cons, List.not_mem_nil, or_false] at hp
      intro p hpm
      simp only [List.mem_cons, List.not_mem_nil, or_false] at hpm
      rcases hpm with rfl | rfl | rfl
      · rw [pair_ok (by omega) (by omega)]; exact ⟨rfl, hp _ (.inl rfl)⟩
      · rw [pair_ok (by omega) (by omega)]; exact ⟨rfl, hp _ (.inr (.inl rfl))⟩
      · rw [pair_ok (by omega) (by omega)]; exact ⟨rfl, hp _ (.inr (.inr rfl))⟩
    · rw [if_pos e, ih]
theorem indexKeys_true (a0 : List Int) (hu : ∀ x ∈ a0, U x) : windroselaw14_IndexKeys_m a0 = true := by
  unfold windroselaw14_IndexKeys_m
  rw [w14_true, Bool.not_true, if_neg Bool.false_ne_true]
  simp only [LR.seq_go]
  have hu' : ∀ x ∈ windroselaw14_few_m a0, U x := fun x hx => hu x (by simp only [windroselaw14_few_m] at hx; exact List.mem_of_mem_take hx)
  generalize windroselaw14_few_m a0 = l at *
  rw [isSortedId_true (Keys_up l), Bool.not_true, if_neg Bool.false_ne_true]
  by_cases hz : ((index_Keys_m l).length : Int) = 0
  · rw [if_pos hz]
  rw [if_neg hz]
  by_cases hc : types_Check_m l = 0
  rotate_left
  · rw [Keys_none hc] at hz; exact absurd rfl hz
  obtain ⟨hlen, hup, hmay⟩ := tcheck_ok hc
  have hmem := Keys_mem hc hu'
  rw [ik_l1 l _ (Keys_up l) _ 0 (fun i y h => by rw [Nat.zero_add]; exact h) (fun x hx => ?_), LR.on_go, ik_l3 _ l (fun y hy => ⟨hu' y hy, (hmem y).2 ⟨y, hy, .inl rfl⟩, fun e x hx => (hmem x).2 ⟨y, hy, .inr ⟨e, hx⟩⟩⟩), LR.on_go]
  obtain ⟨y, hy, q⟩ := (hmem x).1 hx
  rcases q with rfl | ⟨e, q⟩
  · exact ⟨⟨x, hy, takes_self (hu' x hy) (may_kind (hu' x hy) (hmay x hy))⟩, fun _ => hy⟩
  · obtain ⟨k4, ux⟩ := pats_kind (hu' y hy) e q
    exact ⟨⟨y, hy, pats_takes (hu' y hy) e q⟩, fun g => by rw [kind_i ux] at g; exact absurd k4 g⟩
end Go.SX

set_option linter.unusedVariables false
set_option linter.unusedSimpArgs false
namespace Go.SX
open Go Go.ChangeShapes Go.WideShapes Go.ChangeAt Go.RowKit

/-- All that stands in a world's memory can be read. -/
def heapOf (W : World) : Heap := fun b => W.heap[b]?
theorem sat_heapOf (W : World) : Sat (heapOf W) [] W := ⟨fun _ _ h => h, fun p h => (by cases h), List.nodup_nil, fun p h => (by cases h)⟩

/-- A contract of a function that hands back v, at a world. -/
theorem calls_of_Fv {P : Program} {f : FuncId} {fn : Func} {c : Code} {vs : List Value} {v : Value} {W : World} (hf : P.funcs[f]? = some fn) (hb : fn.body = some c) (hname : (fn.name == "runtime.NumGoroutine") = false)
    (h : Fv P (fnv f) vs (heapOf W) v) : Calls P f vs.toArray W fun e W' => e = .returned v ∧ Below W.heap.size W W' := by
  obtain ⟨nx, w1, h1, h2⟩ := h W (sat_heapOf W)
  have he := Go.Proofs.enters_of (P := P) hf hname hb vs.toArray W
  have hrun : Sem.run P (do let d ← Deferred.ofValue (fnv f) vs.toArray; invoke d.target d.args) W = .ok (.enter f vs.toArray) W := by
    simp [Deferred.ofValue, invoke, he]
  rw [hrun] at h1
  injection h1 with h1 h3
  subst h1; subst h3
  refine callsIn_wide.1 (CallsIn.mono h2 ?_)
  rintro e w' ⟨u, H', L', rfl, hst, rfl, rfl⟩
  exact ⟨rfl, hst.chg.os, hst.chg.tape, hst.chg.output, hst.chg.size, fun b hb => hst.chg.same b hb (by simp [keys])⟩

section
variable {H : Type} {enc : TypeId × Value → H} {P : Program}

theorem trodAll_below (hl : laidOutB P = true) {W W' : World} (hb : Below W.heap.size W W') {sp : Nat → Bool} : ∀ {ts : List TypeId} {vs : List Value} {ds : List (DataW H)} {p : List MemPlace},
    (∀ t ∈ ts, P.readableRec t = true ∧ t < P.types.size) → DataW.TrodAll enc P W 0 (fun _ => true) true ts vs ds p → (∀ q ∈ p, q.block < W.heap.size ∧ sp q.block = true) → DataW.TrodAll enc P W' 0 sp true ts vs ds p
  | [], _, _, _, _, h, _ => by
    obtain ⟨rfl, rfl, rfl⟩ := trodAll_nil h
    exact trodAll_mk0
  | t :: ts, _, _, _, ht, h, hp => by
    obtain ⟨v, vs, d, ds, a, b, rfl, rfl, rfl, h1, h2⟩ := trodAll_cons h
    have h3 := WideElems.Trod_stays (sp' := sp) hl (ht t (List.mem_cons_self ..)).1 (ht t (List.mem_cons_self ..)).2 h1 (fun x hx => hb.same (hp x (List.mem_append_left _ hx)).1) (fun x hx => (hp x (List.mem_append_left _ hx)).2)
    exact ⟨a, b, h3, trodAll_below hl hb (fun t' h' => ht t' (List.mem_cons_of_mem _ h')) h2 (fun x hx => hp x (List.mem_append_right _ hx)), rfl⟩

/-- What is asked behind a call that turned nothing of what there was, and says true. -/
theorem post_true {f : Func} {s : ChangeSpec} {fresh handsOn again : Bool} {W W' : World} {args : Array Value} {ds gs : List (DataW H)} {before : List MemPlace} {tb : TypeId} (hl : laidOutB P = true)
    (hW : DataW.Whole enc P f.params.toList s.vars false W args.toList ds gs before) (hvars : s.vars = []) (hpar : ∀ t ∈ f.params.toList, P.readableRec t = true ∧ t < P.types.size)
    (hs : s.fn H (ds ++ gs) = { results := [.lit (.bool true)], args := ds }) (hrt : f.resultTypes = #[tb]) (htb : P.underlying tb = some .bool) (hb : Below W.heap.size W W') :
    s.post enc P f false fresh handsOn again W args (.bool true) W' := by
  have hlt := hW.lt
  have hW0 := hW
  obtain ⟨p, q, hA, hV, rfl, hfz, hnd⟩ := hW
  rw [hvars] at hV
  obtain ⟨rfl, rfl⟩ := trodVars_none hV
  rw [List.append_nil] at hfz hlt
  have hres : ∀ (b : Nat) (sp : Nat → Bool) (hd : Bool), DataW.TrodAll enc P W' b sp hd f.resultTypes.toList ((Value.bool true).resultList f.resultTypes.size) [.lit (.bool true)] [] := by
    intro b sp hd
    rw [hrt]
    exact trodAll_mk1 (shut_bool htb true)
  have hargs : ∀ sp : Nat → Bool, (∀ x ∈ p, sp x.block = true) → DataW.TrodAll enc P W' 0 sp true f.params.toList args.toList ds p := fun sp hsp =>
    trodAll_below hl hb hpar hA (fun x hx => ⟨hlt x hx, hsp x hx⟩)
  have hvr : ∀ sp : Nat → Bool, DataW.TrodVars enc P W' sp s.vars ([] : List (DataW H)) [] := fun sp => by rw [hvars]; rfl
  refine ⟨ds, [], p ++ [], [], p, [], hW0, ?_, ?_, ?_, World.keptBut_mono (fun x hx => ⟨hx, ?_⟩) (hb.frame (· ∈ p ++ [])), fun _ => ?_⟩
  · rw [hs]; exact hres _ _ _
  · rw [hs]; exact hargs _ (fun x hx => by simpa using hlt x hx)
  · rw [hs]; exact hvr _
  · exact Or.inr (by simpa using hx)
  · refine ⟨ok_one hrt rfl (okWide_bool_mk htb true), _, _, ([] ++ p) ++ [], ⟨[] ++ p, [], trodAll_append (hargs _ (fun _ _ => rfl)) (hres _ _ _), hvr _, rfl, ?_, fun h => by cases h⟩, ?_⟩
    · intro b off hp
      have hp' : MemPlace.cell b off ∈ p := by simpa using hp
      have := hb.frozen (p := ⟨b, off, none⟩) (hlt _ hp')
      rw [this]
      exact hfz b off hp'
    · intro x hx _
      simpa using hx

theorem cellAt_heapOf {W : World} {b o : Nat} {v : Value} (h : W.cell? ⟨b, o, none⟩ = some v) : cellAt (heapOf W) b o = some v := by
  unfold World.cell? at h
  unfold cellAt heapOf
  simp only at h
  revert h
  cases hb : W.heap[b]? with
  | none => intro h; simp at h
  | some ob => cases ob <;> intro h <;> simp_all

/-- A slice of ints that is handed in. -/
theorem open_rd {t e : TypeId} {k : IntKind} {W : World} {r : Reach} {b0 : Nat} {v : Value} {d : DataW H} {p : List MemPlace} (ht : P.underlying t = some (.slice e)) (he : P.underlying e = some (.int k)) (hc : P.cellsOf e = 1)
    (hval : Value.okWide P W r b0 t v) (h : DataW.Trod enc P W 0 (fun _ => true) true t v d p) : ∃ xs : List Int, RdS (intE k) (heapOf W) v xs ∧ ∀ x ∈ xs, (Lit.int k x).wf = true := by
  obtain ⟨a0, len, cap, rfl⟩ := okWide_slice ht hval
  obtain ⟨fuel, hf⟩ := h
  rcases open_ints ht he hc hf with ⟨hcs, hx⟩ | ⟨a, len', cap', zs, hcs, _, hl, hm, hz, hx, hcell, hwz⟩
  · have : (Value.slice a0 len cap) = .slice none 0 0 := by simpa [Value.cells] using hcs
    rw [this]
    exact ⟨[], RdS.nil, fun x hx => by simp at hx⟩
  · have e1 : (Value.slice a0 len cap) = .slice (some a) len' cap' := by simpa [Value.cells] using hcs
    rw [e1]
    have hzl : zs.length = cap' := by simpa using hz
    have hlen : (zs.take len').length = len' := by simp; omega
    refine ⟨zs.take len', ⟨some a, cap', by rw [hlen], by omega, hm, fun i x hx => ?_⟩, fun x hx => hwz x (List.mem_of_mem_take hx)⟩
    have hi : i < len' := by rw [← hlen]; exact (List.getElem?_eq_some_iff.1 hx).1
    rw [List.getElem?_take_of_lt hi] at hx
    have h1 := hcell i (by omega)
    have h2 : zs.getD i 0 = x := by rw [List.getD_eq_getElem?_getD, hx]; rfl
    rw [h2] at h1
    obtain ⟨ab, ao, asp⟩ := a
    cases asp with
    | none =>
      refine ⟨ab, ao, rfl, [.int k x], rfl, fun j u hj => ?_⟩
      have hj0 : j = 0 := by have := (List.getElem?_eq_some_iff.1 hj).1; simpa using this
      subst hj0
      simp at hj
      subst hj
      rw [Addr.add_lit] at h1
      have := cellAt_heapOf h1
      simpa [intE] using this
    | some s =>
      have h0 := hcell 0 (by omega)
      rw [Addr.add_zero'] at h0
      unfold World.cell? at h0
      revert h0
      cases hb : W.heap[ab]? with
      | none => intro h0; simp [hb] at h0
      | some ob => cases ob <;> intro h0 <;> simp [hb] at h0
end
theorem u_of_wf {x : Int} (h : (Lit.int .u64 x).wf = true) : 0 ≤ x ∧ x < 18446744073709551616 := by
  simp [Lit.wf, IntKind.min, IntKind.max, IntKind.signed, IntKind.bits] at h; omega
end Go.SX

set_option linter.unusedVariables false
namespace Go.Proofs.Ytmigaagkfglabaa
open Go.ChangeShapes Go.WideShapes Go.ChangeAt Go.RowKit Go.SX

theorem indexKeys_own : ownKnob Try.prog.godebug = none := by kernel_rfl
theorem indexKeys_laid : laidOutB Try.prog = true := by kernel_rfl

set_option maxRecDepth 100000 in
theorem indexKeys_lifted (os : Os) (started : os.Started) (H : Type) (enc : TypeId × Value → H) :
    ReturnsInHanded {} Try.checked os 6 .any (Rows.indexKeysSpec.pre6 enc Try.prog Try.f6 Rows.indexKeysRow.domain false) (Rows.indexKeysSpec.post enc Try.prog Try.f6 false true false false) := by
  refine returnsInHanded_of_change (C := Try.checked) indexKeys_own started (by kernel_rfl) Try.func6
    (ChangeSpec.witness6 (enc := enc) (C := Try.checked) false ⟨#[], #[.slice none 0 0], []⟩ 8 (by kernel_rfl) (by kernel_rfl) (by kernel_rfl) (by kernel_rfl)) ?_
  intro W base args ds gs before hval0 hW hcnd _
  have hval : ∀ (j : Nat) t v, Try.f6.params[j]? = some t → args[j]? = some v → Value.okWide Try.prog W .any base t v := hval0
  have hW' := hW
  obtain ⟨p, q, hA0, hV, rfl, hfz, hnd⟩ := hW
  have hA : DataW.TrodAll enc Try.prog W 0 (fun _ => true) true Try.f6.params.toList args.toList ds p := hA0
  rw [Try.params6] at hA hval
  clear hA0 hval0
  obtain ⟨v0, vs0, d0, ds0, p0, q0, e0, rfl, rfl, h0, r0⟩ := trodAll_cons hA
  obtain ⟨e1, rfl, rfl⟩ := trodAll_nil r0
  subst e1
  obtain rfl : args = #[v0] := by cases args; simp_all
  obtain ⟨rfl, rfl⟩ := trodVars_none hV
  obtain ⟨xs0, hr0, hw0⟩ := open_rd Try.underlying22 Try.underlying26 (by kernel_rfl) (hval 0 22 v0 rfl rfl) h0
  have hpar : ∀ t ∈ Try.f6.params.toList, Try.prog.readableRec t = true ∧ t < Try.prog.types.size := by
    intro t ht
    rw [Try.params6] at ht
    simp only [List.mem_cons, List.not_mem_nil, or_false] at ht
    subst ht
    · exact ⟨by kernel_rfl, of_decide_eq_true (by kernel_rfl)⟩
  refine (calls_of_Fv Try.func6 rfl (by kernel_rfl) (Fv.to (windroselaw14_IndexKeys_c _ _ xs0 hr0) (congrArg Value.bool (indexKeys_true xs0 (fun x hx => u_of_wf (hw0 x hx)))))).mono fun e W' ⟨he, hb⟩ => ?_
  subst he
  exact ⟨_, rfl, post_true indexKeys_laid hW' rfl hpar rfl rfl Try.underlying4 hb⟩

theorem indexKeys_holds : Rows.IndexKeysSaid :=
  OpenClaim.holds_of_wide 6 Try.f6 rfl rfl rfl rfl rfl rfl rfl ⟨rfl, rfl, rfl, rfl, rfl⟩ rfl rfl rfl rfl rfl (by kernel_rfl) Try.func6 (by kernel_rfl)
    (of_decide_eq_true (by kernel_rfl)) (by unfold Func.isWrapper; first | (rw [if_pos (by decide +kernel)]; kernel_rfl) | (rw [if_neg (by decide +kernel)]; exact ⟨rfl, rfl⟩))
    (fun os started H enc _ => indexKeys_lifted os started H enc)
end Go.Proofs.Ytmigaagkfglabaa
