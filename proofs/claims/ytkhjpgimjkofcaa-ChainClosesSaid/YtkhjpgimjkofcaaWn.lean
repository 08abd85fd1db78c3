/- WN: the waves of chain, as the program makes them; in plain Lean. -/
import Derived.Test.YtkhjpgimjkofcaaWl
import Derived.Test.YtkhjpgimjkofcaaSxS
set_option linter.unusedVariables false
set_option linter.unusedSimpArgs false
namespace Go.SX
open Go

def sw (b : Bool) (y : Lk) : Lk := if b then (y.2, y.1) else y
/-- Whom one's links lead to (or from whom), out of the first i. -/
def tosB (b : Bool) (xs : List Lk) (i : Nat) (k : Int) : List Int := ((xs.take i).filter (fun y => decide ((sw b y).1 = k))).map (fun y => (sw b y).2)
theorem tosB_zero (b : Bool) (xs : List Lk) (k : Int) : tosB b xs 0 k = [] := by simp [tosB]
theorem tosB_snoc {b : Bool} {xs : List Lk} {i : Nat} {y : Lk} (h : xs[i]? = some y) : (fun k => if k = (sw b y).1 then tosB b xs i (sw b y).1 ++ [(sw b y).2] else tosB b xs i k) = tosB b xs (i + 1) := by
  funext k
  unfold tosB
  by_cases e : k = (sw b y).1
  · rw [if_pos e, filtP_yes h (by simp [e]), e]
  · rw [if_neg e, filtP_no h (by simpa using fun x => e x.symm)]
theorem tosB_all {b : Bool} {xs : List Lk} (h : chainB xs = true) (k : Int) : tosB b xs xs.length k = tbL b xs k := by
  unfold tosB tbL toL fromL sw
  rw [List.take_length]
  cases b <;> simp [h]
theorem tb_bad {b : Bool} {xs : List Lk} (h : chainB xs = false) (k : Int) : tbL b xs k = [] := by
  unfold tbL toL fromL; cases b <;> simp [h]
theorem tosB_len (b : Bool) (xs : List Lk) (i : Nat) (k : Int) : (tosB b xs i k).length ≤ xs.length := by
  unfold tosB
  rw [List.length_map]
  have := List.length_filter_le (fun y : Lk => decide ((sw b y).1 = k)) (xs.take i)
  simp at this; omega
theorem perm_take1 {a c : Chunk} {rows R : Own} (h : rows.flatten.Perm (c :: R).flatten) : (a :: rows).flatten.Perm (c :: a :: R).flatten := by
  simp only [List.flatten_cons] at h ⊢
  exact (h.append_left a).trans (List.perm_append_comm_assoc a c _)
theorem perm_put1 {a c : Chunk} {rows R : Own} (h : (c :: R).flatten.Perm rows.flatten) : (a :: c :: R).flatten.Perm (a :: rows).flatten := by
  simp only [List.flatten_cons] at h ⊢
  exact h.append_left a
theorem perm_one {L : Own} : L.flatten.Perm ([L.flatten] : Own).flatten := by simp
/-- fv, called with x, hands back f x. -/
def StepF (P : Program) (fv : Value) (f : Int → List Int) (H : Heap) : Prop := ∀ H', HLe H H' → ∀ x, Fp P fv [.int .i64 x] H' (fun w H'' => RdS (intE .i64) H'' w (f x))
theorem StepF.mono {P : Program} {fv : Value} {f : Int → List Int} {H H' : Heap} (h : StepF P fv f H) (hl : HLe H H') : StepF P fv f H' := fun H2 h2 => h H2 (hl.trans h2)
abbrev MS := List Int × List Int
def meetS (s : MS) (x : Int) : MS := if x ∈ s.1 then s else (s.1 ++ [x], s.2 ++ [x])
def meetL (ws : List Int) (s : MS) : MS := ws.foldl meetS s
def meetA (f : Int → List Int) (vs : List Int) (s : MS) : MS := vs.foldl (fun s v => meetL (f v) s) s
theorem meetL_snoc {ws : List Int} {s : MS} {i : Nat} {w : Int} (h : ws[i]? = some w) : meetL (ws.take (i + 1)) s = meetS (meetL (ws.take i) s) w := by
  unfold meetL; rw [List.take_add_one, h, List.foldl_append]; rfl
theorem meetA_snoc {f : Int → List Int} {vs : List Int} {s : MS} {i : Nat} {v : Int} (h : vs[i]? = some v) : meetA f (vs.take (i + 1)) s = meetL (f v) (meetA f (vs.take i) s) := by
  unfold meetA; rw [List.take_add_one, h, List.foldl_append]; rfl
theorem meetS_bound (u : List Int) {s : MS} {x : Int} (hx : x ∈ u) : (meetS s x).2.length + unmet u (meetS s x).1 ≤ s.2.length + unmet u s.1 := by
  unfold meetS
  split
  · exact Nat.le_refl _
  · rename_i h
    have := unmet_lt (u := u) (met := s.1) (more := [x]) (x := x) (List.mem_singleton.2 rfl) hx (by
      rw [List.any_eq_false]; intro y hy; simp; intro e; exact h (e ▸ hy))
    simp only [List.length_append, List.length_cons, List.length_nil]
    omega
theorem meetL_bound (u : List Int) : ∀ {ws : List Int} {s : MS}, (∀ w ∈ ws, w ∈ u) → (meetL ws s).2.length + unmet u (meetL ws s).1 ≤ s.2.length + unmet u s.1
  | [], s, _ => Nat.le_refl _
  | w :: ws, s, h => by
    show (meetL ws (meetS s w)).2.length + _ ≤ _
    exact Nat.le_trans (meetL_bound u (fun x hx => h x (List.mem_cons_of_mem _ hx))) (meetS_bound u (h w (List.mem_cons_self ..)))
theorem meetA_bound (u : List Int) {f : Int → List Int} (hf : ∀ v, ∀ w ∈ f v, w ∈ u) : ∀ {vs : List Int} {s : MS}, (meetA f vs s).2.length + unmet u (meetA f vs s).1 ≤ s.2.length + unmet u s.1
  | [], s => Nat.le_refl _
  | v :: vs, s => by
    show (meetA f vs (meetL (f v) s)).2.length + _ ≤ _
    exact Nat.le_trans (meetA_bound u hf) (meetL_bound u (hf v))
def wGo (f : Int → List Int) : Nat → MS → List (List Int)
  | 0, _ => []
  | n + 1, (met, wave) => if wave = [] then [] else sortI wave :: wGo f n (meetA f (sortI wave) (met, []))
/-- The waves from some; u bears whoever can be met. -/
def wavesW (f : Int → List Int) (k : Nat) (first : List Int) : List (List Int) := wGo f (k + first.length + 1) (meetL first ([], []))
/-- What stands at a round's head. -/
def VInv (f : Int → List Int) (u first : List Int) (n : Nat) (pre : List (List Int)) (s : MS) : Prop :=
  pre ++ wGo f n s = wavesW f u.length first ∧ s.2.length + unmet u s.1 < n ∧ n ≤ u.length + first.length + 1
theorem VInv.start (f : Int → List Int) (u first : List Int) : VInv f u first (u.length + first.length + 1) [] (meetL first ([], [])) := by
  refine ⟨rfl, ?_, Nat.le_refl _⟩
  have h1 : unmet u (meetL first ([], [])).1 ≤ u.length := List.countP_le_length
  have h2 : ∀ (ws : List Int) (s : MS), (meetL ws s).2.length ≤ s.2.length + ws.length := by
    intro ws
    induction ws with
    | nil => intro s; exact Nat.le_refl _
    | cons w ws ih =>
      intro s
      have := ih (meetS s w)
      have h3 : (meetS s w).2.length ≤ s.2.length + 1 := by unfold meetS; split <;> simp
      show (meetL ws (meetS s w)).2.length ≤ _
      simp only [List.length_cons]; omega
  have := h2 first ([], [])
  simp only [List.length_nil] at this
  omega
theorem VInv.stop {f : Int → List Int} {u first : List Int} {n : Nat} {pre : List (List Int)} {s : MS} (h : VInv f u first n pre s) (h0 : s.2 = []) : wavesW f u.length first = pre := by
  obtain ⟨h1, h2, _⟩ := h
  obtain ⟨met, wave⟩ := s
  simp only at h0; subst h0
  cases n with
  | zero => omega
  | succ n => rw [← h1]; simp [wGo]
theorem VInv.hand {f : Int → List Int} {u first : List Int} {n : Nat} {pre : List (List Int)} {s : MS} (h : VInv f u first n pre s) (h0 : s.2 ≠ []) : (pre ++ [sortI s.2]) <+: wavesW f u.length first := by
  obtain ⟨h1, h2, _⟩ := h
  obtain ⟨met, wave⟩ := s
  cases n with
  | zero => omega
  | succ n =>
    rw [← h1, wGo, if_neg h0]
    exact ⟨wGo f n (meetA f (sortI wave) (met, [])), by simp⟩
theorem VInv.go {f : Int → List Int} {u first : List Int} {n : Nat} {pre : List (List Int)} {s : MS} (hf : ∀ v, ∀ w ∈ f v, w ∈ u) (h : VInv f u first n pre s) (h0 : s.2 ≠ []) :
    VInv f u first (n - 1) (pre ++ [sortI s.2]) (meetA f (sortI s.2) (s.1, [])) ∧ 0 < n := by
  obtain ⟨h1, h2, h3⟩ := h
  obtain ⟨met, wave⟩ := s
  cases n with
  | zero => omega
  | succ n =>
    refine ⟨⟨?_, ?_, by omega⟩, by omega⟩
    · rw [← h1, wGo, if_neg h0]; simp
    · have hb := meetA_bound u hf (vs := sortI wave) (s := (met, []))
      have hp : 0 < wave.length := List.length_pos_iff.2 h0
      simp only [List.length_nil] at hb h2
      show _ < n
      simp only
      omega
theorem VInv.bnd {f : Int → List Int} {u first : List Int} {n : Nat} {pre : List (List Int)} {s : MS} (h : VInv f u first n pre s) : s.2.length ≤ u.length + first.length := by have := h.2.1; have := h.2.2; omega
/-- A wave in the making is no longer than those that can be met. -/
theorem meet_len {f : Int → List Int} {u : List Int} (hf : ∀ v, ∀ w ∈ f v, w ∈ u) {here ws : List Int} {met : List Int} (hw : ∀ w ∈ ws, w ∈ u) : (meetL ws (meetA f here (met, []))).2.length ≤ u.length := by
  have h1 := meetL_bound u hw (s := meetA f here (met, []))
  have h2 := meetA_bound u hf (vs := here) (s := (met, []))
  have h3 : unmet u met ≤ u.length := List.countP_le_length
  simp only [List.length_nil] at h2
  omega
theorem meetL_len : ∀ (ws : List Int) (s : MS), (meetL ws s).2.length ≤ s.2.length + ws.length
  | [], s => Nat.le_refl _
  | w :: ws, s => by
    have := meetL_len ws (meetS s w)
    have h3 : (meetS s w).2.length ≤ s.2.length + 1 := by unfold meetS; split <;> simp
    show (meetL ws (meetS s w)).2.length ≤ _
    simp only [List.length_cons]; omega
def YV : Heap → List Value → List Int → Prop := fun H vs p => ∃ w, vs = [w] ∧ RdS (intE .i64) H w p
theorem sortI_ne {xs : List Int} (h : xs ≠ []) : sortI xs ≠ [] := fun e => h (by
  have := (sortI_perm xs).length_eq
  rw [e] at this
  exact List.length_eq_zero_iff.1 this.symm)
theorem fin1Lf {P : Program} {fn : Func} {N t : Nat} {post : Value → Heap → Own → Prop} {σ : Env} {H : Heap} {L : Own} {ds : List Nat} {v : Value} (hr : fn.results = #[.tmp t]) (hv : σ t = v) (h : post v H []) : fnPost P fn N post .ret σ H L ds := fin1 hr hv h
end Go.SX
namespace Go.SX
open Go
theorem perm3 {a b c : Chunk} : ([a, b, c] : Own).flatten.Perm ([c, a, b] : Own).flatten := by
  simp only [List.flatten_cons, List.flatten_nil, List.append_nil]
  rw [← List.append_assoc]
  exact List.perm_append_comm
theorem fin1CN {P : Program} {fn : Func} {N t b o : Nat} {ty : TypeId} {cs : Array Value} {et : TypeId} {fz : Nat × Nat} {post : Value → Heap → Own → Prop} {σ : Env} {H : Heap} {L : Own} {ds : List Nat} {v : Value} (L' : Own) (hr : fn.results = #[.cell t ty]) (hagg : ∀ w, (isAgg ty).run P w = .ok false w) (hv : σ t = .pointer (some ⟨b, o, none⟩))
    (hin : In L [(b, .cells cs et fz)]) (hcs : cs[o]? = some v) (hL : List.Sublist L' L) (h : post v H L') : fnPost P fn N post .normal σ H L ds :=
  ⟨v, L', hL, fun tmps w hs hsat => by
    have hb := hsat.l (b, .cells cs et fz) (hin.mem (List.mem_singleton.2 rfl))
    have hc := cell_of_heap hb hcs
    have hvt := hs.val t
    rw [hv, Array.getD_eq_getD_getElem?] at hvt
    simp only at hc
    simp [results, hr, hvt, asAddr, loadVar, hagg, hc], h⟩
def leadsR (xs : List Lk) (a z : Int) : Bool := (wavesW (toL xs) xs.length (toL xs a)).any (fun w => w.any (fun y => decide (z = y)))
theorem leads_no {xs : List Lk} {a z : Int} (h : ∀ w ∈ wavesW (toL xs) xs.length (toL xs a), w.any (fun y => decide (z = y)) = false) : leadsR xs a z = false := by
  unfold leadsR; rw [List.any_eq_false]; intro w hw; simp [h w hw]
theorem leads_yes {xs : List Lk} {a z : Int} {w : List Int} (h : w ∈ wavesW (toL xs) xs.length (toL xs a)) (hw : w.any (fun y => decide (z = y)) = true) : leadsR xs a z = true := List.any_eq_true.2 ⟨w, h, hw⟩
theorem wGo_len (f : Int → List Int) : ∀ (n : Nat) (s : MS), (wGo f n s).length ≤ n
  | 0, _ => by simp [wGo]
  | n + 1, (met, wave) => by
    rw [wGo]; split
    · simp
    · have := wGo_len f n (meetA f (sortI wave) (met, [])); simp; omega
theorem wavesW_len (f : Int → List Int) (k : Nat) (first : List Int) : (wavesW f k first).length ≤ k + first.length + 1 := wGo_len _ _ _
theorem toL_len (xs : List Lk) (v : Int) : (toL xs v).length ≤ xs.length := by
  unfold toL; split
  · rw [List.length_map]; exact List.length_filter_le _ _
  · simp
end Go.SX
