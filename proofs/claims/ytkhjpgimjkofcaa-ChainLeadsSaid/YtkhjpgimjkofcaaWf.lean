/- WF: who is asked, in which order: what the walk asks; in plain Lean. -/
import Derived.Test.YtkhjpgimjkofcaaWe
import Derived.Test.YtkhjpgimjkofcaaSxC
set_option linter.unusedVariables false
set_option linter.unusedSimpArgs false
namespace Go.SX
open Go

def lastI (p : List Int) : Int := p.getLast?.getD 0
theorem lastI_snoc (p : List Int) (w : Int) : lastI (p ++ [w]) = w := by simp [lastI]
theorem lastI_at {p : List Int} (h : p ≠ []) : p[((p.length : Int) - 1).toNat]? = some (lastI p) := by
  have hl : 0 < p.length := List.length_pos_iff.2 h
  rw [show ((p.length : Int) - 1).toNat = p.length - 1 by omega]
  unfold lastI
  rw [List.getLast?_eq_getElem?, List.getElem?_eq_getElem (by omega)]; rfl
abbrev AskS := List Int × List (List Int)
def askStep (p : List Int) (s : AskS) (w : Int) : AskS := if w ∈ s.1 then s else (s.1 ++ [w], s.2 ++ [p ++ [w]])
def askIn (p ws : List Int) (s : AskS) : AskS := ws.foldl (askStep p) s
def askGo (to : Int → List Int) : Nat → AskS → List (List Int)
  | 0, _ => []
  | _ + 1, (_, []) => []
  | n + 1, (met, p :: ps) => p :: askGo to n (askIn p (to (lastI p)) (met, ps))
def askL (xs : List Lk) (a : Int) : List (List Int) := askGo (toL xs) (xs.length + 2) ([a], [[a]])
theorem askIn_snoc {p ws : List Int} {s : AskS} {i : Nat} {w : Int} (h : ws[i]? = some w) : askIn p (ws.take (i + 1)) s = askStep p (askIn p (ws.take i) s) w := by
  unfold askIn; rw [List.take_add_one, h, List.foldl_append]; rfl
theorem askStep_bound (u : List Int) {p : List Int} {s : AskS} {w : Int} (hw : w ∈ u) : (askStep p s w).2.length + unmet u (askStep p s w).1 ≤ s.2.length + unmet u s.1 := by
  unfold askStep
  split
  · exact Nat.le_refl _
  · rename_i h
    have := unmet_lt (u := u) (met := s.1) (more := [w]) (x := w) (List.mem_singleton.2 rfl) hw (by
      rw [List.any_eq_false]; intro y hy; simp; intro e; exact h (e ▸ hy))
    simp only [List.length_append, List.length_cons, List.length_nil]
    omega
theorem askIn_bound (u : List Int) : ∀ {p ws : List Int} {s : AskS}, (∀ w ∈ ws, w ∈ u) → (askIn p ws s).2.length + unmet u (askIn p ws s).1 ≤ s.2.length + unmet u s.1
  | p, [], s, _ => Nat.le_refl _
  | p, w :: ws, s, h => by
    show (askIn p ws (askStep p s w)).2.length + _ ≤ _
    exact Nat.le_trans (askIn_bound u (fun x hx => h x (List.mem_cons_of_mem _ hx))) (askStep_bound u (h w (List.mem_cons_self ..)))
theorem askStep_q {p : List Int} {s : AskS} {w : Int} {q : List Int} (h : q ∈ (askStep p s w).2) : q ∈ s.2 ∨ q = p ++ [w] := by
  unfold askStep at h
  split at h
  · exact .inl h
  · simpa using h
theorem askIn_q : ∀ {p ws : List Int} {s : AskS} {q : List Int}, q ∈ (askIn p ws s).2 → q ∈ s.2 ∨ ∃ w ∈ ws, q = p ++ [w]
  | p, [], s, q, h => .inl h
  | p, w :: ws, s, q, h => by
    rcases askIn_q (p := p) (ws := ws) (s := askStep p s w) h with h | ⟨x, hx, rfl⟩
    · rcases askStep_q h with h | rfl
      · exact .inl h
      · exact .inr ⟨w, List.mem_cons_self .., rfl⟩
    · exact .inr ⟨x, List.mem_cons_of_mem _ hx, rfl⟩
/-- What stands at a round's head. -/
def AInv (xs : List Lk) (a : Int) (n : Nat) (pre : List (List Int)) (met : List Int) (q : List (List Int)) : Prop :=
  pre ++ askGo (toL xs) n (met, q) = askL xs a ∧ q.length + unmet (endsL false xs) met < n ∧ pre.length + n = xs.length + 2 ∧ ∀ p ∈ q, p ≠ [] ∧ p.length ≤ pre.length + 1
theorem AInv.start (xs : List Lk) (a : Int) : AInv xs a (xs.length + 2) [] [a] [[a]] := by
  refine ⟨rfl, ?_, by simp, fun p hp => ?_⟩
  · have : unmet (endsL false xs) [a] ≤ (endsL false xs).length := List.countP_le_length
    rw [ends_len] at this
    simp; omega
  · simp at hp; subst hp; simp
theorem AInv.stop {xs : List Lk} {a : Int} {n : Nat} {pre : List (List Int)} {met : List Int} (h : AInv xs a n pre met []) : askL xs a = pre := by
  obtain ⟨h1, h2, _⟩ := h
  cases n with
  | zero => omega
  | succ n => rw [← h1]; simp [askGo]
theorem AInv.hand {xs : List Lk} {a : Int} {n : Nat} {pre : List (List Int)} {met : List Int} {p : List Int} {q : List (List Int)} (h : AInv xs a n pre met (p :: q)) : (pre ++ [p]) <+: askL xs a := by
  obtain ⟨h1, h2, _⟩ := h
  cases n with
  | zero => omega
  | succ n => rw [← h1, askGo]; exact ⟨askGo (toL xs) n (askIn p (toL xs (lastI p)) (met, q)), by simp⟩
theorem to_mem {xs : List Lk} {v x : Int} (h : x ∈ toL xs v) : x ∈ endsL false xs := tb_mem (b := false) (v := v) (by simpa [tbL] using h)
theorem AInv.go {xs : List Lk} {a : Int} {n : Nat} {pre : List (List Int)} {met : List Int} {p : List Int} {q : List (List Int)} (h : AInv xs a n pre met (p :: q)) :
    AInv xs a (n - 1) (pre ++ [p]) (askIn p (toL xs (lastI p)) (met, q)).1 (askIn p (toL xs (lastI p)) (met, q)).2 ∧ 0 < n := by
  obtain ⟨h1, h2, h3, h4⟩ := h
  cases n with
  | zero => omega
  | succ n =>
    refine ⟨⟨?_, ?_, by simp; omega, fun r hr => ?_⟩, by omega⟩
    · rw [← h1, askGo]; simp
    · have := askIn_bound (endsL false xs) (p := p) (ws := toL xs (lastI p)) (s := (met, q)) (fun w hw => to_mem hw)
      simp only [List.length_cons] at h2
      show _ < n
      simp only at this
      omega
    · rcases askIn_q hr with hr | ⟨w, _, rfl⟩
      · obtain ⟨h5, h6⟩ := h4 r (List.mem_cons_of_mem _ hr)
        exact ⟨h5, by simp; omega⟩
      · obtain ⟨h5, h6⟩ := h4 p (List.mem_cons_self ..)
        exact ⟨by simp, by simp; omega⟩
/-- What stands in a round. -/
theorem AInv.mid {xs : List Lk} {a : Int} {n : Nat} {pre : List (List Int)} {met : List Int} {p : List Int} {q : List (List Int)} (h : AInv xs a n pre met (p :: q)) (i : Nat) :
    (askIn p ((toL xs (lastI p)).take i) (met, q)).2.length ≤ xs.length + 2 ∧ p.length ≤ xs.length + 2 ∧ p ≠ [] := by
  obtain ⟨h1, h2, h3, h4⟩ := h
  have := askIn_bound (endsL false xs) (p := p) (ws := (toL xs (lastI p)).take i) (s := (met, q)) (fun w hw => to_mem (List.mem_of_mem_take hw))
  simp only [List.length_cons] at h2 this
  obtain ⟨h5, h6⟩ := h4 p (List.mem_cons_self ..)
  exact ⟨by omega, by omega, h5⟩
/-- The map tells who is met. -/
def MetIs (m : MapL) (met : List Int) : Prop := ∀ k, (mget m k).getD (.bool false) = .bool (decide (k ∈ met))
theorem MetIs.nil : MetIs [] [] := fun k => rfl
theorem MetIs.put {m : MapL} {met : List Int} (h : MetIs m met) (w : Int) : MetIs (mput m w (.bool true)) (met ++ [w]) := fun k => by
  rw [mget_mput]
  by_cases e : k = w
  · rw [if_pos e]; simp [e]
  · rw [if_neg e, h k]; simp [e]
theorem MetIs.one (a : Int) : MetIs (mput [] a (.bool true)) [a] := MetIs.nil.put a
theorem permS {a b : Chunk} {L : Own} : (a :: b :: L).flatten.Perm (b :: a :: L).flatten := by
  simp only [List.flatten_cons]
  rw [← List.append_assoc, ← List.append_assoc]
  exact List.perm_append_comm.append_right _
theorem perm_take {a b c : Chunk} {rows R Lc : Own} (h : rows.flatten.Perm (c :: R).flatten) : (a :: b :: (rows ++ Lc)).flatten.Perm (c :: a :: b :: (R ++ Lc)).flatten := by
  simp only [List.flatten_cons, List.flatten_append] at h ⊢
  have h1 : (rows.flatten ++ Lc.flatten).Perm (c ++ (R.flatten ++ Lc.flatten)) := by
    rw [← List.append_assoc]; exact h.append_right _
  refine ((h1.append_left b).append_left a).trans ?_
  refine (List.Perm.append_left a (List.perm_append_comm_assoc b c _)).trans ?_
  exact List.perm_append_comm_assoc a c _
theorem perm_put {a b c : Chunk} {rows R Lc : Own} (h : (c :: R).flatten.Perm rows.flatten) : (b :: c :: a :: (R ++ Lc)).flatten.Perm (a :: b :: (rows ++ Lc)).flatten := by
  refine List.Perm.trans ?_ (perm_take (a := a) (b := b) (Lc := Lc) h.symm).symm
  simp only [List.flatten_cons]
  refine (List.perm_append_comm_assoc b c _).trans (List.Perm.append_left c ?_)
  exact List.perm_append_comm_assoc b a _
theorem perm_frz {a b : Chunk} {rows Lc : Own} : (a :: b :: (rows ++ Lc)).flatten.Perm ((b ++ rows.flatten) :: a :: Lc).flatten := by
  simp only [List.flatten_cons, List.flatten_append]
  rw [List.append_assoc]
  refine (List.perm_append_comm_assoc a b _).trans (List.Perm.append_left b ?_)
  exact List.perm_append_comm_assoc a _ _
/-- Whom one's links lead to, out of the first i. -/
def tosN (xs : List Lk) (i : Nat) (k : Int) : List Int := ((xs.take i).filter (fun y => decide (y.1 = k))).map (·.2)
theorem tosN_zero (xs : List Lk) (k : Int) : tosN xs 0 k = [] := by simp [tosN]
theorem tosN_snoc {xs : List Lk} {i : Nat} {y : Lk} (h : xs[i]? = some y) : (fun k => if k = y.1 then tosN xs i y.1 ++ [y.2] else tosN xs i k) = tosN xs (i + 1) := by
  funext k
  unfold tosN
  by_cases e : k = y.1
  · rw [if_pos e, filtP_yes h (by simp [e]), e]
  · rw [if_neg e, filtP_no h (by simpa using fun x => e x.symm)]
theorem tosN_all {xs : List Lk} (h : chainB xs = true) (k : Int) : tosN xs xs.length k = toL xs k := by
  unfold tosN toL; rw [List.take_length, if_pos h]
theorem tosN_len (xs : List Lk) (i : Nat) (k : Int) : (tosN xs i k).length ≤ xs.length := by
  unfold tosN
  rw [List.length_map]
  have := List.length_filter_le (fun y : Lk => decide (y.1 = k)) (xs.take i)
  simp at this; omega
def YW : Heap → List Value → List Int → Prop := fun H vs p => ∃ w, vs = [.int .i64 (lastI p), w] ∧ RdS (intE .i64) H w p
theorem own_one {α : Type} {E : ER α} {e : TypeId} {H : Heap} {b : Nat} {u : Value} {x : α} (hE : E.size = 1) (hx : E.R H [u] x) : OwnO E e H (.slice (some ⟨b, 0, none⟩) 1 1) [x] [(b, .cells #[u] e)] := (OwnS.one hE hx).slid
end Go.SX
namespace Go.SX
open Go
theorem askGo_len (to : Int → List Int) : ∀ (n : Nat) (s : AskS), (askGo to n s).length ≤ n
  | 0, _ => by simp [askGo]
  | n + 1, (met, []) => by simp [askGo]
  | n + 1, (met, p :: ps) => by have := askGo_len to n (askIn p (to (lastI p)) (met, ps)); simp [askGo]; omega
theorem askL_len (xs : List Lk) (a : Int) : (askL xs a).length ≤ xs.length + 2 := askGo_len _ _ _
theorem askGo_ne (to : Int → List Int) : ∀ (n : Nat) (s : AskS), (∀ p ∈ s.2, p ≠ []) → ∀ p ∈ askGo to n s, p ≠ []
  | 0, _, _, p, h => by simp [askGo] at h
  | n + 1, (met, []), _, p, h => by simp [askGo] at h
  | n + 1, (met, q :: ps), hs, p, h => by
    rw [askGo] at h
    rcases List.mem_cons.1 h with rfl | h
    · exact hs _ (List.mem_cons_self ..)
    · refine askGo_ne to n _ (fun r hr => ?_) p h
      rcases askIn_q hr with hr | ⟨w, _, rfl⟩
      · exact hs r (List.mem_cons_of_mem _ hr)
      · simp
theorem askL_ne {xs : List Lk} {a : Int} {p : List Int} (h : p ∈ askL xs a) : p ≠ [] := askGo_ne _ _ _ (fun p hp => by simp at hp; subst hp; simp) p h
def PredI (P : Program) (fv : Value) (p : Int → Bool) (H : Heap) : Prop := ∀ H', HLe H H' → ∀ x, Fv P fv [.int .i64 x] H' (.bool (p x))
theorem PredI.mono {P : Program} {fv : Value} {p : Int → Bool} {H H' : Heap} (h : PredI P fv p H) (hl : HLe H H') : PredI P fv p H' := fun H2 h2 => h H2 (hl.trans h2)
/-- Who is the first one that is asked, and of whom p holds; the way there; the word. -/
def firstR (xs : List Lk) (a : Int) (p : Int → Bool) : Int × List Int × Int :=
  if chainB xs then match (askL xs a).find? (fun w => p (lastI w)) with
    | some w => (lastI w, w, 0)
    | none => (0, [], 4)
  else (0, [], 260)
theorem firstR_bad {xs : List Lk} {a : Int} {p : Int → Bool} (h : chainB xs = false) : firstR xs a p = (0, [], 260) := by unfold firstR; rw [h]; rfl
theorem firstR_none {xs : List Lk} {a : Int} {p : Int → Bool} (h : chainB xs = true) (hn : ∀ w ∈ askL xs a, p (lastI w) = false) : firstR xs a p = (0, [], 4) := by
  unfold firstR
  rw [if_pos h, List.find?_eq_none.2 (fun w hw => by simp [hn w hw])]
theorem firstR_some {xs : List Lk} {a : Int} {p : Int → Bool} {q : List (List Int)} {w : List Int} (h : chainB xs = true) (hpre : (q ++ [w]) <+: askL xs a) (hq : ∀ x ∈ q, p (lastI x) = false) (hw : p (lastI w) = true) : firstR xs a p = (lastI w, w, 0) := by
  obtain ⟨r, hr⟩ := hpre
  unfold firstR
  rw [if_pos h, ← hr, List.append_assoc, List.find?_append, List.find?_eq_none.2 (fun x hx => by simp [hq x hx])]
  simp [hw]
theorem results_tmp3 {fn : Func} {t u s : Tmp} (h : fn.results = #[.tmp t, .tmp u, .tmp s]) (tmps : Array Value) (P : Program) (w : World) :
    (results fn tmps).run P w = .ok (.tuple #[tmps.getD t undef, tmps.getD u undef, tmps.getD s undef]) w := by simp [results, h]
theorem fin3 {P : Program} {fn : Func} {N t u s : Nat} {post : Value → Heap → Own → Prop} {σ : Env} {H : Heap} {L : Own} {ds : List Nat} {v v' v'' : Value} (hr : fn.results = #[.tmp t, .tmp u, .tmp s]) (hv : σ t = v) (hv' : σ u = v') (hv'' : σ s = v'') (h : post (.tuple #[v, v', v'']) H []) : fnPost P fn N post .ret σ H L ds :=
  ⟨_, [], List.nil_sublist _, fun tmps w hs _ => by rw [results_tmp3 hr, hs.val, hs.val, hs.val, hv, hv', hv''], h⟩
theorem ElemAt.fst {H : Heap} {b o : Nat} {y : Lk} (he : ElemAt pairE H b o y) : cellAt H b o = some (.int .i64 y.1) := by
  obtain ⟨cs, h1, h2⟩ := he
  obtain rfl : cs = [.int .i64 y.1, .int .i64 y.2] := h1
  exact h2 0 _ rfl
def ownP (os : List Int) : Int → Bool := fun x => os.any (fun y => decide (x = y))
def heirAt (xs : List Lk) (f : Int) (os : List Int) (i : Nat) : Bool :=
  match xs[i]? with
  | none => false
  | some y => !decide (y.1 = f) && !(decide (0 < i) && decide (((xs[i - 1]?).map (·.1)) = some y.1)) && decide ((firstR xs y.1 (ownP os)).2.2 = 0) && decide ((firstR xs y.1 (ownP os)).1 = f)
def heirsK (xs : List Lk) (f : Int) (os : List Int) (k : Nat) : List Int := ((List.range k).filter (heirAt xs f os)).map (fun i => ((xs[i]?).map (·.1)).getD 0)
theorem heirsK_yes {xs : List Lk} {f : Int} {os : List Int} {k : Nat} {y : Lk} (hy : xs[k]? = some y) (h : heirAt xs f os k = true) : heirsK xs f os (k + 1) = heirsK xs f os k ++ [y.1] := by
  unfold heirsK; rw [List.range_succ, List.filter_append, List.map_append]; simp [h, hy]
theorem heirsK_no {xs : List Lk} {f : Int} {os : List Int} {k : Nat} (h : heirAt xs f os k = false) : heirsK xs f os (k + 1) = heirsK xs f os k := by
  unfold heirsK; rw [List.range_succ, List.filter_append, List.map_append]; simp [h]
theorem heirsK_len (xs : List Lk) (f : Int) (os : List Int) (k : Nat) : (heirsK xs f os k).length ≤ k := by
  unfold heirsK
  rw [List.length_map]
  have := List.length_filter_le (heirAt xs f os) (List.range k)
  simpa using this
def heirsR (xs : List Lk) (f : Int) (os : List Int) : List Int := if chainB xs then heirsK xs f os xs.length else []
end Go.SX
namespace Go.SX
open Go
theorem ne_none {α : Type} {E : ER α} {H : Heap} {A : Option Addr} {n c : Nat} {xs : List α} (hne : xs ≠ []) (h : RdS E H (.slice A n c) xs) : A.isNone = false := by
  cases A with
  | none => exact absurd h.none_nil hne
  | some a => rfl
theorem askGo_short (to : Int → List Int) : ∀ (n : Nat) (s : AskS) (k : Nat), (∀ p ∈ s.2, p.length ≤ k) → ∀ p ∈ askGo to n s, p.length ≤ k + n
  | 0, _, _, _, p, h => by simp [askGo] at h
  | n + 1, (met, []), _, _, p, h => by simp [askGo] at h
  | n + 1, (met, q :: ps), k, hs, p, h => by
    rw [askGo] at h
    rcases List.mem_cons.1 h with rfl | h
    · have := hs _ (List.mem_cons_self ..); omega
    · have := askGo_short to n _ (k + 1) (fun r hr => by
        rcases askIn_q hr with hr | ⟨w, _, rfl⟩
        · have := hs r (List.mem_cons_of_mem _ hr); omega
        · have := hs q (List.mem_cons_self ..); simp; omega) p h
      omega
theorem ask_short {xs : List Lk} {a : Int} {p : List Int} (h : p ∈ askL xs a) : p.length ≤ xs.length + 3 := by
  have := askGo_short _ _ _ 1 (fun p hp => by simp at hp; subst hp; simp) p h
  omega
end Go.SX
