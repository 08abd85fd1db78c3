/- WE: waves, what the walk asks of them; in plain Lean. -/
import Derived.Test.YtkhjpgimjkofcaaWd
set_option linter.unusedVariables false
set_option linter.unusedSimpArgs false
namespace Go.SX
open Go

theorem putL_mem' {l : List Int} {n x : Int} : x ∈ putL l n ↔ x = n ∨ x ∈ l := by
  refine ⟨putL_mem, fun h => ?_⟩
  unfold putL
  split
  · rename_i he
    rcases h with rfl | h
    · exact List.mem_of_getElem? he
    · exact h
  · simp only [List.mem_append, List.mem_singleton]
    rcases h with rfl | h
    · exact .inl (.inr rfl)
    · rw [← List.take_append_drop (putK l n) l] at h
      rcases List.mem_append.1 h with h | h
      · exact .inl (.inl h)
      · exact .inr h
theorem putK_lt : ∀ (l : List Int) (n : Int), ∀ y ∈ l.take (putK l n), y < n
  | [], n, y, h => by simp [putK] at h
  | a :: l, n, y, h => by
    unfold putK at h
    rw [List.takeWhile_cons] at h
    by_cases ha : a < n
    · simp only [ha, decide_true, if_true, List.length_cons, List.take_succ_cons, List.mem_cons] at h
      rcases h with rfl | h
      · exact ha
      · exact putK_lt l n y h
    · simp [ha] at h
theorem putK_ge : ∀ (l : List Int) (n : Int) (y : Int), l[putK l n]? = some y → n ≤ y
  | [], n, y, h => by simp at h
  | a :: l, n, y, h => by
    unfold putK at h
    rw [List.takeWhile_cons] at h
    by_cases ha : a < n
    · simp only [ha, decide_true, if_true, List.length_cons, List.getElem?_cons_succ] at h
      exact putK_ge l n y h
    · simp [ha] at h; omega
theorem putL_up {l : List Int} (h : Up l) (n : Int) : Up (putL l n) := by
  unfold putL
  split
  · exact h
  · rename_i he
    have hd : ∀ y ∈ l.drop (putK l n), n < y := by
      intro y hy
      obtain ⟨j, hj⟩ := List.mem_iff_getElem?.1 hy
      rw [List.getElem?_drop] at hj
      cases hk : l[putK l n]? with
      | none =>
        have := List.getElem?_eq_none_iff.1 hk
        have := (List.getElem?_eq_some_iff.1 hj).1
        omega
      | some z =>
        have h1 := putK_ge l n z hk
        have h2 : z ≠ n := fun e => he (by rw [hk, e])
        rcases Nat.eq_zero_or_pos j with h0 | h0
        · subst h0; rw [Nat.add_zero, hk] at hj; injection hj with hj; omega
        · have := up_get h hk hj (by omega); omega
    have ht := putK_lt l n
    have h1 : Up (l.take (putK l n)) := List.Pairwise.sublist (List.take_sublist _ _) h
    have h2 : Up (l.drop (putK l n)) := List.Pairwise.sublist (List.drop_sublist _ _) h
    refine List.pairwise_append.2 ⟨List.pairwise_append.2 ⟨h1, List.pairwise_singleton _ _, fun a ha b hb => ?_⟩, h2, fun a ha b hb => ?_⟩
    · simp at hb; subst hb; exact ht a ha
    · rcases List.mem_append.1 ha with ha | ha
      · have := ht a ha; have := hd b hb; omega
      · simp at ha; subst ha; exact hd b hb
theorem nodup_len : ∀ {l u : List Int}, l.Nodup → (∀ x ∈ l, x ∈ u) → l.length ≤ u.length
  | [], u, _, _ => Nat.zero_le _
  | a :: l, u, h, hs => by
    have h1 := List.nodup_cons.1 h
    have ha := hs a (List.mem_cons_self ..)
    have := nodup_len (l := l) (u := u.erase a) h1.2 (fun x hx => by
      have hxu := hs x (List.mem_cons_of_mem _ hx)
      exact (List.mem_erase_of_ne (fun e => h1.1 (by rw [← e]; exact hx))).2 hxu)
    rw [List.length_erase_of_mem ha] at this
    have hp : 0 < u.length := List.length_pos_of_mem ha
    simp only [List.length_cons]; omega
theorem up_nodup {l : List Int} (h : Up l) : l.Nodup := List.Pairwise.imp (fun h e => by omega) h
/-- A rising row of members of u. -/
def Gd (u nx : List Int) : Prop := Up nx ∧ ∀ x ∈ nx, x ∈ u
theorem Gd.len {u nx : List Int} (h : Gd u nx) : nx.length ≤ u.length := nodup_len (up_nodup h.1) h.2
theorem Gd.nil {u : List Int} : Gd u [] := ⟨List.Pairwise.nil, fun x h => (by cases h)⟩
theorem Gd.put {u nx : List Int} (h : Gd u nx) {w : Int} (hw : w ∈ u) : Gd u (putL nx w) := ⟨putL_up h.1 w, fun x hx => by
  rcases putL_mem hx with rfl | hx
  · exact hw
  · exact h.2 x hx⟩
def tbL (b : Bool) (xs : List Lk) (v : Int) : List Int := if b then fromL xs v else toL xs v
def endsL (b : Bool) (xs : List Lk) : List Int := if b then xs.map (·.1) else xs.map (·.2)
theorem ends_len (b : Bool) (xs : List Lk) : (endsL b xs).length = xs.length := by unfold endsL; split <;> simp
theorem tb_mem {b : Bool} {xs : List Lk} {v x : Int} (h : x ∈ tbL b xs v) : x ∈ endsL b xs := by
  unfold tbL endsL at *
  cases b with
  | true =>
    simp only [if_true] at h ⊢
    unfold fromL at h
    split at h
    · obtain ⟨y, hy, rfl⟩ := List.mem_map.1 h
      exact List.mem_map.2 ⟨y, (List.mem_filter.1 hy).1, rfl⟩
    · cases h
  | false =>
    simp only [Bool.false_eq_true, if_false] at h ⊢
    unfold toL at h
    split at h
    · obtain ⟨y, hy, rfl⟩ := List.mem_map.1 h
      exact List.mem_map.2 ⟨y, (List.mem_filter.1 hy).1, rfl⟩
    · cases h
def stepW (met nx : List Int) (w : Int) : List Int := if met.any (fun y => decide (y = w)) then nx else putL nx w
def inW (met ws nx : List Int) : List Int := ws.foldl (stepW met) nx
def outW (to : Int → List Int) (met last : List Int) : List Int := last.foldl (fun nx v => inW met (to v) nx) []
theorem outW_eq (to : Int → List Int) (met last : List Int) : outW to met last = nextL to met last := rfl
theorem inW_snoc {met ws nx : List Int} {i : Nat} {w : Int} (h : ws[i]? = some w) : inW met (ws.take (i + 1)) nx = stepW met (inW met (ws.take i) nx) w := by
  unfold inW; rw [List.take_add_one, h, List.foldl_append]; rfl
theorem outW_snoc {to : Int → List Int} {met last : List Int} {i : Nat} {v : Int} (h : last[i]? = some v) : outW to met (last.take (i + 1)) = inW met (to v) (outW to met (last.take i)) := by
  unfold outW; rw [List.take_add_one, h, List.foldl_append]; rfl
def wavesL (b : Bool) (xs : List Lk) (a : Int) : List (List Int) := wavesGo (tbL b xs) (xs.length + 1) [[a]] [a] [a]
/-- What stands at a round's head. -/
def WInv (b : Bool) (xs : List Lk) (a : Int) (n : Nat) (outs : List (List Int)) (met last : List Int) : Prop :=
  unmet (endsL b xs) met < n ∧ wavesGo (tbL b xs) n outs met last = wavesL b xs a ∧ outs[outs.length - 1]? = some last ∧ outs.length + n = xs.length + 2 ∧ met.length + n * (xs.length + 1) ≤ (xs.length + 1) * (xs.length + 1) + 1 ∧ outs ≠ []
theorem WInv.start (b : Bool) (xs : List Lk) (a : Int) : WInv b xs a (xs.length + 1) [[a]] [a] [a] := by
  refine ⟨?_, rfl, rfl, by simp; omega, by simp; omega, by simp⟩
  have : unmet (endsL b xs) [a] ≤ (endsL b xs).length := List.countP_le_length
  rw [ends_len] at this; omega
theorem WInv.stop {b : Bool} {xs : List Lk} {a : Int} {n : Nat} {outs : List (List Int)} {met last : List Int} (h : WInv b xs a n outs met last) (hn : nextL (tbL b xs) met last = []) : wavesL b xs a = outs := by
  obtain ⟨h1, h2, _⟩ := h
  cases n with
  | zero => omega
  | succ n => rw [← h2, wavesGo, if_pos hn]
theorem WInv.go {b : Bool} {xs : List Lk} {a : Int} {n : Nat} {outs : List (List Int)} {met last nx : List Int} (h : WInv b xs a n outs met last) (hnx : nextL (tbL b xs) met last = nx) (hg : Gd (endsL b xs) nx) (h0 : nx ≠ []) :
    WInv b xs a (n - 1) (outs ++ [nx]) (met ++ nx) nx ∧ 0 < n := by
  obtain ⟨h1, h2, h3, h4, h5, h6⟩ := h
  cases n with
  | zero => omega
  | succ n =>
    refine ⟨⟨?_, ?_, by simp, by simp; omega, ?_, by simp⟩, by omega⟩
    · obtain ⟨x, hx⟩ := List.exists_mem_of_ne_nil _ h0
      have hm := next_mem (hnx ▸ hx)
      have := unmet_lt hx (hg.2 x hx) hm.2
      show unmet _ _ < n
      omega
    · show wavesGo _ n _ _ _ = _
      rw [← h2, wavesGo, hnx, if_neg h0]
    · have := hg.len
      rw [ends_len] at this
      rw [List.length_append]
      show _ + n * _ ≤ _
      rw [Nat.add_mul] at h5
      omega
theorem WInv.bnd {b : Bool} {xs : List Lk} {a : Int} {n : Nat} {outs : List (List Int)} {met last : List Int} (h : WInv b xs a n outs met last) (hl : xs.length ≤ 1000) : met.length ≤ 1010000 ∧ outs.length ≤ 1010 := by
  obtain ⟨h1, h2, h3, h4, h5, h6⟩ := h
  have : (xs.length + 1) * (xs.length + 1) ≤ 1001 * 1001 := Nat.mul_le_mul (by omega) (by omega)
  omega
end Go.SX
namespace Go.SX
theorem stepW_put {met nx : List Int} {w : Int} (h : (!met.any (fun y => decide (y = w))) = true) : stepW met nx w = putL nx w := by
  unfold stepW; cases hm : met.any (fun y => decide (y = w)) with
  | true => rw [hm] at h; cases h
  | false => rfl
theorem stepW_skip {met nx : List Int} {w : Int} (h : (!met.any (fun y => decide (y = w))) = false) : stepW met nx w = nx := by
  unfold stepW; cases hm : met.any (fun y => decide (y = w)) with
  | true => rfl
  | false => rw [hm] at h; cases h
end Go.SX
