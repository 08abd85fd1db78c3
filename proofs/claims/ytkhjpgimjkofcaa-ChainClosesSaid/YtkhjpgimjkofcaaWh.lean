/- WH: waves and ways; in plain Lean. -/
import Derived.Test.YtkhjpgimjkofcaaWg
set_option linter.unusedVariables false
set_option linter.unusedSimpArgs false
namespace Go.SX
open Go

theorem toL_up (xs : List Lk) (v : Int) : Up (toL xs v) := by
  unfold toL
  split
  · rename_i h
    have hu := (chainB_iff.1 h).2.2
    refine List.pairwise_map.2 ?_
    refine (List.Pairwise.sublist List.filter_sublist hu).imp_of_mem (fun {x y} hx hy hxy => ?_)
    have h1 := of_decide_eq_true (List.mem_filter.1 hx).2
    have h2 := of_decide_eq_true (List.mem_filter.1 hy).2
    unfold ltP at hxy; omega
  · exact List.Pairwise.nil
/-- How far z is from a. -/
def Dist (to : Int → List Int) (a z : Int) (n : Nat) : Prop := (∃ p, Wy to a z p ∧ p.length = n + 1) ∧ ∀ p, Wy to a z p → n + 1 ≤ p.length
theorem Dist.uniq {to : Int → List Int} {a z : Int} {n m : Nat} (h : Dist to a z n) (k : Dist to a z m) : n = m := by
  obtain ⟨⟨p, h1, h2⟩, h3⟩ := h
  obtain ⟨⟨q, k1, k2⟩, k3⟩ := k
  have := h3 q k1; have := k3 p h1; omega
theorem Dist.of {to : Int → List Int} {a z : Int} {p : List Int} (h : Wy to a z p) : ∃ n, Dist to a z n ∧ n + 1 ≤ p.length := by
  obtain ⟨n, ⟨q, h1, h2⟩, h3⟩ := least (p := fun n => ∃ p, Wy to a z p ∧ p.length = n) ⟨_, p, h, rfl⟩
  have hn : 0 < n := by rw [← h2]; exact List.length_pos_iff.2 h1.1.ne
  exact ⟨n - 1, ⟨⟨q, h1, by omega⟩, fun r hr => by have := h3 _ ⟨r, hr, rfl⟩; omega⟩, by have := h3 _ ⟨p, h, rfl⟩; omega⟩
theorem Dist.prev {to : Int → List Int} {a z : Int} {n : Nat} (h : Dist to a z (n + 1)) : ∃ v, Dist to a v n ∧ z ∈ to v := by
  obtain ⟨⟨p, h1, h2⟩, h3⟩ := h
  rcases h1.unsnoc with ⟨rfl, _⟩ | ⟨q, v, rfl, h4, h5⟩
  · simp at h2
  · refine ⟨v, ⟨⟨q, h4, by simpa using h2⟩, fun r hr => ?_⟩, h5⟩
    have := h3 _ (hr.snoc h5)
    simp at this; omega
theorem Dist.next {to : Int → List Int} {a z : Int} {n : Nat} (h : Dist to a z (n + 1)) : ∃ v, v ∈ to a ∧ Dist to v z n := by
  obtain ⟨⟨p, h1, h2⟩, h3⟩ := h
  rcases h1.un with ⟨rfl, _⟩ | ⟨v, r, rfl, h4, h5⟩
  · simp at h2
  · refine ⟨v, h4, ⟨_, h5, by simpa using h2⟩, fun q hq => ?_⟩
    have := h3 _ (hq.cons h4)
    simp at this; omega
theorem Dist.zero (to : Int → List Int) (a : Int) : Dist to a a 0 := ⟨⟨[a], Wy.one to a, rfl⟩, fun p hp => by have := List.length_pos_iff.2 hp.1.ne; omega⟩
theorem dist_zero {to : Int → List Int} {a z : Int} (h : Dist to a z 0) : z = a := by
  obtain ⟨⟨p, h1, h2⟩, _⟩ := h
  rcases h1.un with ⟨_, h⟩ | ⟨v, r, rfl, _, _⟩
  · exact h
  · simp at h2
theorem stepW_mem {met nx : List Int} {w x : Int} : x ∈ stepW met nx w ↔ x ∈ nx ∨ (x = w ∧ x ∉ met) := by
  unfold stepW
  by_cases h : w ∈ met
  · rw [if_pos (List.any_eq_true.2 ⟨w, h, by simp⟩)]
    exact ⟨.inl, fun k => k.elim id (fun ⟨e, hn⟩ => absurd (e ▸ h) hn)⟩
  · rw [if_neg (fun k => by obtain ⟨y, hy, e⟩ := List.any_eq_true.1 k; exact h (of_decide_eq_true e ▸ hy)), putL_mem']
    exact ⟨fun k => k.elim (fun e => .inr ⟨e, e ▸ h⟩) .inl, fun k => k.elim .inr (fun e => .inl e.1)⟩
theorem inW_mem {met : List Int} {x : Int} : ∀ {ws nx : List Int}, x ∈ inW met ws nx ↔ x ∈ nx ∨ (x ∈ ws ∧ x ∉ met)
  | [], nx => by simp [inW]
  | w :: ws, nx => by
    show x ∈ inW met ws (stepW met nx w) ↔ _
    rw [inW_mem, stepW_mem]
    simp only [List.mem_cons]
    constructor
    · rintro ((h | ⟨h, k⟩) | ⟨h, k⟩)
      · exact .inl h
      · exact .inr ⟨.inl h, k⟩
      · exact .inr ⟨.inr h, k⟩
    · rintro (h | ⟨h | h, k⟩)
      · exact .inl (.inl h)
      · exact .inl (.inr ⟨h, k⟩)
      · exact .inr ⟨h, k⟩
theorem outW_go {to : Int → List Int} {met : List Int} {x : Int} : ∀ {last nx : List Int}, x ∈ last.foldl (fun nx v => inW met (to v) nx) nx ↔ x ∈ nx ∨ ((∃ v ∈ last, x ∈ to v) ∧ x ∉ met)
  | [], nx => by simp
  | v :: last, nx => by
    rw [List.foldl_cons, outW_go, inW_mem]
    constructor
    · rintro ((h | ⟨h, k⟩) | ⟨⟨u, hu, h⟩, k⟩)
      · exact .inl h
      · exact .inr ⟨⟨v, List.mem_cons_self .., h⟩, k⟩
      · exact .inr ⟨⟨u, List.mem_cons_of_mem _ hu, h⟩, k⟩
    · rintro (h | ⟨⟨u, hu, h⟩, k⟩)
      · exact .inl (.inl h)
      · rcases List.mem_cons.1 hu with rfl | hu
        · exact .inl (.inr ⟨h, k⟩)
        · exact .inr ⟨⟨u, hu, h⟩, k⟩
theorem nextL_mem {to : Int → List Int} {met last : List Int} {x : Int} : x ∈ nextL to met last ↔ (∃ v ∈ last, x ∈ to v) ∧ x ∉ met := by
  rw [← outW_eq]; unfold outW; rw [outW_go]; simp
theorem stepW_up {met nx : List Int} {w : Int} (h : Up nx) : Up (stepW met nx w) := by
  unfold stepW; split
  · exact h
  · exact putL_up h w
theorem inW_up {met : List Int} : ∀ {ws nx : List Int}, Up nx → Up (inW met ws nx)
  | [], nx, h => h
  | w :: ws, nx, h => inW_up (ws := ws) (stepW_up h)
theorem outW_up {to : Int → List Int} {met : List Int} : ∀ {last nx : List Int}, Up nx → Up (last.foldl (fun nx v => inW met (to v) nx) nx)
  | [], nx, h => h
  | v :: last, nx, h => outW_up (last := last) (inW_up h)
theorem nextL_up (to : Int → List Int) (met last : List Int) : Up (nextL to met last) := outW_up (to := to) (met := met) List.Pairwise.nil
/-- The waves so far. -/
structure WF (to : Int → List Int) (a : Int) (outs : List (List Int)) (met last : List Int) : Prop where
  lv : ∀ k w, outs[k]? = some w → ∀ x, x ∈ w ↔ Dist to a x k
  hmet : ∀ x, x ∈ met ↔ ∃ k, k < outs.length ∧ Dist to a x k
  hlast : outs[outs.length - 1]? = some last
  up : ∀ w ∈ outs, Up w ∧ w ≠ []
  ne : outs ≠ []
theorem WF.start (to : Int → List Int) (a : Int) : WF to a [[a]] [a] [a] where
  lv := fun k w h x => by
    cases k with
    | zero =>
      simp at h; subst h
      exact ⟨fun h => by simp at h; subst h; exact Dist.zero to _, fun h => by simp; exact dist_zero h⟩
    | succ k => simp at h
  hmet := fun x => ⟨fun h => ⟨0, by simp, by simp at h; subst h; exact Dist.zero to _⟩, fun ⟨k, h1, h2⟩ => by
    have : k = 0 := by simp at h1; exact h1
    subst this; simp; exact dist_zero h2⟩
  hlast := rfl
  up := fun w hw => by simp at hw; subst hw; simp
  ne := by simp
theorem WF.next {to : Int → List Int} {a : Int} {outs : List (List Int)} {met last : List Int} (h : WF to a outs met last) (x : Int) : x ∈ nextL to met last ↔ Dist to a x outs.length := by
  have hpos : 0 < outs.length := List.length_pos_iff.2 h.ne
  have hlv := h.lv _ _ h.hlast
  rw [nextL_mem]
  constructor
  · rintro ⟨⟨v, hv, hx⟩, hm⟩
    obtain ⟨⟨p, h1, h2⟩, h3⟩ := (hlv v).1 hv
    have hp := h1.snoc hx
    refine ⟨⟨_, hp, by simp; omega⟩, fun q hq => ?_⟩
    obtain ⟨m, h4, h5⟩ := Dist.of hq
    rcases Nat.lt_or_ge m outs.length with h6 | h6
    · exact absurd ((h.hmet x).2 ⟨m, h6, h4⟩) hm
    · omega
  · intro hd
    obtain ⟨n, hn⟩ : ∃ n, outs.length = n + 1 := ⟨outs.length - 1, by omega⟩
    refine ⟨?_, fun hm => ?_⟩
    · rw [hn] at hd
      obtain ⟨v, hv, hx⟩ := hd.prev
      exact ⟨v, (hlv v).2 (by rw [show outs.length - 1 = n by omega]; exact hv), hx⟩
    · obtain ⟨k, h1, h2⟩ := (h.hmet x).1 hm
      have := h2.uniq hd; omega
theorem WF.go {to : Int → List Int} {a : Int} {outs : List (List Int)} {met last : List Int} (h : WF to a outs met last) (h0 : nextL to met last ≠ []) : WF to a (outs ++ [nextL to met last]) (met ++ nextL to met last) (nextL to met last) where
  lv := fun k w hk x => by
    rcases Nat.lt_trichotomy k outs.length with h1 | h1 | h1
    · rw [List.getElem?_append_left h1] at hk; exact h.lv k w hk x
    · subst h1
      rw [List.getElem?_append_right (Nat.le_refl _)] at hk
      simp at hk; subst hk; exact h.next x
    · rw [List.getElem?_append_right (by omega)] at hk
      have := (List.getElem?_eq_some_iff.1 hk).1
      simp at this; omega
  hmet := fun x => by
    rw [List.mem_append, h.hmet, h.next]
    constructor
    · rintro (⟨k, h1, h2⟩ | h2)
      · exact ⟨k, by simp; omega, h2⟩
      · exact ⟨_, by simp, h2⟩
    · rintro ⟨k, h1, h2⟩
      simp at h1
      rcases Nat.lt_or_ge k outs.length with h3 | h3
      · exact .inl ⟨k, h3, h2⟩
      · obtain rfl : k = outs.length := by omega
        exact .inr h2
  hlast := by simp
  up := fun w hw => by
    rcases List.mem_append.1 hw with hw | hw
    · exact h.up w hw
    · simp at hw; subst hw; exact ⟨nextL_up _ _ _, h0⟩
  ne := by simp
/-- All waves. -/
structure WA (to : Int → List Int) (a : Int) (ws : List (List Int)) : Prop where
  lv : ∀ k x, (∃ w, ws[k]? = some w ∧ x ∈ w) ↔ Dist to a x k
  up : ∀ w ∈ ws, Up w ∧ w ≠ []
  ne : ws ≠ []
theorem WF.stop {to : Int → List Int} {a : Int} {outs : List (List Int)} {met last : List Int} (h : WF to a outs met last) (h0 : nextL to met last = []) : WA to a outs := by
  have hfar : ∀ m x, ¬ Dist to a x (outs.length + m) := by
    intro m
    induction m with
    | zero => intro x hx; have := (h.next x).2 hx; rw [h0] at this; cases this
    | succ m ih => intro x hx; obtain ⟨v, hv, _⟩ := hx.prev; exact ih v hv
  refine ⟨fun k x => ⟨fun ⟨w, h1, h2⟩ => (h.lv k w h1 x).1 h2, fun hd => ?_⟩, h.up, h.ne⟩
  rcases Nat.lt_or_ge k outs.length with h1 | h1
  · exact ⟨outs[k], List.getElem?_eq_getElem h1, (h.lv k _ (List.getElem?_eq_getElem h1) x).2 hd⟩
  · exact absurd (by rw [show outs.length + (k - outs.length) = k by omega]; exact hd) (hfar (k - outs.length) x)
theorem wavesGo_all {to : Int → List Int} {a : Int} (u : List Int) (hu : ∀ v, ∀ w ∈ to v, w ∈ u) : ∀ (n : Nat) (outs : List (List Int)) (met last : List Int), unmet u met < n → WF to a outs met last → WA to a (wavesGo to n outs met last)
  | 0, _, _, _, h, _ => by omega
  | n + 1, outs, met, last, hn, h => by
    rw [wavesGo]
    split
    · rename_i h0; exact h.stop h0
    · rename_i h0
      refine wavesGo_all u hu n _ _ _ ?_ (h.go h0)
      obtain ⟨x, hx⟩ := List.exists_mem_of_ne_nil _ h0
      obtain ⟨⟨v, hv, hxv⟩, hm⟩ := nextL_mem.1 hx
      have := unmet_lt (u := u) (met := met) hx (hu v x hxv) (by
        rw [List.any_eq_false]; intro y hy; simp; intro e; exact hm (e ▸ hy))
      omega
theorem wavesL_all (b : Bool) (xs : List Lk) (a : Int) : WA (tbL b xs) a (wavesL b xs a) := by
  refine wavesGo_all (endsL b xs) (fun v w hw => tb_mem hw) _ _ _ _ ?_ (WF.start _ a)
  have : unmet (endsL b xs) [a] ≤ (endsL b xs).length := List.countP_le_length
  rw [ends_len] at this; omega
def farL (xs : List Lk) (a z : Int) : Int := fidxI (fun w => w.any (fun y => decide (y = z))) (wavesL false xs a)
theorem any_mem {w : List Int} {z : Int} : w.any (fun y => decide (y = z)) = true ↔ z ∈ w := by simp
theorem far_at {xs : List Lk} {a z : Int} {n : Nat} (h : Dist (toL xs) a z n) : farL xs a z = n := by
  have hw : WA (toL xs) a (wavesL false xs a) := wavesL_all false xs a
  obtain ⟨w, h1, h2⟩ := (hw.lv n z).2 h
  refine fidxI_at h1 (any_mem.2 h2) (fun j w' hj hw' => ?_)
  cases k : w'.any (fun y => decide (y = z)) with
  | false => rfl
  | true => have := h.uniq ((hw.lv j z).1 ⟨w', hw', any_mem.1 k⟩); omega
theorem far_none {xs : List Lk} {a z : Int} (h : ∀ p, ¬ Wy (toL xs) a z p) : farL xs a z = -1 := by
  have hw : WA (toL xs) a (wavesL false xs a) := wavesL_all false xs a
  refine fidxI_none (fun j w' hw' => ?_)
  cases k : w'.any (fun y => decide (y = z)) with
  | false => rfl
  | true => obtain ⟨⟨p, hp, _⟩, _⟩ := (hw.lv j z).1 ⟨w', hw', any_mem.1 k⟩; exact absurd hp (h p)
theorem far_iff {xs : List Lk} {a z : Int} {n : Nat} : farL xs a z = n ↔ Dist (toL xs) a z n := by
  refine ⟨fun h => ?_, far_at⟩
  by_cases hp : ∃ p, Wy (toL xs) a z p
  · obtain ⟨p, hp⟩ := hp
    obtain ⟨m, hm, _⟩ := Dist.of hp
    have := far_at hm
    rw [h] at this
    have : n = m := by omega
    exact this ▸ hm
  · have := far_none (fun p h => hp ⟨p, h⟩); omega
theorem far_neg {xs : List Lk} {a z : Int} : farL xs a z < 0 ↔ ∀ p, ¬ Wy (toL xs) a z p := by
  refine ⟨fun h p hp => ?_, fun h => by rw [far_none h]; omega⟩
  obtain ⟨m, hm, _⟩ := Dist.of hp
  rw [far_at hm] at h; omega
def wayGo (xs : List Lk) (z : Int) : Nat → Int → List Int
  | 0, _ => []
  | n + 1, v => match (toL xs v).find? (fun w => decide (farL xs w z = n)) with
    | some w => w :: wayGo xs z n w
    | none => wayGo xs z n v
def wayR (xs : List Lk) (a z : Int) : List Int := if farL xs a z < 0 then [] else a :: wayGo xs z (farL xs a z).toNat a
theorem find_up {l : List Int} (hu : Up l) {p : Int → Bool} {w : Int} (h : l.find? p = some w) {x : Int} (hx : x ∈ l) (hp : p x = true) : w ≤ x := by
  induction l with
  | nil => cases hx
  | cons y l ih =>
    rw [List.find?_cons] at h
    cases hy : p y with
    | true =>
      rw [hy] at h; injection h with h; subst h
      rcases List.mem_cons.1 hx with rfl | hx
      · exact Int.le_refl _
      · have := (List.pairwise_cons.1 hu).1 x hx; omega
    | false =>
      rw [hy] at h
      rcases List.mem_cons.1 hx with rfl | hx
      · rw [hp] at hy; cases hy
      · exact ih (List.pairwise_cons.1 hu).2 h hx
theorem wayGo_least {xs : List Lk} {z : Int} : ∀ (n : Nat) (v : Int), Dist (toL xs) v z n → Lst (toL xs) v z (v :: wayGo xs z n v) ∧ (wayGo xs z n v).length = n
  | 0, v, h => by
    have := dist_zero h; subst this
    refine ⟨⟨Wy.one _ _, fun q hq => ?_⟩, rfl⟩
    rcases hq.un with ⟨rfl, _⟩ | ⟨w, r, rfl, _, _⟩
    · exact lessB_irr _
    · exact lessB_not (by simp [wayGo])
  | n + 1, v, h => by
    obtain ⟨w0, hw0, hd0⟩ := h.next
    cases hf : (toL xs v).find? (fun w => decide (farL xs w z = n)) with
    | none =>
      have := List.find?_eq_none.1 hf w0 hw0
      simp [far_at hd0] at this
    | some w =>
      have hwm := List.mem_of_find?_eq_some hf
      have hwd : Dist (toL xs) w z n := far_iff.1 (of_decide_eq_true (List.find?_some (p := fun w => decide (farL xs w z = n)) hf))
      obtain ⟨⟨ih1, ih2⟩, ih3⟩ := wayGo_least n w hwd
      have e : wayGo xs z (n + 1) v = w :: wayGo xs z n w := by rw [wayGo, hf]
      rw [e]
      refine ⟨⟨ih1.cons hwm, fun q hq => ?_⟩, by simp [ih3]⟩
      rcases hq.un with ⟨rfl, hz⟩ | ⟨w', r, rfl, hw', hr⟩
      · subst hz
        have := h.uniq (Dist.zero _ _); omega
      · rw [lessB_cons]
        have hlen := h.2 _ hq
        simp only [List.length_cons] at hlen
        by_cases hl : r.length = n
        · have hd' : Dist (toL xs) w' z n := ⟨⟨_, hr, by simp [hl]⟩, fun p hp => by have := h.2 _ (hp.cons hw'); simp at this; omega⟩
          have hle := find_up (toL_up xs v) hf hw' (decide_eq_true (far_at hd'))
          by_cases he : w = w'
          · subst he; exact ih2 _ hr
          · unfold lessB
            rw [if_pos (by simp [hl, ih3])]
            simp only [lexB, if_neg (fun x => he (Eq.symm x))]
            exact decide_eq_false (by omega)
        · exact lessB_not (by simp [ih3]; omega)
theorem wayR_least {xs : List Lk} {a z : Int} {p : List Int} (h : Wy (toL xs) a z p) : Lst (toL xs) a z (wayR xs a z) ∧ wayR xs a z ≠ [] := by
  obtain ⟨n, hd, _⟩ := Dist.of h
  unfold wayR
  rw [far_at hd, if_neg (by omega)]
  exact ⟨(wayGo_least n a hd).1, by simp⟩
theorem wayR_none {xs : List Lk} {a z : Int} (h : ∀ p, ¬ Wy (toL xs) a z p) : wayR xs a z = [] := by unfold wayR; rw [if_pos (far_neg.2 h)]
theorem wayR_of {xs : List Lk} {a z : Int} {p : List Int} (h : Lst (toL xs) a z p) : wayR xs a z = p := (wayR_least h.1).1.uniq h
theorem inj_nd : ∀ {l : List (List Int)}, (l.map lastI).Nodup → ∀ {e p : List Int}, e ∈ l → p ∈ l → lastI e = lastI p → e = p
  | [], _, _, _, h, _, _ => by cases h
  | x :: l, hn, e, p, he, hp, hl => by
    rw [List.map_cons, List.nodup_cons] at hn
    rcases List.mem_cons.1 he with he2 | he2 <;> rcases List.mem_cons.1 hp with hp2 | hp2
    · rw [he2, hp2]
    · exact absurd (he2 ▸ hl ▸ List.mem_map.2 ⟨p, hp2, rfl⟩) hn.1
    · exact absurd (hp2 ▸ hl ▸ List.mem_map.2 ⟨e, he2, rfl⟩) hn.1
    · exact inj_nd hn.2 he2 hp2 hl
/-- Who is asked: each by its least way, in their order, and all. -/
structure AF (xs : List Lk) (a : Int) (l : List (List Int)) : Prop where
  sorted : l.Pairwise (fun x y => lessB x y = true)
  least : ∀ p ∈ l, Lst (toL xs) a (lastI p) p
  all : ∀ z q, Wy (toL xs) a z q → ∃ p ∈ l, lastI p = z
theorem askL_all (xs : List Lk) (a : Int) : AF xs a (askL xs a) := by
  obtain ⟨met', h⟩ := AI.run (to := toL xs) (a := a) (toL_up xs) (endsL false xs) (fun v w hw => to_mem hw) (xs.length + 2) [] [a] [[a]] (by
    have : unmet (endsL false xs) [a] ≤ (endsL false xs).length := List.countP_le_length
    rw [ends_len] at this; simp; omega) (AI.start _ a)
  rw [List.nil_append] at h
  change AI (toL xs) a (askL xs a) met' [] at h
  have key : ∀ (n : Nat) (z : Int) (q : List Int), q.length = n → Wy (toL xs) a z q → ∃ e ∈ askL xs a, lastI e = z ∧ lessB q e = false := by
    intro n
    induction n with
    | zero => intro z q hl hq; exact absurd (List.length_eq_zero_iff.1 hl) hq.1.ne
    | succ n ih =>
      intro z q hl hq
      rcases hq.unsnoc with ⟨rfl, rfl⟩ | ⟨q', v, rfl, hq', hz⟩
      · exact ⟨[z], by have := h.fst; simpa using this, rfl, lessB_irr _⟩
      · obtain ⟨e', he', hl', hle⟩ := ih v q' (by simpa using hl) hq'
        obtain ⟨e, he, h1, h2⟩ := h.led e' he' z (by rw [hl']; exact hz)
        rw [List.append_nil] at he
        refine ⟨e, he, h1, lessB_le_trans h2 ?_⟩
        rw [lessB_snoc]; exact hle
  have hwy : ∀ p ∈ askL xs a, Wy (toL xs) a (lastI p) p := fun p hp => by
    have := h.wk p (by simpa using hp); exact ⟨this.1, this.2, rfl⟩
  have hnd : ((askL xs a).map lastI).Nodup := by
    have := h.nd; rw [h.hmet, List.append_nil] at this; exact this
  refine ⟨by have := h.sorted; rwa [List.append_nil] at this, fun p hp => ⟨hwy p hp, fun q hq => ?_⟩, fun z q hq => ?_⟩
  · obtain ⟨e, he, h1, h2⟩ := key _ _ q rfl hq
    have : e = p := by
      exact inj_nd hnd he hp h1
    exact this ▸ h2
  · obtain ⟨e, he, h1, _⟩ := key _ _ q rfl hq
    exact ⟨e, he, h1⟩
end Go.SX
