/- WJ: the reference of heir, and that it answers as heir does; in plain Lean. -/
import Derived.Test.YtkhjpgimjkofcaaWh
set_option linter.unusedVariables false
set_option linter.unusedSimpArgs false
namespace Go.SX
open Go

theorem sorted_ext : ∀ {l m : List (List Int)}, l.Pairwise (fun x y => lessB x y = true) → m.Pairwise (fun x y => lessB x y = true) → (∀ x, x ∈ l ↔ x ∈ m) → l = m
  | [], [], _, _, _ => rfl
  | [], y :: m, _, _, h => by have := (h y).2 (List.mem_cons_self ..); cases this
  | x :: l, [], _, _, h => by have := (h x).1 (List.mem_cons_self ..); cases this
  | x :: l, y :: m, hl, hm, h => by
    rw [List.pairwise_cons] at hl hm
    have hxy : x = y := by
      rcases List.mem_cons.1 ((h x).1 (List.mem_cons_self ..)) with e | h1
      · exact e
      · rcases List.mem_cons.1 ((h y).2 (List.mem_cons_self ..)) with e | h2
        · exact e.symm
        · have := lessB_asym (hm.1 x h1); rw [hl.1 y h2] at this; cases this
    subst hxy
    rw [sorted_ext hl.2 hm.2 (fun z => ?_)]
    have hz := h z
    constructor
    · intro hzl
      rcases List.mem_cons.1 (hz.1 (List.mem_cons_of_mem _ hzl)) with e | h1
      · have h2 := hl.1 z hzl; rw [e, lessB_irr] at h2; cases h2
      · exact h1
    · intro hzm
      rcases List.mem_cons.1 (hz.2 (List.mem_cons_of_mem _ hzm)) with e | h1
      · have h2 := hm.1 z hzm; rw [e, lessB_irr] at h2; cases h2
      · exact h1
def insK (ws : List (List Int)) (w : List Int) : Nat := (ws.takeWhile (fun x => lessB x w)).length
def insW (ws : List (List Int)) (w : List Int) : List (List Int) := ws.take (insK ws w) ++ [w] ++ ws.drop (insK ws w)
theorem insK_eq : ∀ {l : List (List Int)} {w : List Int} {k : Nat}, (∀ (j : Nat) y, j < k → l[j]? = some y → lessB y w = true) → k ≤ l.length → (∀ y, l[k]? = some y → lessB y w = false) → insK l w = k
  | [], w, k, _, hk, _ => by simp at hk; subst hk; rfl
  | a :: l, w, 0, _, _, h => by have := h a rfl; simp [insK, List.takeWhile_cons, this]
  | a :: l, w, k + 1, h, hk, h2 => by
    have h1 : lessB a w = true := h 0 a (by omega) rfl
    have ih := insK_eq (l := l) (w := w) (k := k) (fun j y hj hy => h (j + 1) y (by omega) (by simpa using hy)) (by simpa using hk) (fun y hy => h2 y (by simpa using hy))
    unfold insK at ih ⊢
    simp [List.takeWhile_cons, h1, ih]
theorem insK_le (l : List (List Int)) (w : List Int) : insK l w ≤ l.length := by
  unfold insK; exact (List.takeWhile_prefix _).length_le
theorem insW_len (l : List (List Int)) (w : List Int) : (insW l w).length = l.length + 1 := by
  have := insK_le l w
  unfold insW; simp; omega
theorem insW_mem {l : List (List Int)} {w x : List Int} : x ∈ insW l w ↔ x = w ∨ x ∈ l := by
  unfold insW
  have : x ∈ l ↔ x ∈ l.take (insK l w) ∨ x ∈ l.drop (insK l w) := by
    rw [← List.mem_append, List.take_append_drop]
  rw [this]
  simp only [List.mem_append, List.mem_singleton]
  exact ⟨fun h => h.elim (fun h => h.elim (fun h => .inr (.inl h)) .inl) (fun h => .inr (.inr h)), fun h => h.elim (fun h => .inl (.inr h)) (fun h => h.elim (fun h => .inl (.inl h)) .inr)⟩
theorem insW_cons_lt {x : List Int} {l : List (List Int)} {w : List Int} (h : lessB x w = true) : insW (x :: l) w = x :: insW l w := by
  unfold insW insK
  simp [List.takeWhile_cons, h]
theorem insW_cons_ge {x : List Int} {l : List (List Int)} {w : List Int} (h : lessB x w = false) : insW (x :: l) w = w :: x :: l := by
  unfold insW insK
  simp [List.takeWhile_cons, h]
theorem insW_sorted : ∀ {l : List (List Int)} {w : List Int}, l.Pairwise (fun x y => lessB x y = true) → w ∉ l → (insW l w).Pairwise (fun x y => lessB x y = true)
  | [], w, _, _ => by simp [insW, insK]
  | x :: l, w, h, hn => by
    rw [List.pairwise_cons] at h
    cases hx : lessB x w with
    | true =>
      rw [insW_cons_lt hx, List.pairwise_cons]
      refine ⟨fun y hy => ?_, insW_sorted h.2 (fun hm => hn (List.mem_cons_of_mem _ hm))⟩
      rcases insW_mem.1 hy with rfl | hy
      · exact hx
      · exact h.1 y hy
    | false =>
      have hwx : lessB w x = true := by
        cases k : lessB w x with
        | true => rfl
        | false => exact absurd (lessB_tri k hx ▸ List.mem_cons_self ..) hn
      rw [insW_cons_ge hx, List.pairwise_cons]
      refine ⟨fun y hy => ?_, List.pairwise_cons.2 h⟩
      rcases List.mem_cons.1 hy with rfl | hy
      · exact hwx
      · exact lessB_trans hwx (h.1 y hy)
def orderGo (xs : List Lk) (a : Int) (vs : List Int) (ws : List (List Int)) : List (List Int) := vs.foldl (fun ws v => insW ws (wayR xs a v)) ws
def orderW (xs : List Lk) (a : Int) : List (List Int) := orderGo xs a (wavesL false xs a).flatten []
theorem order_go {xs : List Lk} {a : Int} : ∀ (vs : List Int) (ws : List (List Int)), ws.Pairwise (fun x y => lessB x y = true) → vs.Nodup → (∀ v ∈ vs, ∃ p, Wy (toL xs) a v p) → (∀ v ∈ vs, ∀ w ∈ ws, lastI w ≠ v) →
    (orderGo xs a vs ws).Pairwise (fun x y => lessB x y = true) ∧ ∀ x, x ∈ orderGo xs a vs ws ↔ x ∈ ws ∨ ∃ v ∈ vs, x = wayR xs a v
  | [], ws, h, _, _, _ => ⟨h, fun x => by simp [orderGo]⟩
  | v :: vs, ws, h, hn, hr, hd => by
    rw [List.nodup_cons] at hn
    obtain ⟨p, hp⟩ := hr v (List.mem_cons_self ..)
    have hl : lastI (wayR xs a v) = v := (wayR_least hp).1.1.2.2
    obtain ⟨h1, h2⟩ := order_go vs (insW ws (wayR xs a v)) (insW_sorted h (fun hm => hd v (List.mem_cons_self ..) _ hm hl)) hn.2 (fun u hu => hr u (List.mem_cons_of_mem _ hu)) (fun u hu w hw => by
      rcases insW_mem.1 hw with rfl | hw
      · rw [hl]; exact fun e => hn.1 (e ▸ hu)
      · exact hd u (List.mem_cons_of_mem _ hu) w hw)
    refine ⟨h1, fun x => (h2 x).trans ?_⟩
    rw [insW_mem]
    simp only [List.mem_cons]
    constructor
    · rintro ((h | h) | ⟨u, hu, h⟩)
      · exact .inr ⟨v, .inl rfl, h⟩
      · exact .inl h
      · exact .inr ⟨u, .inr hu, h⟩
    · rintro (h | ⟨u, rfl | hu, h⟩)
      · exact .inl (.inr h)
      · exact .inl (.inl h)
      · exact .inr ⟨u, hu, h⟩
theorem waves_flat (xs : List Lk) (a : Int) : (wavesL false xs a).flatten.Nodup ∧ ∀ v, v ∈ (wavesL false xs a).flatten ↔ ∃ p, Wy (toL xs) a v p := by
  have hw : WA (toL xs) a (wavesL false xs a) := wavesL_all false xs a
  refine ⟨?_, fun v => ⟨fun h => ?_, fun ⟨p, hp⟩ => ?_⟩⟩
  · refine List.pairwise_flatten.2 ⟨fun w hm => up_nodup (hw.up w hm).1, List.pairwise_iff_getElem.2 (fun i j hi hj hij x hx y hy e => ?_)⟩
    subst e
    have h1 := (hw.lv i x).1 ⟨_, List.getElem?_eq_getElem hi, hx⟩
    have h2 := (hw.lv j x).1 ⟨_, List.getElem?_eq_getElem hj, hy⟩
    have := h1.uniq h2; omega
  · obtain ⟨w, hm, hv⟩ := List.mem_flatten.1 h
    obtain ⟨k, hk⟩ := List.mem_iff_getElem?.1 hm
    obtain ⟨⟨p, hp, _⟩, _⟩ := (hw.lv k v).1 ⟨w, hk, hv⟩
    exact ⟨p, hp⟩
  · obtain ⟨n, hd, _⟩ := Dist.of hp
    obtain ⟨w, h1, h2⟩ := (hw.lv n v).2 hd
    exact List.mem_flatten.2 ⟨w, List.mem_of_getElem? h1, h2⟩
theorem order_eq (xs : List Lk) (a : Int) : orderW xs a = askL xs a := by
  obtain ⟨hn, hv⟩ := waves_flat xs a
  have hA := askL_all xs a
  obtain ⟨h1, h2⟩ := order_go (wavesL false xs a).flatten [] List.Pairwise.nil hn (fun v h => (hv v).1 h) (fun v _ w hw => by cases hw)
  refine sorted_ext h1 hA.sorted (fun x => (h2 x).trans ?_)
  constructor
  · rintro (h | ⟨v, h, rfl⟩)
    · cases h
    · obtain ⟨p, hp⟩ := (hv v).1 h
      obtain ⟨e, he, hl⟩ := hA.all v p hp
      have := hA.least e he
      rw [hl] at this
      rw [wayR_of this]; exact he
  · intro h
    have := hA.least x h
    exact .inr ⟨lastI x, (hv _).2 ⟨x, this.1⟩, (wayR_of this).symm⟩
theorem way_in {xs : List Lk} {a z : Int} (h : wayR xs a z ≠ []) : wayR xs a z ∈ askL xs a ∧ lastI (wayR xs a z) = z := by
  by_cases hp : ∃ p, Wy (toL xs) a z p
  · obtain ⟨p, hp⟩ := hp
    have hl := wayR_least hp
    obtain ⟨e, he, h1⟩ := (askL_all xs a).all z p hp
    have h2 := (askL_all xs a).least e he
    rw [h1] at h2
    exact ⟨by rw [wayR_of h2]; exact he, hl.1.1.2.2⟩
  · exact absurd (wayR_none (fun p h => hp ⟨p, h⟩)) h
theorem ask_way {xs : List Lk} {a : Int} {p : List Int} (h : p ∈ askL xs a) : p = wayR xs a (lastI p) := (wayR_of ((askL_all xs a).least p h)).symm
theorem find_sorted : ∀ {l : List (List Int)} {p : List Int → Bool} {w : List Int}, l.Pairwise (fun x y => lessB x y = true) → l.find? p = some w → ∀ q ∈ l, p q = true → lessB q w = false
  | [], _, _, _, h, _, _, _ => by cases h
  | x :: l, p, w, hs, h, q, hq, hp => by
    rw [List.pairwise_cons] at hs
    rw [List.find?_cons] at h
    cases hx : p x with
    | true =>
      rw [hx] at h; injection h with h; subst h
      rcases List.mem_cons.1 hq with rfl | hq
      · exact lessB_irr _
      · exact lessB_asym (hs.1 q hq)
    | false =>
      rw [hx] at h
      rcases List.mem_cons.1 hq with rfl | hq
      · rw [hp] at hx; cases hx
      · exact find_sorted hs.2 h q hq hp
/-- The first way, and what is told of it. -/
def tellW (w : List Int) : Int × List Int × Int := if w = [] then (0, [], 4) else (lastI w, w, 0)
theorem way_first {xs : List Lk} (hc : chainB xs = true) (a z : Int) : firstR xs a (fun x => decide (x = z)) = tellW (wayR xs a z) := by
  unfold firstR tellW
  rw [if_pos hc]
  cases hf : (askL xs a).find? (fun w => decide (lastI w = z)) with
  | none =>
    have h0 : wayR xs a z = [] := by
      refine Decidable.byContradiction fun hn => ?_
      obtain ⟨h1, h2⟩ := way_in hn
      have := List.find?_eq_none.1 hf _ h1
      simp [h2] at this
    rw [h0]; rfl
  | some w =>
    have h1 := List.mem_of_find?_eq_some hf
    have h2 : lastI w = z := of_decide_eq_true (List.find?_some (p := fun w => decide (lastI w = z)) hf)
    have h3 := ask_way h1
    rw [h2] at h3
    rw [← h3, if_neg (askL_ne h1)]
def ownerGo (xs : List Lk) (a : Int) : List Int → List Int → List Int
  | [], best => best
  | o :: os, best => ownerGo xs a os (if wayR xs a o ≠ [] ∧ (best = [] ∨ lessB (wayR xs a o) best = true) then wayR xs a o else best)
def ownerW (xs : List Lk) (a : Int) (os : List Int) : List Int := ownerGo xs a os []
theorem owner_go {xs : List Lk} {a : Int} : ∀ (os best : List Int), (∀ x, ownerGo xs a os best = x → (x = best ∨ ∃ o ∈ os, x = wayR xs a o) ∧ (x = [] → best = [] ∧ ∀ o ∈ os, wayR xs a o = []) ∧
    (∀ o ∈ os, wayR xs a o = [] ∨ lessB (wayR xs a o) x = false) ∧ (best = [] ∨ lessB best x = false))
  | [], best, x, h => by
    change best = x at h
    subst h
    exact ⟨.inl rfl, fun h => ⟨h, fun o ho => (by cases ho)⟩, fun o ho => (by cases ho), .inr (lessB_irr _)⟩
  | o :: os, best, x, h => by
    rw [ownerGo] at h
    by_cases hc : wayR xs a o ≠ [] ∧ (best = [] ∨ lessB (wayR xs a o) best = true)
    · rw [if_pos hc] at h
      obtain ⟨h1, h2, h3, h4⟩ := owner_go os _ x h
      have h5 : lessB (wayR xs a o) x = false := h4.resolve_left hc.1
      refine ⟨.inr ?_, fun hx => absurd (h2 hx).1 hc.1, fun q hq => ?_, ?_⟩
      · rcases h1 with h1 | ⟨q, hq, h1⟩
        · exact ⟨o, List.mem_cons_self .., h1⟩
        · exact ⟨q, List.mem_cons_of_mem _ hq, h1⟩
      · rcases List.mem_cons.1 hq with rfl | hq
        · exact .inr h5
        · exact h3 q hq
      · rcases hc.2 with h6 | h6
        · exact .inl h6
        · refine .inr ?_
          exact lessB_le_trans h5 (lessB_asym h6)
    · rw [if_neg hc] at h
      obtain ⟨h1, h2, h3, h4⟩ := owner_go os _ x h
      have h7 : wayR xs a o = [] ∨ (best ≠ [] ∧ lessB (wayR xs a o) best = false) := by
        by_cases e : wayR xs a o = []
        · exact .inl e
        · refine .inr ⟨fun hb => hc ⟨e, .inl hb⟩, ?_⟩
          cases k : lessB (wayR xs a o) best with
          | false => rfl
          | true => exact absurd ⟨e, .inr k⟩ hc
      refine ⟨h1.imp id (fun ⟨q, hq, h1⟩ => ⟨q, List.mem_cons_of_mem _ hq, h1⟩), fun hx => ?_, fun q hq => ?_, h4⟩
      · obtain ⟨hb, ho⟩ := h2 hx
        refine ⟨hb, fun q hq => ?_⟩
        rcases List.mem_cons.1 hq with rfl | hq
        · exact h7.resolve_right (fun h => h.1 hb)
        · exact ho q hq
      · rcases List.mem_cons.1 hq with rfl | hq
        · rcases h7 with h7 | ⟨h7, h8⟩
          · exact .inl h7
          · exact .inr (lessB_le_trans (h4.resolve_left h7) h8)
        · exact h3 q hq
theorem owner_first {xs : List Lk} (hc : chainB xs = true) (a : Int) (os : List Int) : firstR xs a (ownP os) = tellW (ownerW xs a os) := by
  obtain ⟨h1, h2, h3, _⟩ := owner_go (xs := xs) (a := a) os [] _ rfl
  change (ownerW xs a os = [] ∨ ∃ o ∈ os, ownerW xs a os = wayR xs a o) at h1
  change (ownerW xs a os = [] → _) at h2
  change (∀ o ∈ os, wayR xs a o = [] ∨ lessB (wayR xs a o) (ownerW xs a os) = false) at h3
  unfold firstR tellW
  rw [if_pos hc]
  have hown : ∀ x, ownP os x = true ↔ x ∈ os := fun x => by
    unfold ownP
    rw [List.any_eq_true]
    exact ⟨fun ⟨y, hy, e⟩ => of_decide_eq_true e ▸ hy, fun h => ⟨x, h, by simp⟩⟩
  cases hf : (askL xs a).find? (fun w => ownP os (lastI w)) with
  | none =>
    have h0 : ownerW xs a os = [] := by
      refine Decidable.byContradiction fun hn => ?_
      obtain ⟨o, ho, he⟩ := h1.resolve_left hn
      rw [he] at hn
      obtain ⟨h4, h5⟩ := way_in hn
      have := List.find?_eq_none.1 hf _ h4
      rw [h5] at this
      exact this ((hown o).2 ho)
    rw [h0]; rfl
  | some w =>
    have h4 := List.mem_of_find?_eq_some hf
    have h5 : ownP os (lastI w) = true := List.find?_some (p := fun w => ownP os (lastI w)) hf
    have h6 := ask_way h4
    have hwn := askL_ne h4
    have ho := (hown _).1 h5
    have hne : ownerW xs a os ≠ [] := fun e => by
      have := (h2 e).2 _ ho
      rw [← h6] at this; exact hwn this
    obtain ⟨o, hoo, he⟩ := h1.resolve_left hne
    have hn2 := hne
    rw [he] at hn2
    obtain ⟨h7, h8⟩ := way_in hn2
    have h9 := find_sorted (askL_all xs a).sorted hf _ h7 (by simp only [h8]; exact (hown o).2 hoo)
    have h10 : lessB w (ownerW xs a os) = false := by
      have := (h3 _ ho).resolve_left (by rw [← h6]; exact hwn)
      rwa [← h6] at this
    rw [← he] at h9
    rw [← lessB_tri h10 h9, if_neg hwn]
/-- Is the i-th link's own an heir? -/
def heirQ (xs : List Lk) (f : Int) (os : List Int) (i : Nat) : Bool :=
  match xs[i]? with
  | none => false
  | some y => (decide (i = 0) || !decide (((xs[i - 1]?).map (·.1)) = some y.1)) && !decide (y.1 = f) && !decide (ownerW xs y.1 os = []) && decide (lastI (ownerW xs y.1 os) = f)
def heirsQK (xs : List Lk) (f : Int) (os : List Int) (k : Nat) : List Int := ((List.range k).filter (heirQ xs f os)).map (fun i => ((xs[i]?).map (·.1)).getD 0)
theorem heirsQK_yes {xs : List Lk} {f : Int} {os : List Int} {k : Nat} {y : Lk} (hy : xs[k]? = some y) (h : heirQ xs f os k = true) : heirsQK xs f os (k + 1) = heirsQK xs f os k ++ [y.1] := by
  unfold heirsQK; rw [List.range_succ, List.filter_append, List.map_append]; simp [h, hy]
theorem heirsQK_no {xs : List Lk} {f : Int} {os : List Int} {k : Nat} (h : heirQ xs f os k = false) : heirsQK xs f os (k + 1) = heirsQK xs f os k := by
  unfold heirsQK; rw [List.range_succ, List.filter_append, List.map_append]; simp [h]
theorem heirsQK_len (xs : List Lk) (f : Int) (os : List Int) (k : Nat) : (heirsQK xs f os k).length ≤ k := by
  unfold heirsQK
  rw [List.length_map]
  have := List.length_filter_le (heirQ xs f os) (List.range k)
  simpa using this
theorem heir_same {xs : List Lk} (hc : chainB xs = true) (f : Int) (os : List Int) (i : Nat) : heirAt xs f os i = heirQ xs f os i := by
  unfold heirAt heirQ
  cases hi : xs[i]? with
  | none => rfl
  | some y =>
    simp only []
    rw [owner_first hc]
    unfold tellW
    by_cases h0 : ownerW xs y.1 os = []
    · rw [if_pos h0]; simp [h0]
    · rw [if_neg h0]
      by_cases hz : i = 0
      · subst hz; simp [h0]
      · have : 0 < i := by omega
        simp only [this, hz, h0, decide_true, decide_false, Bool.true_and, Bool.false_or, Bool.and_true, Bool.not_false]
        cases decide (y.1 = f) <;> simp
theorem heirs_same {xs : List Lk} (hc : chainB xs = true) (f : Int) (os : List Int) : heirsR xs f os = heirsQK xs f os xs.length := by
  unfold heirsR heirsK heirsQK
  rw [if_pos hc]
  congr 1
  exact List.filter_congr (fun i _ => heir_same hc f os i)
end Go.SX
namespace Go.SX
open Go
theorem wavesGo_len (to : Int → List Int) : ∀ (n : Nat) (outs : List (List Int)) (met last : List Int), (wavesGo to n outs met last).length ≤ outs.length + n
  | 0, outs, met, last => by simp [wavesGo]
  | n + 1, outs, met, last => by
    rw [wavesGo]; split
    · omega
    · have := wavesGo_len to n (outs ++ [nextL to met last]) (met ++ nextL to met last) (nextL to met last)
      simp at this; omega
theorem wavesL_len (b : Bool) (xs : List Lk) (a : Int) : (wavesL b xs a).length ≤ xs.length + 2 := by
  have := wavesGo_len (tbL b xs) (xs.length + 1) [[a]] [a] [a]
  unfold wavesL; simp at this; omega
theorem fidxI_le {α : Type} (p : α → Bool) (l : List α) : fidxI p l ≤ l.length := by
  unfold fidxI
  cases h : l.findIdx? p with
  | none => show (-1 : Int) ≤ l.length; omega
  | some i =>
    have := (List.findIdx?_eq_some_iff_getElem.1 h).1
    show (i : Int) ≤ l.length; omega
theorem far_le (xs : List Lk) (a z : Int) : farL xs a z ≤ xs.length + 2 := by
  have h1 := fidxI_le (fun w : List Int => w.any (fun y => decide (y = z))) (wavesL false xs a)
  have h2 := wavesL_len false xs a
  unfold farL; omega
theorem find_at {l : List Int} {p : Int → Bool} {i : Nat} {w : Int} (h : l[i]? = some w) (hp : p w = true) (hlt : ∀ (j : Nat) z, j < i → l[j]? = some z → p z = false) : l.find? p = some w := by
  induction l generalizing i with
  | nil => simp at h
  | cons x l ih =>
    rw [List.find?_cons]
    cases i with
    | zero => simp at h; subst h; rw [hp]
    | succ i =>
      rw [hlt 0 x (by omega) rfl]
      exact ih (by simpa using h) (fun j z hj hz => hlt (j + 1) z (by omega) (by simpa using hz))
theorem find_no {l : List Int} {p : Int → Bool} (h : ∀ (j : Nat) z, j < l.length → l[j]? = some z → p z = false) : l.find? p = none := by
  refine List.find?_eq_none.2 (fun x hx => ?_)
  obtain ⟨j, hj⟩ := List.mem_iff_getElem?.1 hx
  simp [h j x (List.getElem?_eq_some_iff.1 hj).1 hj]
theorem wayGo_yes {xs : List Lk} {z v w : Int} {n : Nat} (h : (toL xs v).find? (fun w => decide (farL xs w z = n)) = some w) : wayGo xs z (n + 1) v = w :: wayGo xs z n w := by rw [wayGo, h]
theorem wayGo_no {xs : List Lk} {z v : Int} {n : Nat} (h : (toL xs v).find? (fun w => decide (farL xs w z = n)) = none) : wayGo xs z (n + 1) v = wayGo xs z n v := by rw [wayGo, h]
theorem lexB_at : ∀ {xs ys : List Int} {k : Nat} {a b : Int}, xs.take k = ys.take k → xs[k]? = some a → ys[k]? = some b → a ≠ b → lexB xs ys = decide (a < b)
  | [], _, _, _, _, _, h, _, _ => by simp at h
  | _ :: _, [], _, _, _, _, _, h, _ => by simp at h
  | x :: xs, y :: ys, 0, a, b, _, h, k, hn => by
    simp at h k; subst h; subst k
    simp [lexB, hn]
  | x :: xs, y :: ys, n + 1, a, b, ht, h, k, hn => by
    simp at ht h k
    simp only [lexB, if_pos ht.1]
    exact lexB_at ht.2 h k hn
theorem orderGo_snoc (xs : List Lk) (a : Int) (vs : List Int) (v : Int) (ws : List (List Int)) : orderGo xs a (vs ++ [v]) ws = insW (orderGo xs a vs ws) (wayR xs a v) := by unfold orderGo; rw [List.foldl_append]; rfl
theorem orderGo_len (xs : List Lk) (a : Int) : ∀ (vs : List Int) (ws : List (List Int)), (orderGo xs a vs ws).length = ws.length + vs.length
  | [], ws => rfl
  | v :: vs, ws => by
    show (orderGo xs a vs (insW ws (wayR xs a v))).length = _
    rw [orderGo_len, insW_len]; simp; omega
theorem flat_len (xs : List Lk) (a : Int) : (wavesL false xs a).flatten.length ≤ xs.length + 1 := by
  obtain ⟨hn, hv⟩ := waves_flat xs a
  have := nodup_len (u := a :: endsL false xs) hn (fun x hx => by
    obtain ⟨p, hp⟩ := (hv x).1 hx
    rcases hp.unsnoc with ⟨_, h⟩ | ⟨q, v, _, _, h⟩
    · rw [h]; exact List.mem_cons_self ..
    · exact List.mem_cons_of_mem _ (to_mem h))
  rw [List.length_cons, ends_len] at this; exact this
theorem flat_pre {ws : List (List Int)} {k i : Nat} {w : List Int} (h : ws[k]? = some w) : ((ws.take k).flatten ++ w.take i).length ≤ ws.flatten.length := by
  have h2 := List.getElem?_eq_some_iff.1 h
  have e : ws = ws.take k ++ w :: ws.drop (k + 1) := by
    conv => lhs; rw [← List.take_append_drop k ws]
    rw [List.drop_eq_getElem_cons h2.1, h2.2]
  have : ws.flatten.length = (ws.take k).flatten.length + (w.length + (ws.drop (k + 1)).flatten.length) := by
    conv => lhs; rw [e]
    simp
  rw [this]; simp; omega
theorem flat_take {ws : List (List Int)} {k : Nat} {w : List Int} (h : ws[k]? = some w) : (ws.take (k + 1)).flatten = (ws.take k).flatten ++ w := by
  rw [List.take_add_one, h]; simp
theorem mem_flat {ws : List (List Int)} {k i : Nat} {w : List Int} {v : Int} (h : ws[k]? = some w) (hv : w[i]? = some v) : v ∈ ws.flatten := List.mem_flatten.2 ⟨w, List.mem_of_getElem? h, List.mem_of_getElem? hv⟩
theorem order_in {xs : List Lk} {a : Int} {w : List Int} (h : w ∈ orderW xs a) : w ≠ [] := by rw [order_eq] at h; exact askL_ne h
theorem isNone_of {α : Type} {E : ER α} {H : Heap} {A : Option Addr} {n c : Nat} {xs : List α} (h : RdS E H (.slice A n c) xs) (h0 : xs = [] → Value.slice A n c = .slice none 0 0) : A.isNone = decide (xs = []) := by
  cases A with
  | none => rw [h.none_nil]; rfl
  | some a =>
    have : xs ≠ [] := fun e => by have := h0 e; cases this
    simp [this]
theorem ownerGo_yes {xs : List Lk} {a o : Int} {os best : List Int} (h : wayR xs a o ≠ [] ∧ (best = [] ∨ lessB (wayR xs a o) best = true)) : ownerGo xs a (o :: os) best = ownerGo xs a os (wayR xs a o) := by rw [ownerGo, if_pos h]
theorem ownerGo_no {xs : List Lk} {a o : Int} {os best : List Int} (h : ¬ (wayR xs a o ≠ [] ∧ (best = [] ∨ lessB (wayR xs a o) best = true))) : ownerGo xs a (o :: os) best = ownerGo xs a os best := by rw [ownerGo, if_neg h]
theorem drop_at {α : Type} {l : List α} {k : Nat} {x : α} (h : l[k]? = some x) : l.drop k = x :: l.drop (k + 1) := by
  have h2 := List.getElem?_eq_some_iff.1 h
  rw [List.drop_eq_getElem_cons h2.1, h2.2]
end Go.SX
