/- WX: what the laws of chapter 16 ask; in plain Lean. -/
import Derived.Test.YtkhjpgimjkofcaaWr
set_option linter.unusedVariables false
set_option linter.unusedSimpArgs false
namespace Go.SX
open Go
def smallC : List Lk := [(3, 4), (4, 5), (5, 3), (5, 6)]
theorem roundQ (xs : List Lk) : roundR xs = (chainB xs && xs.any (fun y => leadsQ xs y.1 y.1)) := by
  unfold roundR
  congr 2
  funext y
  rw [leadsQ_eq]
theorem closesQ (xs : List Lk) (a z : Int) : (decide (a = z) || leadsR xs z a) = (decide (a = z) || leadsQ xs z a) := by rw [leadsQ_eq]
/-- A way, gone back. -/
theorem Wy.rev {to fr : Int → List Int} (h : ∀ x y, y ∈ to x → x ∈ fr y) : ∀ {p : List Int} {a z : Int}, Wy to a z p → Wy fr z a p.reverse
  | [], a, z, hp => hp.1.elim
  | x :: p, a, z, hp => by
    rcases hp.un with ⟨e, rfl⟩ | ⟨v, r, e, hv, hr⟩
    · injection e with e1 e2
      subst e1; subst e2
      exact Wy.one _ _
    · injection e with e1 e2
      subst e1; subst e2
      have ih := Wy.rev h hr
      rw [List.reverse_cons]
      exact ih.snoc (h _ _ hv)
theorem Dist.rev {to fr : Int → List Int} (h : ∀ x y, y ∈ to x ↔ x ∈ fr y) {a z : Int} {n : Nat} (hd : Dist to a z n) : Dist fr z a n := by
  obtain ⟨⟨p, h1, h2⟩, h3⟩ := hd
  refine ⟨⟨p.reverse, h1.rev (fun x y => (h x y).1), by simpa using h2⟩, fun q hq => ?_⟩
  have := h3 _ (hq.rev (fun x y hy => (h y x).2 hy))
  simpa using this
theorem to_from {xs : List Lk} (x y : Int) : y ∈ toL xs x ↔ x ∈ fromL xs y := by
  unfold toL fromL
  cases chainB xs with
  | false => simp
  | true =>
    simp only [if_true, List.mem_map, List.mem_filter, decide_eq_true_eq]
    constructor
    · rintro ⟨l, ⟨h1, h2⟩, h3⟩; exact ⟨l, ⟨h1, h3⟩, h2⟩
    · rintro ⟨l, ⟨h1, h2⟩, h3⟩; exact ⟨l, ⟨h1, h3⟩, h2⟩
theorem far_wave {xs : List Lk} {a : Int} {k : Nat} {w : List Int} (h : (wavesL false xs a)[k]? = some w) : w ≠ [] ∧ w.Pairwise (· ≤ ·) := by
  have := (wavesL_all false xs a).up w (List.mem_of_getElem? h)
  exact ⟨this.2, this.1.imp (fun h => by omega)⟩
theorem far_dist {xs : List Lk} {a v : Int} {k : Nat} {w : List Int} (h : (wavesL false xs a)[k]? = some w) (hv : v ∈ w) : Dist (toL xs) a v k := ((wavesL_all false xs a).lv k v).1 ⟨w, h, hv⟩
theorem far_leads {xs : List Lk} {a v : Int} {k : Nat} (h : Dist (toL xs) a v k) (hk : 0 < k) : leadsR xs a v = true := by
  obtain ⟨n, rfl⟩ : ∃ n, k = n + 1 := ⟨k - 1, by omega⟩
  obtain ⟨u, hu, hd⟩ := h.next
  obtain ⟨⟨p, hp, _⟩, _⟩ := hd
  exact leads_iff.2 ⟨u, hu, p, hp⟩
theorem far_back {xs : List Lk} {a v : Int} {k : Nat} (h : Dist (toL xs) a v k) : ∃ w, (wavesL true xs v)[k]? = some w ∧ a ∈ w := by
  have h1 : Dist (fromL xs) v a k := h.rev to_from
  exact ((wavesL_all true xs v).lv k a).2 h1
theorem far_near {xs : List Lk} {a v u : Int} {k : Nat} (h : Dist (toL xs) a v k) (hu : u ∈ toL xs v) : 0 ≤ farL xs a u ∧ farL xs a u ≤ k + 1 := by
  obtain ⟨⟨p, hp, hl⟩, _⟩ := h
  obtain ⟨n, hn, hle⟩ := Dist.of (hp.snoc hu)
  rw [far_at hn]
  simp at hle; omega
theorem far_idx (xs : List Lk) (a u : Int) : fidxI (fun w => w.any (fun y => decide (u = y))) (wavesL false xs a) = farL xs a u := by
  unfold farL
  congr 1
  funext w
  congr 1
  funext y
  exact decide_eq_decide.2 ⟨fun h => h.symm, fun h => h.symm⟩
theorem waves_ne (b : Bool) (xs : List Lk) (a : Int) : 0 < (wavesL b xs a).length := List.length_pos_iff.2 (wavesL_all b xs a).ne
/-- Who is met ahead of a place. -/
theorem far_new {xs : List Lk} {a v : Int} {k i : Nat} {w : List Int} (h : (wavesL false xs a)[k]? = some w) (hv : w[i]? = some v) : v ∉ ((wavesL false xs a).take k).flatten ++ w.take i := by
  intro hm
  have hd := far_dist h (List.mem_of_getElem? hv)
  rcases List.mem_append.1 hm with hm | hm
  · obtain ⟨w2, h1, h2⟩ := List.mem_flatten.1 hm
    obtain ⟨j, hj⟩ := List.mem_iff_getElem?.1 h1
    have hjk : j < k := by have := (List.getElem?_eq_some_iff.1 hj).1; simp at this; omega
    rw [List.getElem?_take_of_lt hjk] at hj
    have := (far_dist hj h2).uniq hd
    omega
  · exact not_take (up_nodup ((wavesL_all false xs a).up w (List.mem_of_getElem? h)).1) hv hm
theorem flat_snoc {ws : List (List Int)} {k i : Nat} {w : List Int} {v : Int} (h : w[i]? = some v) : (ws.take k).flatten ++ w.take (i + 1) = ((ws.take k).flatten ++ w.take i) ++ [v] := by
  rw [take_snoc _ _ _ h, List.append_assoc]
end Go.SX
