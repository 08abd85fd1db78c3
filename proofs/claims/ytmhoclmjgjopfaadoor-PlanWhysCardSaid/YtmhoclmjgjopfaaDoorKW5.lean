/- 'PlanWhys' answers true, whatever it is handed, and what it is handed reads behind it as it did: the row, and its tied card. -/
import Derived.RangeFuncNested
import Derived.RangeFuncBound
import Derived.RangeFuncCalls
import Derived.RangeFuncLeaves
import Derived.Shelf.Abstract
import Derived.Laws.AppendOwn
import Derived.Laws.OwnMore
import Derived.KernelRfl
import Derived.IntWalk
import Derived.Laws.Append
import Derived.WideLaws
import Derived.Laws.Slices
import Derived.Laws.MakeOwn
import Derived.OrdersIn
import Derived.Laws.Cover3
import Derived.Test.YtmhoclmjgjopfaaDoorProg
import Derived.Laws.StructEq
import Derived.Shelf.Sort.Plain
import Derived.Sort.OwnSortedInts
import Derived.Shelf.Slices.In.SortNone
import Derived.Shelf.Slices.CompactI
import Derived.Lib.AppendZeros
import Derived.ProofKit
import Derived.ChangeSlices
import Derived.Carry
import Derived.Deep.Slices
import Derived.OpenShut
import Derived.Test.YtmhoclmjgjopfaaDoorCards
import Derived.Test.YtmhoclmjgjopfaaDoorTie
import Derived.LaidMore
import Derived.Stop.Joined
import Derived.MakeChecks
import Derived.Test.YtmhoclmjgjopfaaDoorKW4
set_option linter.unusedVariables false
set_option linter.unusedSimpArgs false
namespace Go.SX
open Go
theorem within1B (lo hi a : Int) : withinB lo hi [a] = true ↔ lo ≤ a ∧ a ≤ hi := by simp [withinB]
theorem rtraits_iff (t : Tr) : windroseref13_RightTraits_m t = 0 ↔ MayT t := by
  unfold windroseref13_RightTraits_m MayT
  simp only [is_r, LR.seq]
  have h1 := within1B 0 4 t.2.2.1
  have h2 := within1B 0 2 t.2.2.2.1
  have h3 := within1B 0 2 t.2.2.2.2
  cases e1 : withinB 0 4 [t.2.2.1] with
  | false =>
    rw [Bool.not_false, if_pos rfl]
    refine ⟨fun k => (by cases k), fun k => ?_⟩
    have := h1.2 ⟨k.1, k.2.1⟩; rw [e1] at this; cases this
  | true =>
    rw [Bool.not_true, if_neg Bool.false_ne_true]
    cases e2 : withinB 0 2 [t.2.2.2.1] with
    | false =>
      rw [Bool.not_false, if_pos rfl, if_pos rfl]
      refine ⟨fun k => (by cases k), fun k => ?_⟩
      have := h2.2 k.2.2.1; rw [e2] at this; cases this
    | true =>
      rw [Bool.not_true, if_neg Bool.false_ne_true]
      cases e3 : withinB 0 2 [t.2.2.2.2] with
      | false =>
        rw [Bool.not_false, if_pos rfl]
        refine ⟨fun k => (by cases k), fun k => ?_⟩
        have := h3.2 k.2.2.2; rw [e3] at this; cases this
      | true =>
        rw [Bool.not_true, if_neg Bool.false_ne_true]
        exact ⟨fun _ => ⟨(h1.1 e1).1, (h1.1 e1).2, h2.1 e2, h3.1 e3⟩, fun _ => rfl⟩
def rStep (l : List Rl) (k : Nat) (y : Rl) : Prop := MayT y.2 ∧ (1 ≤ y.1 ∧ y.1 ≤ 1048578) ∧ ((0 : Int) < (k : Int) → (l.getD (((k : Int) - 1)).toNat rl0).1 < y.1)
theorem right_l2 (l : List Rl) : ∀ (xs : List Rl) (k : Nat), (windroseref13_Right_l2 l xs k () = .go () ∧ ∀ (i : Nat) (y : Rl), xs[i]? = some y → rStep l (k + i) y) ∨ (windroseref13_Right_l2 l xs k () = .ret false ∧ ∃ (i : Nat) (y : Rl), xs[i]? = some y ∧ ¬ rStep l (k + i) y)
  | [], k => .inl ⟨rfl, fun i y h => by simp at h⟩
  | y :: ys, k => by
    rw [windroseref13_Right_l2, LR.seq_go]
    have hiff : (if ((windroseref13_RightTraits_m y.2) : Int) ≠ 0 then true else (if (!(windroseref01_Is_m y.1 1 1048578)) = true then true else (if (0 : Int) < (k : Int) then ((decide (y.1 ≤ (l.getD ((((k : Int) - 1)).toNat) (((0, (false, false, 0, 0, 0)) : Int × (Bool × Bool × Int × Int × Int)) : Int × (Bool × Bool × Int × Int × Int))).1))) else false))) = false ↔ rStep l k y := by
      unfold rStep
      rw [or_f, or_f, and_f, is_r, Bool.not_eq_true', decide_eq_false_iff_not, ← rtraits_iff, ← within1B]
      constructor
      · rintro ⟨h1, h2, h3⟩
        refine ⟨by omega, by simpa using h2, fun h4 => ?_⟩
        rcases h3 with h3 | h3
        · exact absurd h4 h3
        · have h7 : ¬ y.1 ≤ (l.getD (((k : Int) - 1)).toNat rl0).1 := h3
          omega
      · rintro ⟨h1, h2, h3⟩
        refine ⟨by omega, by simpa using h2, ?_⟩
        by_cases h5 : (0 : Int) < (k : Int)
        · have h6 := h3 h5
          refine .inr ?_
          have h7 : (l.getD (((k : Int) - 1)).toNat (0, false, false, 0, 0, 0)).1 < y.1 := h6
          omega
        · exact .inl h5
    cases hb : (if ((windroseref13_RightTraits_m y.2) : Int) ≠ 0 then true else (if (!(windroseref01_Is_m y.1 1 1048578)) = true then true else (if (0 : Int) < (k : Int) then ((decide (y.1 ≤ (l.getD ((((k : Int) - 1)).toNat) (((0, (false, false, 0, 0, 0)) : Int × (Bool × Bool × Int × Int × Int)) : Int × (Bool × Bool × Int × Int × Int))).1))) else false))) with
    | true =>
      rw [if_pos rfl]
      refine .inr ⟨rfl, 0, y, rfl, fun h => ?_⟩
      have := hiff.2 (by simpa using h)
      rw [hb] at this; cases this
    | false =>
      rw [if_neg Bool.false_ne_true]
      have hy := hiff.1 hb
      rcases right_l2 l ys (k + 1) with ⟨h1, h2⟩ | ⟨h1, i, h, h2, h3⟩
      · refine .inl ⟨h1, fun i h hi => ?_⟩
        cases i with
        | zero => simp at hi; subst hi; simpa using hy
        | succ i => have := h2 i h (by simpa using hi); rwa [show k + 1 + i = k + (i + 1) by omega] at this
      · exact .inr ⟨h1, i + 1, h, by simpa using h2, by rwa [show k + (i + 1) = k + 1 + i by omega]⟩
theorem right13_iff (l : List Rl) : windroseref13_Right_m l = true ↔ RelOk l := by
  unfold windroseref13_Right_m windroseref13_New_m
  change LR.seq (if (l.length : Int) < 2 then true else if (200 : Int) < (l.length : Int) then true else if (l.getD 0 rl0) ≠ ((1, (true, true, 0, 1, 2)) : Rl) then true else decide ((l.getD 1 rl0) ≠ ((2, (true, false, 0, 0, 2)) : Rl))) _ = true ↔ _
  by_cases h1 : (l.length : Int) < 2
  · rw [if_pos h1, LR.seq_go, if_pos rfl]; exact ⟨fun k => (by cases k), fun k => by have := k.n1; omega⟩
  rw [if_neg h1]
  by_cases h2 : (200 : Int) < (l.length : Int)
  · rw [if_pos h2, LR.seq_go, if_pos rfl]; exact ⟨fun k => (by cases k), fun k => by have := k.n2; omega⟩
  rw [if_neg h2]
  by_cases h3 : l.getD 0 rl0 = (1, (true, true, 0, 1, 2))
  rotate_left
  · rw [if_pos h3, LR.seq_go, if_pos rfl]
    exact ⟨fun k => (by cases k), fun k => absurd k.f0 h3⟩
  rw [if_neg (fun k => k h3)]
  by_cases h4 : l.getD 1 rl0 = (2, (true, false, 0, 0, 2))
  rotate_left
  · rw [decide_eq_true h4, LR.seq_go, if_pos rfl]
    exact ⟨fun k => (by cases k), fun k => absurd k.f1 h4⟩
  rw [decide_eq_false (fun k => k h4), LR.seq_go, if_neg Bool.false_ne_true]
  rcases right_l2 l l 0 with ⟨e, hs⟩ | ⟨e, i, y, hi, hn⟩
  · rw [e, LR.on_go]
    refine ⟨fun _ => ⟨by omega, by omega, h3, h4, fun i r hi => ⟨(hs i r hi).2.1, (hs i r hi).1⟩, fun i hi => ?_⟩, fun _ => rfl⟩
    have := (hs (i + 1) _ (getD_get (z := rl0) hi)).2.2 (by omega)
    rwa [show ((((0 + (i + 1) : Nat) : Int)) - 1).toNat = i by omega] at this
  · rw [e, LR.on_ret]
    refine ⟨fun k => (by cases k), fun k => absurd ?_ hn⟩
    have hlt := (List.getElem?_eq_some_iff.1 hi).1
    refine ⟨(k.idx i y hi).2, (k.idx i y hi).1, fun h0 => ?_⟩
    obtain ⟨j, rfl⟩ : ∃ j, i = j + 1 := ⟨i - 1, by omega⟩
    have := k.up j hlt
    rw [show l.getD (j + 1) rl0 = y by rw [List.getD_eq_getElem?_getD, hi]; rfl] at this
    rwa [show ((((0 + (j + 1) : Nat) : Int)) - 1).toNat = j by omega]
/-- how what is held stands -/
def ltH (a b : Hd) : Prop := a.1 < b.1 ∨ (a.1 = b.1 ∧ a.2 < b.2)
theorem cmpI20 (a b : Int) : cmp_Compare_int_m a b = if a < b then -1 else if b < a then 1 else 0 := by
  unfold cmp_Compare_int_m cmp_isNaN_int_m; simp
theorem cmpId20 (a b : Int) : cmp_Compare_Id_m a b = if a < b then -1 else if b < a then 1 else 0 := by
  unfold cmp_Compare_Id_m cmp_isNaN_Id_m; simp
theorem pcompare_iff (a b : Hd) : plan_compare_m a b < 0 ↔ ltH a b := by
  unfold plan_compare_m ltH
  rw [LR.seq_go, cmpI20, cmpId20]
  unfold cmp_Or_int_m
  rw [cmp_Or_int_l1, cmp_Or_int_l1, cmp_Or_int_l1]
  have hc : ∀ (x y : Int), (x < y ∧ (if x < y then (-1 : Int) else if y < x then 1 else 0) = -1) ∨ (x = y ∧ (if x < y then (-1 : Int) else if y < x then 1 else 0) = 0) ∨ (y < x ∧ (if x < y then (-1 : Int) else if y < x then 1 else 0) = 1) := fun x y => by
    rcases Int.lt_trichotomy x y with h | h | h
    · exact .inl ⟨h, by rw [if_pos h]⟩
    · subst h; exact .inr (.inl ⟨rfl, by rw [if_neg (Int.lt_irrefl x), if_neg (Int.lt_irrefl x)]⟩)
    · exact .inr (.inr ⟨h, by rw [if_neg (by omega), if_pos h]⟩)
  rcases hc a.1 b.1 with ⟨h, e⟩ | ⟨h, e⟩ | ⟨h, e⟩
  · rw [e]; simp [LR.on, h]
  · rw [e]
    rcases hc a.2 b.2 with ⟨h2, e2⟩ | ⟨h2, e2⟩ | ⟨h2, e2⟩
    · rw [e2]; simp [LR.on, h, h2]
    · rw [e2]; simp [LR.on]; omega
    · rw [e2]; simp [LR.on]; omega
  · rw [e]; simp [LR.on]; omega
theorem ahead_iff (a b : Hd) : windroseref15_Ahead_m a b = true ↔ ltH a b := by
  unfold windroseref15_Ahead_m ltH
  rw [or_t, and_t, decide_eq_true_eq]
theorem may15_iff {h : Hd} (hu : U h.2) : windroseref15_May_m h = true ↔ kindG h.2 = 3 ∧ idxOk h.1 := by
  unfold windroseref15_May_m idxOk
  rw [kind_r hu, ← kind_i hu, is_r, and_t, within1B]
theorem held_l1 {l : List Rl} (hr : RelOk l) (held : List Hd) : ∀ (xs : List Hd) (k : Nat), (∀ h ∈ xs, U h.2) → (windroseref20_Held_l1 l held xs k () = .go () ∧ ∀ (i : Nat) (h : Hd), xs[i]? = some h → HeldOk l h ∧ stepOk held (k + i) h) ∨ (windroseref20_Held_l1 l held xs k () = .ret false ∧ ∃ (i : Nat) (h : Hd), xs[i]? = some h ∧ ¬ (HeldOk l h ∧ stepOk held (k + i) h))
  | [], k, _ => .inl ⟨rfl, fun i h hi => by simp at hi⟩
  | y :: ys, k, hu => by
    have hy := hu y (List.mem_cons_self ..)
    rw [windroseref20_Held_l1, LR.seq_go, halfA_ref hy]
    have hiff : (if (!(windroseref15_May_m y)) = true then true else (if (0 : Int) < (k : Int) then ((!(windroseref15_Ahead_m (held.getD ((((k : Int) - 1)).toNat) (((0, 0) : Int × Int) : Int × Int)) y))) else false)) = false ↔ (kindG y.2 = 3 ∧ idxOk y.1) ∧ stepOk held k y := by
      unfold stepOk
      rw [or_f, and_f, ← may15_iff hy, pcompare_iff, ← ahead_iff, Bool.not_eq_true']
      constructor
      · rintro ⟨h1, h2⟩
        refine ⟨by simpa using h1, fun h3 => ?_⟩
        rcases h2 with h2 | h2
        · exact absurd h3 h2
        · simpa using h2
      · rintro ⟨h1, h2⟩
        refine ⟨by simpa using h1, ?_⟩
        by_cases h3 : (0 : Int) < (k : Int)
        · exact .inr (by simpa using h2 h3)
        · exact .inl h3
    have hA : kindG y.2 = 3 → (ident_Parts_m y.2).1 = hA y.2 := fun h => by
      rw [kind_i hy] at h
      rw [parts_i hy]; unfold partsI; simp [h]
    cases hb : (if (!(windroseref15_May_m y)) = true then true else (if (0 : Int) < (k : Int) then ((!(windroseref15_Ahead_m (held.getD ((((k : Int) - 1)).toNat) (((0, 0) : Int × Int) : Int × Int)) y))) else false)) with
    | true =>
      rw [if_pos rfl]
      refine .inr ⟨rfl, 0, y, rfl, fun h => ?_⟩
      have := hiff.2 ⟨⟨h.1.2.2, h.1.2.1⟩, by simpa using h.2⟩
      rw [hb] at this; cases this
    | false =>
      rw [if_neg Bool.false_ne_true, LR.seq_go]
      obtain ⟨⟨k1, k2⟩, k3⟩ := hiff.1 hb
      rw [find13_eq hr (hA_rng y.2), ← hA k1]
      cases hf : (trait_Find_m l (ident_Parts_m y.2).1).2 with
      | false =>
        rw [Bool.not_false, if_pos rfl]
        refine .inr ⟨rfl, 0, y, rfl, fun h => ?_⟩
        have := h.1.1; rw [hf] at this; cases this
      | true =>
        rw [Bool.not_true, if_neg Bool.false_ne_true]
        rcases held_l1 hr held ys (k + 1) (fun h hh => hu h (List.mem_cons_of_mem _ hh)) with ⟨h1, h2⟩ | ⟨h1, i, h, h2, h3⟩
        · refine .inl ⟨h1, fun i h hi => ?_⟩
          cases i with
          | zero => simp at hi; subst hi; exact ⟨⟨hf, k2, k1⟩, by simpa using k3⟩
          | succ i => have := h2 i h (by simpa using hi); rwa [show k + 1 + i = k + (i + 1) by omega] at this
        · exact .inr ⟨h1, i + 1, h, by simpa using h2, by rwa [show k + (i + 1) = k + 1 + i by omega]⟩
theorem check20_eq {l : List Rl} {held : List Hd} (hu : ∀ h ∈ held, U h.2) : windroseref20_Check_m l held = plan_Check_m l held := by
  obtain ⟨c1, c2, c3⟩ := pcheck_iff l held
  unfold windroseref20_Check_m windroseref20_Held_m
  by_cases hr : RelOk l
  · rw [(right13_iff l).2 hr, Bool.not_true, if_neg Bool.false_ne_true]
    rcases held_l1 hr held held 0 hu with ⟨e, h2⟩ | ⟨e, i, h, h2, h3⟩
    · rw [e, LR.on_go, Bool.not_true, if_neg Bool.false_ne_true]
      exact (c1.2 ⟨hr, fun i h hi => by simpa using h2 i h hi⟩).symm
    · rw [e, LR.on_ret, Bool.not_false, if_pos rfl]
      rcases c2 hr with k | k
      · exact absurd (by simpa using (c1.1 k).2 i h h2) h3
      · exact k.symm
  · have : windroseref13_Right_m l = false := by
      cases e : windroseref13_Right_m l with
      | false => rfl
      | true => exact absurd ((right13_iff l).1 e) hr
    rw [this, Bool.not_false, if_pos rfl, c3 hr]
/-- What is held stands in order. -/
theorem held_up {l : List Rl} {held : List Hd} (hc : plan_Check_m l held = 0) : held.Pairwise ltH := by
  have hs := ((pcheck_iff l held).1.1 hc).2
  have htr : ∀ {a b c : Hd}, ltH a b → ltH b c → ltH a c := fun {a b c} h1 h2 => by unfold ltH at *; omega
  rw [List.pairwise_iff_getElem]
  intro i j hi hj hij
  have step : ∀ (k : Nat) (hk : k + 1 < held.length), ltH held[k] held[k + 1] := fun k hk => by
    have := (hs (k + 1) held[k + 1] (List.getElem?_eq_getElem hk)).2 (by omega)
    rw [pcompare_iff, show (((k + 1 : Nat) : Int) - 1).toNat = k by omega, List.getD_eq_getElem?_getD, List.getElem?_eq_getElem (show k < held.length by omega)] at this
    exact this
  have key : ∀ (d i : Nat) (h : i + d + 1 < held.length), ltH (held[i]'(by omega)) held[i + d + 1] := by
    intro d
    induction d with
    | zero => intro i h; exact step i h
    | succ d ih => intro i h; exact htr (ih i (by omega)) (step (i + d + 1) (by omega))
  have := key (j - i - 1) i (by omega)
  simpa [show i + (j - i - 1) + 1 = j by omega] using this
end Go.SX

set_option linter.unusedVariables false
set_option linter.unusedSimpArgs false
namespace Go.SX
open Go
def lexL : List Hd → List Hd → Prop
  | x :: xs, y :: ys => ltH x y ∨ (x = y ∧ lexL xs ys)
  | _, _ => False
def Ls (w w' : List Hd) : Prop := w.length < w'.length ∨ (w.length = w'.length ∧ lexL w w')
def Le (w w' : List Hd) : Prop := w = w' ∨ Ls w w'
theorem ltH_irrefl (a : Hd) : ¬ ltH a a := by unfold ltH; omega
theorem ltH_trans {a b c : Hd} (h1 : ltH a b) (h2 : ltH b c) : ltH a c := by unfold ltH at *; omega
theorem lexL_snoc {x y : Hd} : ∀ {w w' : List Hd}, lexL w w' → lexL (w ++ [x]) (w' ++ [y])
  | [], _, h => h.elim
  | _ :: _, [], h => h.elim
  | a :: w, b :: w', h => by
    rcases h with h | ⟨h1, h2⟩
    · exact .inl h
    · exact .inr ⟨h1, lexL_snoc h2⟩
theorem lexL_snoc2 {x y : Hd} (h : ltH x y) : ∀ (w : List Hd), lexL (w ++ [x]) (w ++ [y])
  | [] => .inl h
  | a :: w => .inr ⟨rfl, lexL_snoc2 h w⟩
theorem lexL_trans : ∀ {a b c : List Hd}, lexL a b → lexL b c → lexL a c
  | [], _, _, h, _ => h.elim
  | _ :: _, [], _, h, _ => h.elim
  | _ :: _, _ :: _, [], _, h => h.elim
  | x :: a, y :: b, z :: c, h1, h2 => by
    rcases h1 with h1 | ⟨rfl, h1⟩
    · rcases h2 with h2 | ⟨rfl, h2⟩
      · exact .inl (ltH_trans h1 h2)
      · exact .inl h1
    · rcases h2 with h2 | ⟨rfl, h2⟩
      · exact .inl h2
      · exact .inr ⟨rfl, lexL_trans h1 h2⟩
theorem lexL_irrefl : ∀ (a : List Hd), ¬ lexL a a
  | [] => fun h => h
  | x :: a => fun h => by
    rcases h with h | ⟨_, h⟩
    · exact ltH_irrefl x h
    · exact lexL_irrefl a h
theorem Ls.trans {a b c : List Hd} (h1 : Ls a b) (h2 : Ls b c) : Ls a c := by
  rcases h1 with h1 | ⟨h1, k1⟩
  · rcases h2 with h2 | ⟨h2, k2⟩
    · exact .inl (by omega)
    · exact .inl (by omega)
  · rcases h2 with h2 | ⟨h2, k2⟩
    · exact .inl (by omega)
    · exact .inr ⟨by omega, lexL_trans k1 k2⟩
theorem Ls.irrefl (a : List Hd) : ¬ Ls a a := fun h => by
  rcases h with h | ⟨_, h⟩
  · omega
  · exact lexL_irrefl a h
theorem Ls.snoc {w w' : List Hd} (h : Ls w w') (x y : Hd) : Ls (w ++ [x]) (w' ++ [y]) := by
  rcases h with h | ⟨h, k⟩
  · exact .inl (by simp; omega)
  · exact .inr ⟨by simp; omega, lexL_snoc k⟩
theorem Ls.snoc2 {x y : Hd} (h : ltH x y) (w : List Hd) : Ls (w ++ [x]) (w ++ [y]) := .inr ⟨by simp, lexL_snoc2 h w⟩
theorem Le.snoc {w w' : List Hd} (h : Le w w') (x : Hd) : Le (w ++ [x]) (w' ++ [x]) := by
  rcases h with rfl | h
  · exact .inl rfl
  · exact .inr (h.snoc x x)
theorem Le.trans {a b c : List Hd} (h1 : Le a b) (h2 : Le b c) : Le a c := by
  rcases h1 with rfl | h1
  · exact h2
  · rcases h2 with rfl | h2
    · exact .inr h1
    · exact .inr (h1.trans h2)
theorem Le.antisymm {a b : List Hd} (h1 : Le a b) (h2 : Le b a) : a = b := by
  rcases h1 with rfl | h1
  · rfl
  · rcases h2 with rfl | h2
    · rfl
    · exact absurd (h1.trans h2) (Ls.irrefl a)
structure Bw (by_ : Int → List Hd) (i : Nat) (l : List Dh) : Prop where
  s : l.Pairwise (fun d d' => Ls d.2 d'.2)
  c : ∀ (j : Nat) (d : Dh), j < i → l[j]? = some d → ∀ h ∈ by_ d.1, ∃ d' ∈ l, d'.1 = h.1 ∧ Le d'.2 (d.2 ++ [h])
  p : ∀ d ∈ l, d.2 = [] ∨ ∃ (m : Nat) (p : Dh) (h : Hd), m < i ∧ l[m]? = some p ∧ d.2 = p.2 ++ [h]
structure Kw (by_ : Int → List Hd) (i : Nat) (d0 : Dh) (dn : List Hd) (l : List Dh) : Prop where
  s : l.Pairwise (fun d d' => Ls d.2 d'.2)
  c : ∀ (j : Nat) (d : Dh), j < i → l[j]? = some d → ∀ h ∈ by_ d.1, ∃ d' ∈ l, d'.1 = h.1 ∧ Le d'.2 (d.2 ++ [h])
  cd : ∀ h ∈ dn, ∃ d' ∈ l, d'.1 = h.1 ∧ Le d'.2 (d0.2 ++ [h])
  p : ∀ d ∈ l, d.2 = [] ∨ (∃ (m : Nat) (p : Dh) (h : Hd), m < i ∧ l[m]? = some p ∧ d.2 = p.2 ++ [h]) ∨ ∃ h ∈ dn, d.2 = d0.2 ++ [h]
theorem killsW {q0 : List Int} {by_ : Int → List Hd} {d0 : Dh} {i : Nat} (hs : (by_ d0.1).Pairwise ltH) : ∀ (r dn : List Hd) (l : List Dh) (met : List (Int × Bool)), by_ d0.1 = dn ++ r → l[i]? = some d0 → Dv q0 by_ met l → Kw by_ i d0 dn l →
    ∃ l' met', plan_deaths_1_l3 d0 r (l, met) = (l', met') ∧ l <+: l' ∧ Dv q0 by_ met' l' ∧ Kw by_ i d0 (by_ d0.1) l'
  | [], dn, l, met, e, _, hd, hk => ⟨l, met, rfl, List.prefix_refl _, hd, by rw [e, List.append_nil]; exact hk⟩
  | h :: r, dn, l, met, e, h0, hd, hk => by
    rw [plan_deaths_1_l3]
    have hm : h ∈ by_ d0.1 := by rw [e]; simp
    have hw := hd.w d0 (List.mem_of_getElem? h0)
    have hd' : Dv q0 by_ (meet_m met l h.1 (d0.2 ++ [h])).1 (meet_m met l h.1 (d0.2 ++ [h])).2 := hd.meet (.inr ⟨_, h, hm, rfl⟩) (by simp; omega)
    have hpre := meet_pre met l h.1 (d0.2 ++ [h])
    have hless : ∀ d ∈ l, Ls d.2 (d0.2 ++ [h]) := by
      intro d hdl
      rcases hk.p d hdl with h1 | ⟨m, p, h', h1, h2, h3⟩ | ⟨h', h1, h2⟩
      · rw [h1]; exact .inl (by simp)
      · rw [h3]
        have hmi := (List.getElem?_eq_some_iff.1 h0).1
        have hmm := (List.getElem?_eq_some_iff.1 h2).1
        have := (List.pairwise_iff_getElem.1 hk.s) m i hmm hmi h1
        rw [List.getElem?_eq_getElem hmm] at h2
        rw [List.getElem?_eq_getElem hmi] at h0
        injection h2 with h2
        injection h0 with h0
        rw [h2, h0] at this
        exact this.snoc h' h
      · rw [h2]
        rw [e] at hs
        exact Ls.snoc2 ((List.pairwise_append.1 hs).2.2 h' h1 h (List.mem_cons_self ..)) _
    have hk' : Kw by_ i d0 (dn ++ [h]) (meet_m met l h.1 (d0.2 ++ [h])).2 := by
      rcases meet_cases met l h.1 (d0.2 ++ [h]) with ⟨c, e2⟩ | ⟨c, e2⟩
      · rw [e2]
        refine ⟨hk.s, hk.c, fun x hx => ?_, fun d hdl => ?_⟩
        · rcases List.mem_append.1 hx with hx | hx
          · exact hk.cd x hx
          · rw [List.mem_singleton] at hx; subst hx
            obtain ⟨d, hdl, h2⟩ := List.mem_map.1 ((hd.m x.1).1 c)
            exact ⟨d, hdl, h2, .inr (hless d hdl)⟩
        · rcases hk.p d hdl with h1 | h1 | ⟨h', h1, h2⟩
          · exact .inl h1
          · exact .inr (.inl h1)
          · exact .inr (.inr ⟨h', List.mem_append_left _ h1, h2⟩)
      · rw [e2]
        refine ⟨List.pairwise_append.2 ⟨hk.s, by simp, fun a ha b hb => ?_⟩, fun j d hj hjd x hx => ?_, fun x hx => ?_, fun d hdl => ?_⟩
        · rw [List.mem_singleton] at hb; subst hb; exact hless a ha
        · have hil := (List.getElem?_eq_some_iff.1 h0).1
          have hjd' : l[j]? = some d := by rwa [List.getElem?_append_left (by omega)] at hjd
          obtain ⟨d', k1, k2⟩ := hk.c j d hj hjd' x hx
          exact ⟨d', List.mem_append_left _ k1, k2⟩
        · rcases List.mem_append.1 hx with hx | hx
          · obtain ⟨d', k1, k2⟩ := hk.cd x hx
            exact ⟨d', List.mem_append_left _ k1, k2⟩
          · rw [List.mem_singleton] at hx; subst hx
            exact ⟨_, List.mem_append_right _ (List.mem_singleton.2 rfl), rfl, .inl rfl⟩
        · rcases List.mem_append.1 hdl with hdl | hdl
          · rcases hk.p d hdl with h1 | ⟨m, p, h', h1, h2, h3⟩ | ⟨h', h1, h2⟩
            · exact .inl h1
            · exact .inr (.inl ⟨m, p, h', h1, by rw [List.getElem?_append_left (List.getElem?_eq_some_iff.1 h2).1]; exact h2, h3⟩)
            · exact .inr (.inr ⟨h', List.mem_append_left _ h1, h2⟩)
          · rw [List.mem_singleton] at hdl; subst hdl
            exact .inr (.inr ⟨h, List.mem_append_right _ (List.mem_singleton.2 rfl), rfl⟩)
    obtain ⟨l', met', e3, k1, k2, k3⟩ := killsW hs r (dn ++ [h]) _ _ (by rw [e]; simp) (pre_get hpre h0) hd' hk'
    exact ⟨l', met', e3, hpre.trans k1, k2, k3⟩
theorem deaths_runW (q0 : List Int) (by_ : Int → List Hd) (hb : ByOk by_) (hs : ∀ k, (by_ k).Pairwise ltH) (hq : q0.length ≤ 100) : ∀ (m : Nat) (i : Nat) (l : List Dh) (met : List (Int × Bool)), Dv q0 by_ met l → Bw by_ i l → i ≤ l.length → 1000 < m + i →
    ∃ lf, plan_deaths_1_l2 by_ m ((i : Int), l, met) = lf.drop i ∧ Bw by_ lf.length lf ∧ l <+: lf
  | 0, i, l, met, hd, hB, hi, hm => by have := hd.len hb hq; omega
  | m + 1, i, l, met, hd, hB, hi, hm => by
    rw [plan_deaths_1_l2]
    simp only
    by_cases c : (i : Int) < (l.length : Int)
    · rw [if_pos c, LR.seq_go]
      have hil : i < l.length := by omega
      have e0 : ((i : Int)).toNat = i := by omega
      rw [e0]
      have h0 := getD_at hil
      generalize l.getD i ((0, []) : Int × List (Int × Int)) = d0 at *
      obtain ⟨l', met', e, h1, h2, h3⟩ := killsW (i := i) (hs d0.1) (by_ d0.1) [] l met rfl h0 hd ⟨hB.s, hB.c, fun h hh => (by cases hh), fun d hdl => by
        rcases hB.p d hdl with k | k
        · exact .inl k
        · exact .inr (.inl k)⟩
      rw [e]
      have h0' := pre_get h1 h0
      have hB' : Bw by_ (i + 1) l' := by
        refine ⟨h3.s, fun j d hj hjd h hh => ?_, fun d hdl => ?_⟩
        · rcases Nat.lt_or_ge j i with h5 | h5
          · exact h3.c j d h5 hjd h hh
          · have : j = i := by omega
            subst this
            rw [h0'] at hjd; injection hjd with hjd; subst hjd
            exact h3.cd h hh
        · rcases h3.p d hdl with k | ⟨m', p, h, k1, k2, k3⟩ | ⟨h, k1, k2⟩
          · exact .inl k
          · exact .inr ⟨m', p, h, by omega, k2, k3⟩
          · exact .inr ⟨i, d0, h, by omega, h0', k2⟩
      have hl' : l.length ≤ l'.length := h1.length_le
      obtain ⟨lf, e2, k2, k3⟩ := deaths_runW q0 by_ hb hs hq m (i + 1) l' met' h2 hB' (by omega) (by omega)
      refine ⟨lf, ?_, k2, h1.trans k3⟩
      have h5 := pre_get (h1.trans k3) h0
      have h6 : i < lf.length := (List.getElem?_eq_some_iff.1 h5).1
      rw [List.drop_eq_getElem_cons h6]
      have h7 : lf[i] = d0 := by rw [List.getElem?_eq_getElem h6] at h5; injection h5
      rw [h7]
      have e3 : ((i : Int) + 1) = ((i + 1 : Nat) : Int) := by omega
      rw [e3, e2]
    · rw [if_neg c]
      have hil : i = l.length := by omega
      subst hil
      exact ⟨l, by rw [List.drop_length], hB, List.prefix_refl _⟩
theorem deathsW (by_ : Int → List Hd) (hb : ByOk by_) (hs : ∀ k, (by_ k).Pairwise ltH) (a : Int) : Bw by_ (plan_deaths_m by_ [a]).length (plan_deaths_m by_ [a]) := by
  unfold plan_deaths_m plan_deaths_1_m
  have e : plan_deaths_1_l1 [a] ([], ([] : List (Int × Bool))) = ([(a, [])], mpu [] a true) := rfl
  rw [e, LR.seq_go, List.append_nil]
  have hd : Dv [a] by_ (mpu [] a true) [(a, [])] := (Dv.nil [a] by_).meet (k := a) (w := []) (.inl (by simp)) (by simp)
  obtain ⟨lf, e2, k2, _⟩ := deaths_runW [a] by_ hb hs (by simp) 1001 0 [(a, [])] (mpu [] a true) hd ⟨by simp, fun j d hj => by omega, fun d hd => .inl (by rw [List.mem_singleton.1 hd])⟩ (by omega) (by omega)
  have e3 : plan_deaths_1_l2 by_ ((1000 - 0 : Int).toNat + 1) (0, [(a, [])], mpu [] a true) = lf := e2
  rw [e3]; exact k2
/-- a way of deaths -/
def Pw (by_ : Int → List Hd) : Int → List Hd → Int → Prop
  | a, [], b => a = b
  | a, h :: q, b => h ∈ by_ a ∧ Pw by_ h.1 q b
theorem Pw.snoc {by_ : Int → List Hd} {h : Hd} {b : Int} : ∀ {q : List Hd} {a : Int}, Pw by_ a (q ++ [h]) b ↔ ∃ u, Pw by_ a q u ∧ h ∈ by_ u ∧ h.1 = b
  | [], a => ⟨fun k => ⟨a, rfl, k.1, k.2⟩, fun ⟨u, k1, k2, k3⟩ => by
      have : a = u := k1
      subst this; exact ⟨k2, k3⟩⟩
  | x :: q, a => by
    constructor
    · rintro ⟨k1, k2⟩
      obtain ⟨u, h1, h2⟩ := Pw.snoc.1 k2
      exact ⟨u, ⟨k1, h1⟩, h2⟩
    · rintro ⟨u, ⟨k1, h1⟩, h2⟩
      exact ⟨k1, Pw.snoc.2 ⟨u, h1, h2⟩⟩
theorem least_way {by_ : Int → List Hd} {D : List Dh} {a : Int} (hB : Bw by_ D.length D) (h0 : (a, []) ∈ D) : ∀ (n : Nat) (q : List Hd) (b : Int), q.length = n → Pw by_ a q b → ∃ d ∈ D, d.1 = b ∧ Le d.2 q
  | 0, q, b, hn, hp => by
    obtain rfl := List.length_eq_zero_iff.1 hn
    exact ⟨_, h0, hp, .inl rfl⟩
  | n + 1, q, b, hn, hp => by
    have hne : q ≠ [] := fun e => by subst e; simp at hn
    obtain ⟨q', x, rfl⟩ : ∃ q' x, q = q' ++ [x] := ⟨q.dropLast, q.getLast hne, (List.dropLast_concat_getLast hne).symm⟩
    obtain ⟨u, k1, k2, k3⟩ := Pw.snoc.1 hp
    obtain ⟨d, h1, h2, h3⟩ := least_way hB h0 n q' u (by simp at hn; omega) k1
    obtain ⟨j, hj⟩ := List.mem_iff_getElem?.1 h1
    obtain ⟨d', h4, h5, h6⟩ := hB.c j d (List.getElem?_eq_some_iff.1 hj).1 hj x (by rw [h2]; exact k2)
    exact ⟨d', h4, h5.trans k3, h6.trans (h3.snoc x)⟩
end Go.SX

set_option linter.unusedVariables false
set_option linter.unusedSimpArgs false
namespace Go.SX
open Go Go.Proofs

def windroseref20_far_l3 (a0 : List (Int × (Bool × Bool × Int × Int × Int))) (yl2 : Int × Int) : List Int → ((List Int)) → (List Int)
  | [], sl3 => sl3
  | yl3 :: ysl3, sl3 => if (windroseref20_kills_m a0 yl2 yl3) = true then (LR.seq (windroseref20_put_m sl3 yl2.1) (fun r49 => windroseref20_far_l3 a0 yl2 ysl3 r49)) else (windroseref20_far_l3 a0 yl2 ysl3 sl3)
def windroseref20_far_l2 (a0 : List (Int × (Bool × Bool × Int × Int × Int))) (x11l1 : List Int) : List (Int × Int) → ((List Int)) → (List Int)
  | [], sl2 => sl2
  | yl2 :: ysl2, sl2 => LR.seq (windroseref20_far_l3 a0 yl2 x11l1 sl2) (fun ol3 => windroseref20_far_l2 a0 x11l1 ysl2 ol3)
def windroseref20_far_l1 (a0 : List (Int × (Bool × Bool × Int × Int × Int))) (a1 : List (Int × Int)) (a3 : Int) : Nat → Nat → ((List Int)) → LR (Int) ((List Int))
  | 0, kl1, sl1 => .go sl1
  | ml1 + 1, kl1, sl1 => if (windroseref20_has_m sl1 a3) = true then (.ret ((kl1 : Int))) else (LR.seq (windroseref20_far_l2 a0 sl1 a1 sl1) (fun ol2 => windroseref20_far_l1 a0 a1 a3 ml1 (kl1 + 1) ol2))
def windroseref20_far_m (a0 : List (Int × (Bool × Bool × Int × Int × Int))) (a1 : List (Int × Int)) (a2 : Int) (a3 : Int) (a4 : Int) : Int :=
  LR.on (windroseref20_far_l1 a0 a1 a3 ((((a4 + 1)).toNat) - 0) 0 [a2]) (fun r => r) (fun ol1 => (-1))
set_option maxHeartbeats 3200000 in
theorem windroseref20_far_c (H : Heap) (va0 : Value) (a0 : List (Int × (Bool × Bool × Int × Int × Int))) (ha0 : RdS relationE H va0 a0) (va1 : Value) (a1 : List (Int × Int)) (ha1 : RdS heldE H va1 a1) (a2 : Int) (a3 : Int) (a4 : Int) (hl : a1.length ≤ 100) (h4 : -1 ≤ a4) (h5 : a4 ≤ 2000000) : Fv Tryd.prog (fnv 89) [va0, va1, .int .i64 a2, .int .i64 a3, .int .i64 a4] H (.int .i64 (windroseref20_far_m a0 a1 a2 a3 a4)) := by
  refine Fc.of_body (N := 54) Tryd.func89 rfl (by kernel_rfl) rfl rfl ?_
  intro w0
  obtain ⟨Aa0, ca0, rfl, hca0, hda0, ha0⟩ := ha0.shape
  obtain ⟨Aa1, ca1, rfl, hca1, hda1, ha1⟩ := ha1.shape
  refine T.seq ?_
  refine T.region ?_
  refine R.asE rfl (by conv => lhs; whnf) ?_
  refine TL.nil (Post.thnN ?_)
  refine T.seq ?_
  refine T.region ?_
  refine R.mvE rfl (by conv => lhs; whnf) ?_
  refine R.bs rfl (run_buildSlice1 Tryd.underlying23 Tryd.sizeOf3 Tryd.zeroValue3 rfl rfl) ?_
  intro b19
  have w19 : OwnS (intE .i64) 3 H (.slice (some ⟨b19, 0, none⟩) 1 1) [a2] [(b19, .cells #[.int .i64 a2] 3)] := OwnS.lit (xs := [a2]) (cellsOf_cons (a := [.int .i64 a2]) rfl cellsOf_nil) (by show 1 ≤ maxLen; decide)
  refine TL.shut .hd ?_
  intro HF19_1 sF19_1 qF19_1
  have fF19_1 := OwnS.read w19 sF19_1 qF19_1
  refine R.asE rfl (by conv => lhs; whnf) ?_
  refine TL.nil (Post.thnN ?_)
  refine T.seq ?_
  refine T.seq ?_
  refine T.region ?_
  refine R.mvE rfl (by conv => lhs; whnf) ?_
  refine R.addI rfl rfl rfl (by omega) ?_
  refine R.mvE rfl (by conv => lhs; whnf) ?_
  refine TL.nil (Post.thnN ?_)
  refine T.block ?_
  refine T.loop (ι := Nat × Value × (List Int)) (fun ⟨kl1, v11l1, x11l1⟩ H' L' ds' => kl1 ≤ ((a4 + 1)).toNat ∧ Has L' [] ∧ RdS (intE .i64) H' v11l1 x11l1 ∧ Rg (a2 :: a1.map Prod.fst) x11l1 ∧ windroseref20_far_l1 a0 a1 a3 ((((a4 + 1)).toNat) - kl1) kl1 x11l1 = windroseref20_far_l1 a0 a1 a3 ((((a4 + 1)).toNat) - 0) 0 [a2]) (fun ⟨kl1, v11l1, x11l1⟩ => [(22, .int .i64 (kl1 : Int)), (0, .slice Aa0 a0.length ca0), (1, .slice Aa1 a1.length ca1), (3, .int .i64 a3), (11, v11l1), (21, .int .i64 (a4 + 1))]) (fun ⟨kl1, v11l1, x11l1⟩ => (((a4 + 1)).toNat) - kl1) (0, .slice (some ⟨b19, 0, none⟩) 1 1, [a2]) ?_ ?_ ?_
  · exact ⟨(by omega), Has.nil, fF19_1, (by exact Rg.one (List.mem_cons_self ..)), (by rfl)⟩
  · exact ⟨rfl, rfl, rfl, rfl, rfl, rfl, trivial⟩
  · intro ⟨kl1, v11l1, x11l1⟩ σ_l1 H_l1 L_l1 ds_l1 s_l1 hI_l1
    obtain ⟨hkl1, hI_l1⟩ := hI_l1
    obtain ⟨hLl1, w11l1, hBl1_0, hQl1⟩ := hI_l1
    obtain ⟨A11l1, p11l1, rfl, m11l1, n11l1_, w11l1⟩ := RdS.shape w11l1
    refine T.has hLl1 ?_
    refine T.seq ?_
    refine T.region ?_
    refine R.lss rfl rfl rfl ?_
    refine TL.nil (Post.thnN ?_)
    refine T.seq ?_
    refine T.condD rfl (fun c23 => ?_) (fun c23 => ?_)
    · have hltl1 : kl1 < ((a4 + 1)).toNat := by omega
      refine T.skip (Post.thnN ?_)
      refine T.seq ?_
      refine T.block ?_
      refine T.seq ?_
      refine T.region ?_
      refine R.mvE rfl (by conv => lhs; whnf) ?_
      refine R.asE rfl (by conv => lhs; whnf) ?_
      refine TL.nil (Post.thnN ?_)
      refine T.seq ?_
      refine T.seq ?_
      refine T.region ?_
      refine R.mvE rfl (by conv => lhs; whnf) ?_
      refine R.mvE rfl (by conv => lhs; whnf) ?_
      refine R.callv rfl rfl rfl (windroseref20_has_c _ _ x11l1 w11l1 (a3)) ?_
      refine TL.nil (Post.thnN ?_)
      refine T.cond rfl (fun c27 => ?_) (fun c27 => ?_)
      · refine T.set 27 (.bool true) (congrArg Value.bool c27) ?_
        refine T.seq ?_
        refine T.region ?_
        refine R.mvE rfl (by conv => lhs; whnf) ?_
        refine R.asE rfl (by conv => lhs; whnf) ?_
        refine TL.nil (Post.thnN ?_)
        refine T.has Has.nil ?_
        refine T.ret (Post.thnR (Post.blkR (Post.thnR (Post.thnR (Post.blkR (Post.thnR ?_))))))
        have hXl1 : windroseref20_far_l1 a0 a1 a3 ((((a4 + 1)).toNat) - 0) 0 [a2] = .ret ((kl1 : Int)) := by rw [← hQl1, show ((a4 + 1)).toNat - kl1 = (((a4 + 1)).toNat - (kl1 + 1)) + 1 by omega, windroseref20_far_l1]; rw [if_t c27]
        have hM : windroseref20_far_m a0 a1 a2 a3 a4 = (kl1 : Int) := by rw [windroseref20_far_m, hXl1, LR.on_ret]
        exact fin1L (v := .int .i64 (kl1 : Int)) [] rfl rfl (List.Sublist.refl _) ⟨rfl, by first | rw [hM] | rfl⟩
      · refine T.set 27 (.bool false) (congrArg Value.bool c27) ?_
        refine T.skip (Post.thnN ?_)
        refine T.seq ?_
        refine T.region ?_
        refine R.mvE rfl (by conv => lhs; whnf) ?_
        refine R.asE rfl (by conv => lhs; whnf) ?_
        refine TL.nil (Post.thnN ?_)
        refine T.seq ?_
        refine T.seq ?_
        refine T.region ?_
        refine R.mvE rfl (by conv => lhs; whnf) ?_
        refine R.len Tryd.underlying60 rfl rfl ?_
        refine R.mvE rfl (by conv => lhs; whnf) ?_
        refine TL.nil (Post.thnN ?_)
        refine T.block ?_
        refine T.loop (ι := Nat × Value × (List Int)) (fun ⟨kl2, v13l2, x13l2⟩ H' L' ds' => kl2 ≤ a1.length ∧ Has L' [] ∧ RdS (intE .i64) H' v13l2 x13l2 ∧ Rg (a2 :: a1.map Prod.fst) x13l2 ∧ windroseref20_far_l2 a0 x11l1 (a1.drop kl2) x13l2 = windroseref20_far_l2 a0 x11l1 a1 x11l1) (fun ⟨kl2, v13l2, x13l2⟩ => [(32, .int .i64 (kl2 : Int)), (0, .slice Aa0 a0.length ca0), (1, .slice Aa1 a1.length ca1), (3, .int .i64 a3), (11, .slice A11l1 x11l1.length p11l1), (13, v13l2), (21, .int .i64 (a4 + 1)), (22, .int .i64 (kl1 : Int)), (30, .slice Aa1 a1.length ca1), (31, .int .i64 (a1.length : Int))]) (fun ⟨kl2, v13l2, x13l2⟩ => a1.length - kl2) (0, .slice A11l1 x11l1.length p11l1, x11l1) ?_ ?_ ?_
        · exact ⟨(by omega), Has.nil, w11l1, (by exact hBl1_0), (by rfl)⟩
        · exact ⟨rfl, rfl, rfl, rfl, rfl, rfl, rfl, rfl, rfl, rfl, trivial⟩
        · intro ⟨kl2, v13l2, x13l2⟩ σ_l2 H_l2 L_l2 ds_l2 s_l2 hI_l2
          obtain ⟨hkl2, hI_l2⟩ := hI_l2
          obtain ⟨hLl2, w13l2, hBl2_0, hQl2⟩ := hI_l2
          obtain ⟨A13l2, p13l2, rfl, m13l2, n13l2_, w13l2⟩ := RdS.shape w13l2
          refine T.has hLl2 ?_
          refine T.seq ?_
          refine T.region ?_
          refine R.lss rfl rfl rfl ?_
          refine TL.nil (Post.thnN ?_)
          refine T.seq ?_
          refine T.condD rfl (fun c33 => ?_) (fun c33 => ?_)
          · have hltl2 : kl2 < a1.length := by omega
            obtain ⟨yl2, hyl2⟩ := getk (xs := a1) (k := kl2) (by omega)
            refine T.skip (Post.thnN ?_)
            refine T.seq ?_
            refine T.block ?_
            refine T.seq ?_
            refine T.region ?_
            obtain ⟨b34, o34, i34, k34⟩ := RdS.elem (ha1.mono (sF19_1.trans (s_l1.trans s_l2))) hyl2
            obtain ⟨l34, g34, k34⟩ := k34
            obtain rfl : l34 = [.int .i64 (yl2.1), .int .u64 (yl2.2)] := g34
            refine R.ixp Tryd.underlying60 Tryd.sizeOf73 rfl rfl rfl (by omega) i34 ?_
            refine R.ldK (l := [.int .i64 (yl2.1), .int .u64 (yl2.2)]) Tryd.isAgg73 Tryd.sizeOf73 rfl rfl k34 rfl ?_
            refine R.alloc Tryd.zeroValue73 rfl ?_
            intro b15
            refine R.stX (old := [.int .i64 0, .int .u64 0]) (l := [.int .i64 (yl2.1), .int .u64 (yl2.2)]) (new := [.int .i64 (yl2.1), .int .u64 (yl2.2)]) (et := 73) Tryd.sizeOf73 rfl rfl rfl rfl rfl (by show 0 + 2 ≤ 2; decide) rfl (all_one rfl) .hd ?_
            refine TL.shut .hd ?_
            intro Hb15_2 sb15_2 qb15_2
            have hb15_2 : Hb15_2 b15 = some (.cells #[.int .i64 (yl2.1), .int .u64 (yl2.2)] 73) := shut1 qb15_2
            refine TL.nil (Post.thnN ?_)
            refine T.seq ?_
            refine T.region ?_
            refine R.mvE rfl (by conv => lhs; whnf) ?_
            refine R.len Tryd.underlying23 rfl rfl ?_
            refine R.mvE rfl (by conv => lhs; whnf) ?_
            refine TL.nil (Post.thnN ?_)
            refine T.block ?_
            refine T.loop (ι := Nat × Value × (List Int)) (fun ⟨kl3, v13l3, x13l3⟩ H' L' ds' => kl3 ≤ x11l1.length ∧ Has L' [] ∧ RdS (intE .i64) H' v13l3 x13l3 ∧ Rg (a2 :: a1.map Prod.fst) x13l3 ∧ windroseref20_far_l3 a0 yl2 (x11l1.drop kl3) x13l3 = windroseref20_far_l3 a0 yl2 x11l1 x13l2) (fun ⟨kl3, v13l3, x13l3⟩ => [(38, .int .i64 (kl3 : Int)), (0, .slice Aa0 a0.length ca0), (1, .slice Aa1 a1.length ca1), (3, .int .i64 a3), (11, .slice A11l1 x11l1.length p11l1), (13, v13l3), (15, .pointer (some ⟨b15, 0, none⟩)), (21, .int .i64 (a4 + 1)), (22, .int .i64 (kl1 : Int)), (30, .slice Aa1 a1.length ca1), (31, .int .i64 (a1.length : Int)), (32, .int .i64 (kl2 : Int)), (36, .slice A11l1 x11l1.length p11l1), (37, .int .i64 (x11l1.length : Int))]) (fun ⟨kl3, v13l3, x13l3⟩ => x11l1.length - kl3) (0, .slice A13l2 x13l2.length p13l2, x13l2) ?_ ?_ ?_
            · exact ⟨(by omega), Has.nil, (w13l2.mono sb15_2), (by exact hBl2_0), (by rfl)⟩
            · exact ⟨rfl, rfl, rfl, rfl, rfl, rfl, rfl, rfl, rfl, rfl, rfl, rfl, rfl, rfl, trivial⟩
            · intro ⟨kl3, v13l3, x13l3⟩ σ_l3 H_l3 L_l3 ds_l3 s_l3 hI_l3
              obtain ⟨hkl3, hI_l3⟩ := hI_l3
              obtain ⟨hLl3, w13l3, hBl3_0, hQl3⟩ := hI_l3
              obtain ⟨A13l3, p13l3, rfl, m13l3, n13l3_, w13l3⟩ := RdS.shape w13l3
              refine T.has hLl3 ?_
              refine T.seq ?_
              refine T.region ?_
              refine R.lss rfl rfl rfl ?_
              refine TL.nil (Post.thnN ?_)
              refine T.seq ?_
              refine T.condD rfl (fun c39 => ?_) (fun c39 => ?_)
              · have hltl3 : kl3 < x11l1.length := by omega
                obtain ⟨yl3, hyl3⟩ := getk (xs := x11l1) (k := kl3) (by omega)
                have hg3 := hBl3_0.len
                simp only [List.length_cons, List.length_map] at hg3
                refine T.skip (Post.thnN ?_)
                refine T.seq ?_
                refine T.block ?_
                refine T.seq ?_
                refine T.region ?_
                obtain ⟨b40, o40, i40, k40⟩ := RdS.elem (w11l1.mono (s_l2.trans (sb15_2.trans s_l3))) hyl3
                obtain ⟨l40, g40, k40⟩ := k40
                obtain rfl : l40 = [.int .i64 yl3] := g40
                refine R.ixp Tryd.underlying23 Tryd.sizeOf3 rfl rfl rfl (by omega) i40 ?_
                refine R.ldC Tryd.isAgg3 rfl rfl (k40 0 _ rfl) ?_
                refine R.asE rfl (by conv => lhs; whnf) ?_
                refine TL.nil (Post.thnN ?_)
                refine T.seq ?_
                refine T.region ?_
                refine R.mvE rfl (by conv => lhs; whnf) ?_
                refine R.ldXH (cs := [.int .i64 (yl2.1), .int .u64 (yl2.2)]) (l := [.int .i64 (yl2.1), .int .u64 (yl2.2)]) Tryd.isAgg73 Tryd.sizeOf73 rfl rfl (s_l3 _ _ hb15_2) rfl rfl ?_
                refine R.mvE rfl (by conv => lhs; whnf) ?_
                refine R.callv rfl rfl rfl (windroseref20_kills_c _ _ a0 (ha0.mono (sF19_1.trans (s_l1.trans (s_l2.trans (sb15_2.trans s_l3))))) yl2 (yl3)) ?_
                refine TL.nil (Post.thnN ?_)
                refine T.cond rfl (fun c45 => ?_) (fun c45 => ?_)
                · refine T.set 45 (.bool true) (congrArg Value.bool c45) ?_
                  refine T.region ?_
                  refine R.mvE rfl (by conv => lhs; whnf) ?_
                  refine R.fldA Tryd.underlying73 rfl Tryd.sizeOf3 (by decide) rfl rfl ?_
                  refine R.ldH Tryd.isAgg3 rfl rfl (s_l3 _ _ hb15_2) rfl ?_
                  obtain ⟨r49, er49⟩ : ∃ r, r = (windroseref20_put_m x13l3 yl2.1) := ⟨_, rfl⟩
                  refine TL.call [] rfl rfl rfl (windroseref20_put_c _ _ x13l3 w13l3 (yl2.1) (by first | omega | (simp; done) | (simp; omega) | (simp at *; omega))) ?_
                  intro v49 H49 L49 s49 q49
                  rw [← er49] at q49
                  obtain ⟨u49_0_0, c49_0_0, rfl, rfl, w49_0_0⟩ := q49
                  obtain ⟨A49_0_0, p49_0_0, rfl, m49_0_0, n49_0_0⟩ := OwnS.shape w49_0_0
                  have tp49 : r49 = putI _ _ := er49.trans (put20_eq _ _)
                  have hD49 : Rg (a2 :: a1.map Prod.fst) r49 := by rw [tp49]; exact hBl3_0.put (List.mem_cons_of_mem _ (List.mem_map_of_mem (List.mem_of_getElem? hyl2)))
                  refine TL.shut .hd ?_
                  intro HF49_0_0_3 sF49_0_0_3 qF49_0_0_3
                  have fF49_0_0_3 := OwnS.read w49_0_0 sF49_0_0_3 qF49_0_0_3
                  refine R.asE rfl (by conv => lhs; whnf) ?_
                  refine TL.nil (Post.blkN ?_)
                  refine id (Post.thnN ?_)
                  refine T.region ?_
                  refine R.addI rfl rfl rfl (by omega) ?_
                  refine R.mvE rfl (by conv => lhs; whnf) ?_
                  refine TL.nil (Post.thnN ?_)
                  exact ⟨(kl3 + 1, .slice A49_0_0 r49.length p49_0_0, r49), (s_l3.trans (s49.trans sF49_0_0_3)), ⟨(by omega), Has.nil, fF49_0_0_3, (by first | exact hD49 | exact hBl3_0), (by subst er49; rw [← hQl3, drop_cons hyl3, windroseref20_far_l3]; rw [if_t c45, LR.seq_go])⟩, by show x11l1.length - (kl3 + 1) < x11l1.length - kl3; omega, rfl, rfl, rfl, rfl, rfl, rfl, rfl, rfl, rfl, rfl, rfl, rfl, rfl, rfl, trivial⟩
                · refine T.set 45 (.bool false) (congrArg Value.bool c45) ?_
                  refine T.skip (Post.blkN ?_)
                  refine id (Post.thnN ?_)
                  refine T.region ?_
                  refine R.addI rfl rfl rfl (by omega) ?_
                  refine R.mvE rfl (by conv => lhs; whnf) ?_
                  refine TL.nil (Post.thnN ?_)
                  exact ⟨(kl3 + 1, .slice A13l3 x13l3.length p13l3, x13l3), s_l3, ⟨(by omega), Has.nil, w13l3, (by first | exact hD49 | exact hBl3_0), (by rw [← hQl3, drop_cons hyl3, windroseref20_far_l3]; rw [if_f c45])⟩, by show x11l1.length - (kl3 + 1) < x11l1.length - kl3; omega, rfl, rfl, rfl, rfl, rfl, rfl, rfl, rfl, rfl, rfl, rfl, rfl, rfl, rfl, trivial⟩
              · refine T.exit (Post.thnE (Post.thnE (Post.blkX ?_)))
                have hEl3 : windroseref20_far_l3 a0 yl2 x11l1 x13l2 = x13l3 := (hQl3.symm.trans (by rw [show kl3 = x11l1.length by omega, List.drop_length, windroseref20_far_l3]))
                refine id (Post.blkN ?_)
                refine id (Post.thnN ?_)
                refine T.region ?_
                refine R.addI rfl rfl rfl (by omega) ?_
                refine R.mvE rfl (by conv => lhs; whnf) ?_
                refine TL.nil (Post.thnN ?_)
                exact ⟨(kl2 + 1, .slice A13l3 x13l3.length p13l3, x13l3), (s_l2.trans (sb15_2.trans s_l3)), ⟨(by omega), Has.nil, w13l3, (by exact hBl3_0), (by rw [← hQl2, drop_cons hyl2, windroseref20_far_l2]; rw [hEl3, LR.seq_go])⟩, by show a1.length - (kl2 + 1) < a1.length - kl2; omega, rfl, rfl, rfl, rfl, rfl, rfl, rfl, rfl, rfl, rfl, trivial⟩
          · refine T.exit (Post.thnE (Post.thnE (Post.blkX ?_)))
            have hEl2 : windroseref20_far_l2 a0 x11l1 a1 x11l1 = x13l2 := (hQl2.symm.trans (by rw [show kl2 = a1.length by omega, List.drop_length, windroseref20_far_l2]))
            refine id (Post.thnN ?_)
            refine T.region ?_
            refine R.mvE rfl (by conv => lhs; whnf) ?_
            refine R.asE rfl (by conv => lhs; whnf) ?_
            refine TL.nil (Post.blkN ?_)
            refine id (Post.thnN ?_)
            refine T.region ?_
            refine R.addI rfl rfl rfl (by omega) ?_
            refine R.mvE rfl (by conv => lhs; whnf) ?_
            refine TL.nil (Post.thnN ?_)
            exact ⟨(kl1 + 1, .slice A13l2 x13l2.length p13l2, x13l2), (s_l1.trans s_l2), ⟨(by omega), Has.nil, w13l2, (by exact hBl2_0), (by rw [← hQl1, show ((a4 + 1)).toNat - kl1 = (((a4 + 1)).toNat - (kl1 + 1)) + 1 by omega, windroseref20_far_l1]; rw [if_f c27, hEl2, LR.seq_go])⟩, by show (((a4 + 1)).toNat) - (kl1 + 1) < (((a4 + 1)).toNat) - kl1; omega, rfl, rfl, rfl, rfl, rfl, rfl, trivial⟩
    · refine T.exit (Post.thnE (Post.thnE (Post.blkX ?_)))
      have hEl1 : windroseref20_far_l1 a0 a1 a3 ((((a4 + 1)).toNat) - 0) 0 [a2] = .go x11l1 := (hQl1.symm.trans (by rw [show kl1 = ((a4 + 1)).toNat by omega, Nat.sub_self, windroseref20_far_l1]))
      refine id (Post.thnN ?_)
      refine T.seq ?_
      refine T.region ?_
      refine R.asE rfl (by conv => lhs; whnf) ?_
      refine TL.nil (Post.thnN ?_)
      refine T.has Has.nil ?_
      refine T.ret ?_
      have hM : windroseref20_far_m a0 a1 a2 a3 a4 = (-1) := by rw [windroseref20_far_m, hEl1, LR.on_go]
      exact fin1L (v := .int .i64 (-1)) [] rfl rfl (List.Sublist.refl _) ⟨rfl, by first | rw [hM] | rfl⟩

theorem far_l1_le (a0 : List Rl) (a1 : List Hd) (a3 : Int) (B : Int) (hB : 0 ≤ B) : ∀ (m k : Nat) (s : List Int), ((k + m : Nat) : Int) ≤ B + 1 → ∀ r, windroseref20_far_l1 a0 a1 a3 m k s = .ret r → r ≤ B
  | 0, k, s, h, r, e => by rw [windroseref20_far_l1] at e; cases e
  | m + 1, k, s, h, r, e => by
    rw [windroseref20_far_l1] at e
    split at e
    · injection e with e; omega
    · simp only [LR.seq] at e
      exact far_l1_le a0 a1 a3 B hB m (k + 1) _ (by omega) r e
theorem far_le (a0 : List Rl) (a1 : List Hd) (a2 a3 B : Int) (hB : 0 ≤ B) : windroseref20_far_m a0 a1 a2 a3 B ≤ B := by
  unfold windroseref20_far_m
  cases e : windroseref20_far_l1 a0 a1 a3 ((B + 1).toNat - 0) 0 [a2] with
  | go s => rw [LR.on_go]; omega
  | ret r => rw [LR.on_ret]; exact far_l1_le a0 a1 a3 B hB _ 0 _ (by omega) r e
end Go.SX

set_option linter.unusedVariables false
set_option linter.unusedSimpArgs false
namespace Go.SX
open Go Go.Proofs

def windroseref20_Why_l3 (a0 : List (Int × (Bool × Bool × Int × Int × Int))) (a1 : List (Int × Int)) (a3 : Int) (n10l1 : Int) : List (Int × Int) → ((List (Int × Int)) × Int) → (List (Int × Int)) × Int
  | [], sl3 => (sl3.1, sl3.2)
  | yl3 :: ysl3, sl3 => LR.seq (if (windroseref20_kills_m a0 yl3 sl3.2) = true then ((decide (((windroseref20_far_m a0 a1 yl3.1 a3 ((n10l1 - 1))) : Int) = (n10l1 - 1)))) else false : Bool) (fun sc4 => if sc4 = true then (((sl3.1 ++ [yl3]), yl3.1)) else (windroseref20_Why_l3 a0 a1 a3 n10l1 ysl3 ((sl3.1, sl3.2))))
def windroseref20_Why_l1 (a0 : List (Int × (Bool × Bool × Int × Int × Int))) (a1 : List (Int × Int)) (a3 : Int) : Nat → (Int × (List (Int × Int)) × Int) → Int × (List (Int × Int)) × Int
  | 0, _ => default
  | ml1 + 1, sl1 => if (0 : Int) < sl1.1 then (LR.seq (LR.seq (windroseref20_Why_l3 a0 a1 a3 sl1.1 a1 ((sl1.2.1, sl1.2.2))) (fun ol3 => ol3) : (List (Int × Int)) × Int) (fun sc2 => windroseref20_Why_l1 a0 a1 a3 ml1 (((sl1.1 - 1), sc2.1, sc2.2)))) else ((sl1.1, sl1.2.1, sl1.2.2))
def windroseref20_Why_m (a0 : List (Int × (Bool × Bool × Int × Int × Int))) (a1 : List (Int × Int)) (a2 : Int) (a3 : Int) : (List (Int × Int)) × Bool :=
  if ((windroseref20_far_m a0 a1 a2 a3 ((a1.length : Int))) : Int) < 0 then (([], false)) else (LR.seq (windroseref20_Why_l1 a0 a1 a3 (((windroseref20_far_m a0 a1 a2 a3 ((a1.length : Int)))).toNat + 1) (((windroseref20_far_m a0 a1 a2 a3 ((a1.length : Int))), [], a2))) (fun ol1 => (ol1.2.1, true)))
set_option maxHeartbeats 3200000 in
theorem windroseref20_Why_c (H : Heap) (va0 : Value) (a0 : List (Int × (Bool × Bool × Int × Int × Int))) (ha0 : RdS relationE H va0 a0) (va1 : Value) (a1 : List (Int × Int)) (ha1 : RdS heldE H va1 a1) (a2 : Int) (a3 : Int) (hl : a1.length ≤ 100) : Fc Tryd.prog (fnv 41) [va0, va1, .int .i64 a2, .int .i64 a3] H [] (fun v' H' L' => ∃ u0_0 c0_0, v' = .tuple #[u0_0, .bool (windroseref20_Why_m a0 a1 a2 a3).2] ∧ L' = [c0_0] ∧ OwnS heldE 73 H' u0_0 (windroseref20_Why_m a0 a1 a2 a3).1 c0_0) := by
  refine Fc.of_body (N := 60) Tryd.func41 rfl (by kernel_rfl) rfl rfl ?_
  intro w0
  obtain ⟨Aa0, ca0, rfl, hca0, hda0, ha0⟩ := ha0.shape
  obtain ⟨Aa1, ca1, rfl, hca1, hda1, ha1⟩ := ha1.shape
  refine T.seq ?_
  refine T.region ?_
  refine R.asE rfl (by conv => lhs; whnf) ?_
  refine R.asE rfl (by conv => lhs; whnf) ?_
  refine TL.nil (Post.thnN ?_)
  refine T.seq ?_
  refine T.region ?_
  refine R.mvE rfl (by conv => lhs; whnf) ?_
  refine R.mvE rfl (by conv => lhs; whnf) ?_
  refine R.mvE rfl (by conv => lhs; whnf) ?_
  refine R.mvE rfl (by conv => lhs; whnf) ?_
  refine R.mvE rfl (by conv => lhs; whnf) ?_
  refine R.len Tryd.underlying60 rfl rfl ?_
  refine R.callv rfl rfl rfl (windroseref20_far_c _ _ a0 ha0 _ a1 ha1 (a2) (a3) ((a1.length : Int)) (by first | omega | (simp; done) | (simp; omega) | (simp at *; omega)) (by first | omega | (simp; done) | (simp; omega) | (simp at *; omega)) (by first | omega | (simp; done) | (simp; omega) | (simp at *; omega))) ?_
  have hfar := far_le a0 a1 a2 a3 (a1.length : Int) (by omega)
  refine R.asE rfl (by conv => lhs; whnf) ?_
  refine TL.nil (Post.thnN ?_)
  refine T.seq ?_
  refine T.seq ?_
  refine T.region ?_
  refine R.mvE rfl (by conv => lhs; whnf) ?_
  refine R.lss rfl rfl rfl ?_
  refine TL.nil (Post.thnN ?_)
  refine T.condD rfl (fun c23 => ?_) (fun c23 => ?_)
  · refine T.set 23 (.bool true) (congrArg Value.bool (decide_eq_true c23)) ?_
    refine T.seq ?_
    refine T.region ?_
    refine R.asE rfl (by conv => lhs; whnf) ?_
    refine R.asE rfl (by conv => lhs; whnf) ?_
    refine TL.nil (Post.thnN ?_)
    refine T.has (Has.none Has.nil) ?_
    refine T.ret (Post.thnR ?_)
    have hM : windroseref20_Why_m a0 a1 a2 a3 = ([], false) := by rw [windroseref20_Why_m, if_pos c23]
    exact fin2L (v := .slice none 0 0) (v' := .bool false) [[]] rfl rfl rfl (List.Sublist.refl _) ⟨.slice none 0 0, [], by first | rw [hM] | rfl, rfl, by rw [hM]; exact OwnS.nil⟩
  · refine T.set 23 (.bool false) (congrArg Value.bool (decide_eq_false c23)) ?_
    refine T.skip (Post.thnN ?_)
    refine T.seq ?_
    refine T.region ?_
    refine R.asE rfl (by conv => lhs; whnf) ?_
    refine TL.nil (Post.thnN ?_)
    refine T.seq ?_
    refine T.seq ?_
    refine T.region ?_
    refine R.mvE rfl (by conv => lhs; whnf) ?_
    refine R.asE rfl (by conv => lhs; whnf) ?_
    refine TL.nil (Post.thnN ?_)
    refine T.block ?_
    refine T.loop (ι := Nat × Int × Value × (List (Int × Int)) × Chunk × Int) (fun ⟨kl1, n10l1, v11l1, x11l1, c11l1, n12l1⟩ H' L' ds' => n10l1.toNat < kl1 ∧ Has L' [c11l1] ∧ OwnS heldE 73 H' v11l1 x11l1 c11l1 ∧ 0 ≤ n10l1 ∧ n10l1 ≤ 2000000 ∧ (x11l1.length : Int) + n10l1 ≤ 2000000 ∧ windroseref20_Why_l1 a0 a1 a3 kl1 ((n10l1, x11l1, n12l1)) = windroseref20_Why_l1 a0 a1 a3 (((windroseref20_far_m a0 a1 a2 a3 ((a1.length : Int)))).toNat + 1) (((windroseref20_far_m a0 a1 a2 a3 ((a1.length : Int))), [], a2))) (fun ⟨kl1, n10l1, v11l1, x11l1, c11l1, n12l1⟩ => [(0, .slice Aa0 a0.length ca0), (1, .slice Aa1 a1.length ca1), (3, .int .i64 a3), (10, .int .i64 n10l1), (11, v11l1), (12, .int .i64 n12l1)]) (fun ⟨kl1, n10l1, v11l1, x11l1, c11l1, n12l1⟩ => kl1) ((((windroseref20_far_m a0 a1 a2 a3 ((a1.length : Int)))).toNat + 1), (windroseref20_far_m a0 a1 a2 a3 ((a1.length : Int))), .slice none 0 0, [], [], a2) ?_ ?_ ?_
    · exact ⟨(by omega), (Has.none Has.nil), OwnS.nil, (by first | omega | (simp; done) | (simp; omega) | (simp at *; omega)), (by first | omega | (simp; done) | (simp; omega) | (simp at *; omega)), (by first | omega | (simp; done) | (simp; omega) | (simp at *; omega)), (by rfl)⟩
    · exact ⟨rfl, rfl, rfl, rfl, rfl, rfl, trivial⟩
    · intro ⟨kl1, n10l1, v11l1, x11l1, c11l1, n12l1⟩ σ_l1 H_l1 L_l1 ds_l1 s_l1 hI_l1
      obtain ⟨hkl1, hI_l1⟩ := hI_l1
      obtain ⟨ml1, rfl⟩ : ∃ m, kl1 = m + 1 := ⟨kl1 - 1, by omega⟩
      obtain ⟨hLl1, w11l1, hBl1_0, hBl1_1, hBl1_2, hQl1⟩ := hI_l1
      obtain ⟨A11l1, p11l1, rfl, m11l1, n11l1_⟩ := OwnS.shape w11l1
      refine T.has hLl1 ?_
      refine T.seq ?_
      refine T.seq ?_
      refine T.region ?_
      refine R.mvE rfl (by conv => lhs; whnf) ?_
      refine R.gtr rfl rfl rfl ?_
      refine TL.nil (Post.thnN ?_)
      refine T.condD rfl (fun c26 => ?_) (fun c26 => ?_)
      · refine T.set 26 (.bool true) (congrArg Value.bool (decide_eq_true c26)) ?_
        refine T.skip (Post.thnN ?_)
        refine T.seq ?_
        refine T.cutK (ι := Value × (List (Int × Int)) × Chunk × Int) (fun ⟨v11c2, x11c2, c11c2, n12c2⟩ H' L' ds' => Has L' [c11c2] ∧ OwnS heldE 73 H' v11c2 x11c2 c11c2 ∧ x11c2.length ≤ x11l1.length + 1 ∧ (LR.seq (windroseref20_Why_l3 a0 a1 a3 n10l1 a1 ((x11l1, n12l1))) (fun ol3 => ol3) : (List (Int × Int)) × Int) = (x11c2, n12c2)) (fun ⟨v11c2, x11c2, c11c2, n12c2⟩ => [(0, .slice Aa0 a0.length ca0), (1, .slice Aa1 a1.length ca1), (3, .int .i64 a3), (10, .int .i64 n10l1), (11, v11c2), (12, .int .i64 n12c2)]) ?_ ?_
        · refine T.block ?_
          refine T.seq ?_
          refine T.region ?_
          refine R.mvE rfl (by conv => lhs; whnf) ?_
          refine R.len Tryd.underlying60 rfl rfl ?_
          refine R.mvE rfl (by conv => lhs; whnf) ?_
          refine TL.nil (Post.thnN ?_)
          refine T.block ?_
          refine T.loop (ι := Nat × Value × (List (Int × Int)) × Chunk × Int) (fun ⟨kl3, v11l3, x11l3, c11l3, n12l3⟩ H' L' ds' => kl3 ≤ a1.length ∧ Has L' [c11l3] ∧ OwnS heldE 73 H' v11l3 x11l3 c11l3 ∧ x11l3.length ≤ x11l1.length ∧ windroseref20_Why_l3 a0 a1 a3 n10l1 (a1.drop kl3) ((x11l3, n12l3)) = windroseref20_Why_l3 a0 a1 a3 n10l1 a1 ((x11l1, n12l1))) (fun ⟨kl3, v11l3, x11l3, c11l3, n12l3⟩ => [(31, .int .i64 (kl3 : Int)), (0, .slice Aa0 a0.length ca0), (1, .slice Aa1 a1.length ca1), (3, .int .i64 a3), (10, .int .i64 n10l1), (11, v11l3), (12, .int .i64 n12l3), (29, .slice Aa1 a1.length ca1), (30, .int .i64 (a1.length : Int))]) (fun ⟨kl3, v11l3, x11l3, c11l3, n12l3⟩ => a1.length - kl3) (0, .slice A11l1 x11l1.length p11l1, x11l1, c11l1, n12l1) ?_ ?_ ?_
          · exact ⟨(by omega), (Has.cons .hd Has.nil), w11l1, (by first | omega | (simp; done) | (simp; omega) | (simp at *; omega)), (by rfl)⟩
          · exact ⟨rfl, rfl, rfl, rfl, rfl, rfl, rfl, rfl, rfl, trivial⟩
          · intro ⟨kl3, v11l3, x11l3, c11l3, n12l3⟩ σ_l3 H_l3 L_l3 ds_l3 s_l3 hI_l3
            obtain ⟨hkl3, hI_l3⟩ := hI_l3
            obtain ⟨hLl3, w11l3, hBl3_0, hQl3⟩ := hI_l3
            obtain ⟨A11l3, p11l3, rfl, m11l3, n11l3_⟩ := OwnS.shape w11l3
            refine T.has hLl3 ?_
            refine T.seq ?_
            refine T.region ?_
            refine R.lss rfl rfl rfl ?_
            refine TL.nil (Post.thnN ?_)
            refine T.seq ?_
            refine T.condD rfl (fun c32 => ?_) (fun c32 => ?_)
            · have hltl3 : kl3 < a1.length := by omega
              obtain ⟨yl3, hyl3⟩ := getk (xs := a1) (k := kl3) (by omega)
              refine T.skip (Post.thnN ?_)
              refine T.seq ?_
              refine T.block ?_
              refine T.seq ?_
              refine T.region ?_
              obtain ⟨b33, o33, i33, k33⟩ := RdS.elem (ha1.mono (s_l1.trans s_l3)) hyl3
              obtain ⟨l33, g33, k33⟩ := k33
              obtain rfl : l33 = [.int .i64 (yl3.1), .int .u64 (yl3.2)] := g33
              refine R.ixp Tryd.underlying60 Tryd.sizeOf73 rfl rfl rfl (by omega) i33 ?_
              refine R.ldK (l := [.int .i64 (yl3.1), .int .u64 (yl3.2)]) Tryd.isAgg73 Tryd.sizeOf73 rfl rfl k33 rfl ?_
              refine R.alloc Tryd.zeroValue73 rfl ?_
              intro b14
              refine R.stX (old := [.int .i64 0, .int .u64 0]) (l := [.int .i64 (yl3.1), .int .u64 (yl3.2)]) (new := [.int .i64 (yl3.1), .int .u64 (yl3.2)]) (et := 73) Tryd.sizeOf73 rfl rfl rfl rfl rfl (by show 0 + 2 ≤ 2; decide) rfl (all_one rfl) .hd ?_
              refine TL.shut .hd ?_
              intro Hb14_1 sb14_1 qb14_1
              have hb14_1 : Hb14_1 b14 = some (.cells #[.int .i64 (yl3.1), .int .u64 (yl3.2)] 73) := shut1 qb14_1
              refine TL.nil (Post.thnN ?_)
              refine T.seq ?_
              refine T.cutK (ι := Bool) (fun b51c4 H' L' ds' => Has L' [c11l3] ∧ (if (windroseref20_kills_m a0 yl3 n12l3) = true then ((decide (((windroseref20_far_m a0 a1 yl3.1 a3 ((n10l1 - 1))) : Int) = (n10l1 - 1)))) else false : Bool) = b51c4) (fun b51c4 => [(0, .slice Aa0 a0.length ca0), (1, .slice Aa1 a1.length ca1), (3, .int .i64 a3), (10, .int .i64 n10l1), (11, .slice A11l3 x11l3.length p11l3), (12, .int .i64 n12l3), (14, .pointer (some ⟨b14, 0, none⟩)), (29, .slice Aa1 a1.length ca1), (30, .int .i64 (a1.length : Int)), (31, .int .i64 (kl3 : Int)), (51, .bool (b51c4))]) ?_ ?_
              · refine T.region ?_
                refine R.mvE rfl (by conv => lhs; whnf) ?_
                refine R.ldXH (cs := [.int .i64 (yl3.1), .int .u64 (yl3.2)]) (l := [.int .i64 (yl3.1), .int .u64 (yl3.2)]) Tryd.isAgg73 Tryd.sizeOf73 rfl rfl hb14_1 rfl rfl ?_
                refine R.mvE rfl (by conv => lhs; whnf) ?_
                refine R.callv rfl rfl rfl (windroseref20_kills_c _ _ a0 (ha0.mono (s_l1.trans (s_l3.trans sb14_1))) yl3 (n12l3)) ?_
                refine R.mvE rfl (by conv => lhs; whnf) ?_
                refine TL.gsplit 39 rfl (fun g39 => ?_) (fun g39 => ?_)
                · refine R.mvE rfl (by conv => lhs; whnf) ?_
                  refine R.mvE rfl (by conv => lhs; whnf) ?_
                  refine R.fldA Tryd.underlying73 rfl Tryd.sizeOf3 (by decide) rfl rfl ?_
                  refine R.ldH Tryd.isAgg3 rfl rfl hb14_1 rfl ?_
                  refine R.mvE rfl (by conv => lhs; whnf) ?_
                  refine R.mvE rfl (by conv => lhs; whnf) ?_
                  refine R.subI rfl rfl rfl (by omega) ?_
                  refine R.callv rfl rfl rfl (windroseref20_far_c _ _ a0 (ha0.mono (s_l1.trans (s_l3.trans sb14_1))) _ a1 (ha1.mono (s_l1.trans (s_l3.trans sb14_1))) (yl3.1) (a3) ((n10l1 - 1)) (by first | omega | (simp; done) | (simp; omega) | (simp at *; omega)) (by first | omega | (simp; done) | (simp; omega) | (simp at *; omega)) (by first | omega | (simp; done) | (simp; omega) | (simp at *; omega))) ?_
                  refine R.mvE rfl (by conv => lhs; whnf) ?_
                  refine R.subI rfl rfl rfl (by omega) ?_
                  refine R.eql rfl rfl rfl ?_
                  refine R.pkTE rfl rfl (by conv => lhs; whnf) ?_
                  refine TL.nil (Post.thnN ?_)
                  exact ⟨(decide (((windroseref20_far_m a0 a1 yl3.1 a3 ((n10l1 - 1))) : Int) = (n10l1 - 1))), HLe.refl _, ⟨(Has.cons .hd Has.nil), (by rw [if_t g39])⟩, rfl, rfl, rfl, rfl, rfl, rfl, rfl, rfl, rfl, rfl, rfl, trivial⟩
                · refine TL.off rfl rfl rfl ?_
                  refine TL.off rfl rfl rfl ?_
                  refine TL.off rfl rfl rfl ?_
                  refine TL.off rfl rfl rfl ?_
                  refine TL.off rfl rfl rfl ?_
                  refine TL.off rfl rfl rfl ?_
                  refine TL.off rfl rfl rfl ?_
                  refine TL.off rfl rfl rfl ?_
                  refine TL.off rfl rfl rfl ?_
                  refine TL.off rfl rfl rfl ?_
                  refine TL.off rfl rfl rfl ?_
                  refine R.pkFE rfl rfl (by conv => lhs; whnf) ?_
                  refine TL.nil (Post.thnN ?_)
                  exact ⟨false, HLe.refl _, ⟨(Has.cons .hd Has.nil), (by rw [if_f g39])⟩, rfl, rfl, rfl, rfl, rfl, rfl, rfl, rfl, rfl, rfl, rfl, trivial⟩
              · intro b51c4 σ_c4 H_c4 L_c4 ds_c4 s_c4 hI_c4
                obtain ⟨hLc4, hTc4⟩ := hI_c4
                refine T.has hLc4 ?_
                refine T.cond rfl (fun c51 => ?_) (fun c51 => ?_)
                · refine T.set 51 (.bool true) (congrArg Value.bool c51) ?_
                  have hZ51 := hTc4.trans c51
                  try simp only [or_f, or_t, and_f, and_t, decide_eq_true_eq, decide_eq_false_iff_not, Bool.not_eq_true'] at hZ51
                  refine T.seq ?_
                  refine T.draw Tryd_mixed (by kernel_rfl) ?_
                  refine Plan.v 0 [1, 2, 3, 4, 5, 6, 7] (by kernel_rfl) (by kernel_rfl) (by kernel_rfl) (by kernel_rfl) rfl (fun _ _ h_ => R.mvE rfl (by conv => lhs; whnf) (TL.nil h_)) ?_
                  refine Plan.v 1 [2, 3, 4, 5, 6, 7] (by kernel_rfl) (by kernel_rfl) (by kernel_rfl) (by kernel_rfl) rfl (fun _ _ h_ => R.ldXH (cs := [.int .i64 (yl3.1), .int .u64 (yl3.2)]) (l := [.int .i64 (yl3.1), .int .u64 (yl3.2)]) Tryd.isAgg73 Tryd.sizeOf73 rfl rfl (s_c4 _ _ hb14_1) rfl rfl (TL.nil h_)) ?_
                  refine Plan.v 4 [2, 3, 5, 6, 7] (by kernel_rfl) (by kernel_rfl) (by kernel_rfl) (by kernel_rfl) rfl (fun _ _ h_ => R.fldA Tryd.underlying73 rfl Tryd.sizeOf3 (by decide) rfl rfl (TL.nil h_)) ?_
                  refine Plan.v 5 [2, 3, 6, 7] (by kernel_rfl) (by kernel_rfl) (by kernel_rfl) (by kernel_rfl) rfl (fun _ _ h_ => R.ldH Tryd.isAgg3 rfl rfl (s_c4 _ _ hb14_1) rfl (TL.nil h_)) ?_
                  refine Plan.s1 2 [3, 6, 7] (by kernel_rfl) (by kernel_rfl) rfl ?_
                  refine R.bs (e := 73) (cs := [.int .i64 (yl3.1), .int .u64 (yl3.2)]) rfl (fun _ => by kernel_rfl) ?_
                  intro b54
                  have w54 : OwnS heldE 73 H_c4 (.slice (some ⟨b54, 0, none⟩) 1 1) [yl3] [(b54, .cells #[.int .i64 (yl3.1), .int .u64 (yl3.2)] 73)] := OwnS.lit (xs := [yl3]) (cellsOf_cons (a := [.int .i64 (yl3.1), .int .u64 (yl3.2)]) rfl cellsOf_nil) (by show 1 ≤ maxLen; decide)
                  refine TL.nil (Plan.e1 (HLe.refl _) ?_)
                  refine Plan.s1 3 [6, 7] (by kernel_rfl) (by kernel_rfl) rfl ?_
                  obtain ⟨k55, y55, r55⟩ := Src.ownA w54
                  refine R.app (E := heldE) (e := 73) (xs := x11l3) (ys := [yl3]) Tryd_ty60 rfl rfl rfl (OwnS.mono w11l3 (sb14_1.trans s_c4)) (.tl .hd) (r55 _ .hd) y55 (by (try simp only [List.length_append, List.length_cons, List.length_nil, List.length_replicate, List.length_take, List.length_drop]); omega) (by (try simp only [List.length_append, List.length_cons, List.length_nil, List.length_replicate, List.length_take, List.length_drop]); omega) ?_
                  intro v55 c55 w55
                  obtain ⟨A55, p55, rfl, m55, n55⟩ := OwnS.shape w55
                  refine TL.del (.tl .hd) ?_
                  refine TL.nil (Plan.e1 (HLe.refl _) ?_)
                  refine Plan.s1 6 [7] (by kernel_rfl) (by kernel_rfl) rfl ?_
                  refine R.asE rfl (by conv => lhs; whnf) ?_
                  refine TL.nil (Plan.e1 (HLe.refl _) ?_)
                  refine Plan.v 7 [] (by kernel_rfl) (by kernel_rfl) (by kernel_rfl) (by kernel_rfl) rfl (fun _ _ h_ => R.asE rfl (by conv => lhs; whnf) (TL.nil h_)) ?_
                  refine Plan.done (Post.thnN ?_)
                  refine T.exit (Post.blkE rfl (Post.thnE (Post.thnE (Post.blkX ?_))))
                  have hEl3 : windroseref20_Why_l3 a0 a1 a3 n10l1 a1 ((x11l1, n12l1)) = ((x11l3 ++ [yl3]), yl3.1) := (by rw [← hQl3, drop_cons hyl3, windroseref20_Why_l3]; rw [hTc4, LR.seq_go, if_t c51])
                  refine id (Post.blkN ?_)
                  refine id (Post.thnN ?_)
                  exact ⟨(.slice A55 (x11l3 ++ [yl3]).length p55, (x11l3 ++ [yl3]), c55, yl3.1), (s_l3.trans (sb14_1.trans s_c4)), ⟨(Has.cons .hd Has.nil), w55, (by first | omega | (simp; done) | (simp; omega) | (simp at *; omega)), (by rw [hEl3, LR.seq_go])⟩, rfl, rfl, rfl, rfl, rfl, rfl, trivial⟩
                · refine T.set 51 (.bool false) (congrArg Value.bool c51) ?_
                  have hZ51 := hTc4.trans c51
                  try simp only [or_f, or_t, and_f, and_t, decide_eq_true_eq, decide_eq_false_iff_not, Bool.not_eq_true'] at hZ51
                  refine T.skip (Post.blkN ?_)
                  refine id (Post.thnN ?_)
                  refine T.region ?_
                  refine R.addI rfl rfl rfl (by omega) ?_
                  refine R.mvE rfl (by conv => lhs; whnf) ?_
                  refine TL.nil (Post.thnN ?_)
                  exact ⟨(kl3 + 1, .slice A11l3 x11l3.length p11l3, x11l3, c11l3, n12l3), (s_l3.trans (sb14_1.trans s_c4)), ⟨(by omega), (Has.cons .hd Has.nil), (OwnS.mono w11l3 (sb14_1.trans s_c4)), (by first | omega | (simp; done) | (simp; omega) | (simp at *; omega)), (by rw [← hQl3, drop_cons hyl3, windroseref20_Why_l3]; rw [hTc4, LR.seq_go, if_f c51])⟩, by show a1.length - (kl3 + 1) < a1.length - kl3; omega, rfl, rfl, rfl, rfl, rfl, rfl, rfl, rfl, rfl, trivial⟩
            · refine T.exit (Post.thnE (Post.thnE (Post.blkX ?_)))
              have hEl3 : windroseref20_Why_l3 a0 a1 a3 n10l1 a1 ((x11l1, n12l1)) = (x11l3, n12l3) := (hQl3.symm.trans (by rw [show kl3 = a1.length by omega, List.drop_length, windroseref20_Why_l3]))
              refine id (Post.blkN ?_)
              refine id (Post.thnN ?_)
              exact ⟨(.slice A11l3 x11l3.length p11l3, x11l3, c11l3, n12l3), s_l3, ⟨(Has.cons .hd Has.nil), w11l3, (by first | omega | (simp; done) | (simp; omega) | (simp at *; omega)), (by rw [hEl3, LR.seq_go])⟩, rfl, rfl, rfl, rfl, rfl, rfl, trivial⟩
        · intro ⟨v11c2, x11c2, c11c2, n12c2⟩ σ_c2 H_c2 L_c2 ds_c2 s_c2 hI_c2
          obtain ⟨hLc2, w11c2, hBc2_0, hTc2⟩ := hI_c2
          obtain ⟨A11c2, p11c2, rfl, m11c2, n11c2_⟩ := OwnS.shape w11c2
          refine T.has hLc2 ?_
          refine T.region ?_
          refine R.mvE rfl (by conv => lhs; whnf) ?_
          refine R.subI rfl rfl rfl (by omega) ?_
          refine R.asE rfl (by conv => lhs; whnf) ?_
          refine TL.nil (Post.thnN ?_)
          exact ⟨(ml1, (n10l1 - 1), .slice A11c2 x11c2.length p11c2, x11c2, c11c2, n12c2), (s_l1.trans s_c2), ⟨(by first | omega | (simp; omega) | (simp at *; omega)), (Has.cons .hd Has.nil), w11c2, (by first | omega | (simp; done) | (simp; omega) | (simp at *; omega)), (by first | omega | (simp; done) | (simp; omega) | (simp at *; omega)), (by first | omega | (simp; done) | (simp; omega) | (simp at *; omega)), (by rw [← hQl1, windroseref20_Why_l1]; rw [if_pos c26, hTc2, LR.seq_go])⟩, by show ml1 < ml1 + 1; omega, rfl, rfl, rfl, rfl, rfl, rfl, trivial⟩
      · refine T.set 26 (.bool false) (congrArg Value.bool (decide_eq_false c26)) ?_
        refine T.exit (Post.thnE (Post.thnE (Post.blkX ?_)))
        have hEl1 : windroseref20_Why_l1 a0 a1 a3 (((windroseref20_far_m a0 a1 a2 a3 ((a1.length : Int)))).toNat + 1) (((windroseref20_far_m a0 a1 a2 a3 ((a1.length : Int))), [], a2)) = (n10l1, x11l1, n12l1) := (by rw [← hQl1, windroseref20_Why_l1]; rw [if_neg c26])
        refine id (Post.thnN ?_)
        refine T.seq ?_
        refine T.region ?_
        refine R.mvE rfl (by conv => lhs; whnf) ?_
        refine R.asE rfl (by conv => lhs; whnf) ?_
        refine R.asE rfl (by conv => lhs; whnf) ?_
        refine TL.nil (Post.thnN ?_)
        refine T.has (Has.cons .hd Has.nil) ?_
        refine T.ret ?_
        have hM : windroseref20_Why_m a0 a1 a2 a3 = (x11l1, true) := by rw [windroseref20_Why_m, if_neg c23, hEl1, LR.seq_go]
        exact fin2L (v := .slice A11l1 x11l1.length p11l1) (v' := .bool true) [c11l1] rfl rfl rfl (List.Sublist.refl _) ⟨.slice A11l1 x11l1.length p11l1, c11l1, by first | rw [hM] | rfl, rfl, by rw [hM]; exact w11l1⟩

end Go.SX

set_option linter.unusedVariables false
set_option linter.unusedSimpArgs false
namespace Go.SX
open Go Go.Proofs

def windroseref20_Index_m (a0 : Int) : Bool :=
  if (1 : Int) ≤ a0 then ((decide (a0 ≤ 1048578))) else false
set_option maxHeartbeats 3200000 in
theorem windroseref20_Index_c (H : Heap) (a0 : Int) : Fv Tryd.prog (fnv 88) [.int .i64 a0] H (.bool (windroseref20_Index_m a0)) := by
  refine Fc.of_body (N := 9) Tryd.func88 rfl (by kernel_rfl) rfl rfl ?_
  intro w0
  refine T.seq ?_
  refine T.region ?_
  refine R.asE rfl (by conv => lhs; whnf) ?_
  refine TL.nil (Post.thnN ?_)
  refine T.seq ?_
  refine T.region ?_
  refine R.mvE rfl (by conv => lhs; whnf) ?_
  refine R.geq rfl rfl rfl ?_
  refine R.mvE rfl (by conv => lhs; whnf) ?_
  refine TL.gsplitD 5 rfl (fun g5 => ?_) (fun g5 => ?_)
  · refine R.mvE rfl (by conv => lhs; whnf) ?_
    refine R.leq rfl rfl rfl ?_
    refine R.pkTE rfl rfl (by conv => lhs; whnf) ?_
    refine R.asE rfl (by conv => lhs; whnf) ?_
    refine TL.nil (Post.thnN ?_)
    refine T.has Has.nil ?_
    refine T.ret ?_
    have hM : windroseref20_Index_m a0 = (decide (a0 ≤ 1048578)) := by rw [windroseref20_Index_m, if_pos g5]
    exact fin1L (v := .bool (decide (a0 ≤ 1048578))) [] rfl rfl (List.Sublist.refl _) ⟨rfl, by first | rw [hM] | rfl⟩
  · refine TL.off rfl rfl rfl ?_
    refine TL.off rfl rfl rfl ?_
    refine R.pkFE rfl rfl (by conv => lhs; whnf) ?_
    refine R.asE rfl (by conv => lhs; whnf) ?_
    refine TL.nil (Post.thnN ?_)
    refine T.has Has.nil ?_
    refine T.ret ?_
    have hM : windroseref20_Index_m a0 = false := by rw [windroseref20_Index_m, if_neg g5]
    exact fin1L (v := .bool false) [] rfl rfl (List.Sublist.refl _) ⟨rfl, by first | rw [hM] | rfl⟩

def windroselaw20_index_m (a0 : Int) : Bool :=
  (windroseref20_Index_m a0)
set_option maxHeartbeats 3200000 in
theorem windroselaw20_index_c (H : Heap) (a0 : Int) : Fv Tryd.prog (fnv 40) [.int .i64 a0] H (.bool (windroselaw20_index_m a0)) := by
  refine Fc.of_body (N := 5) Tryd.func40 rfl (by kernel_rfl) rfl rfl ?_
  intro w0
  refine T.seq ?_
  refine T.region ?_
  refine R.asE rfl (by conv => lhs; whnf) ?_
  refine TL.nil (Post.thnN ?_)
  refine T.seq ?_
  refine T.region ?_
  refine R.mvE rfl (by conv => lhs; whnf) ?_
  refine R.callv rfl rfl rfl (windroseref20_Index_c _ (a0)) ?_
  refine R.asE rfl (by conv => lhs; whnf) ?_
  refine TL.nil (Post.thnN ?_)
  refine T.has Has.nil ?_
  refine T.ret ?_
  have hM : windroselaw20_index_m a0 = (windroseref20_Index_m a0) := by rw [windroselaw20_index_m]
  exact fin1L (v := .bool ((windroseref20_Index_m a0))) [] rfl rfl (List.Sublist.refl _) ⟨rfl, by first | rw [hM] | rfl⟩

def windroselaw20_PlanWhys_l2 (r24 : (List (Int × (Bool × Bool × Int × Int × Int))) × (List (Int × Int))) : List (Int × Int) → Nat → Unit → LR (LR (Bool) (Unit)) (Unit)
  | [], kl2, sl2 => .go ()
  | yl2 :: ysl2, kl2, sl2 => if (kl2 : Int) = 5 then (.go ()) else (LR.seq (plan_Why_m r24.1 r24.2 yl2.1 yl2.2) (fun r46 => LR.seq (if ((windroseref20_Check_m r24.1 r24.2) : Int) = 0 then (LR.seq (if (windroselaw20_index_m yl2.1) = true then ((windroselaw20_index_m yl2.2)) else false : Bool) (fun sc4 => if sc4 = true then (LR.seq (windroseref20_Why_m r24.1 r24.2 yl2.1 yl2.2) (fun r67 => if r67.2 = true then ((r67.1, 0)) else ((r67.1, 4)))) else (([], 2)))) else (([], (windroseref20_Check_m r24.1 r24.2))) : (List (Int × Int)) × Int) (fun sc3 => LR.seq (if r46.2 ≠ sc3.2 then true else ((decide (¬ (r46.1 = sc3.1)))) : Bool) (fun sc5 => if sc5 = true then (.ret (.ret false)) else (windroselaw20_PlanWhys_l2 r24 ysl2 (kl2 + 1) ())))))
def windroselaw20_PlanWhys_m (a0 : List (Int × (Bool × Bool × Int × Int × Int))) (a1 : List (Int × Int)) (a2 : List (Int × Int)) : Bool :=
  if (!windroselaw20_wakes_m) = true then false else (LR.seq (windroselaw20_own_m a0 a1) (fun r24 => LR.on (LR.on (windroselaw20_PlanWhys_l2 r24 a2 0 ()) (fun r => r) (fun ol2 => .go ol2) : LR (Bool) (Unit)) (fun r => r) (fun sc1 => LR.seq (windroselaw20_own_m a0 a1) (fun r84 => if r24.1 = r84.1 then ((decide (r24.2 = r84.2))) else false))))
set_option maxHeartbeats 3200000 in
theorem windroselaw20_PlanWhys_c (H : Heap) {tG1 : TypeId} (hG1 : H 1 = some (.cells #[.int .i64 1, .bool true, .bool true, .int .i64 0, .int .i64 1, .int .i64 2, .int .i64 2, .bool true, .bool false, .int .i64 0, .int .i64 0, .int .i64 2] tG1)) (va0 : Value) (a0 : List (Int × (Bool × Bool × Int × Int × Int))) (ha0 : RdS relationE H va0 a0) (va1 : Value) (a1 : List (Int × Int)) (ha1 : RdS heldE H va1 a1) (va2 : Value) (a2 : List (Int × Int)) (ha2 : RdS pairE H va2 a2) : Fv Tryd.prog (fnv 9) [va0, va1, va2] H (.bool (windroselaw20_PlanWhys_m a0 a1 a2)) := by
  refine Fc.of_body (N := 95) Tryd.func9 rfl (by kernel_rfl) rfl rfl ?_
  intro w0
  obtain ⟨Aa0, ca0, rfl, hca0, hda0, ha0⟩ := ha0.shape
  obtain ⟨Aa1, ca1, rfl, hca1, hda1, ha1⟩ := ha1.shape
  obtain ⟨Aa2, ca2, rfl, hca2, hda2, ha2⟩ := ha2.shape
  refine T.seq ?_
  refine T.region ?_
  refine R.asE rfl (by conv => lhs; whnf) ?_
  refine TL.nil (Post.thnN ?_)
  refine T.seq ?_
  refine T.seq ?_
  refine T.region ?_
  refine R.callv rfl rfl rfl (windroselaw20_wakes_c _ hG1) ?_
  refine R.not rfl rfl ?_
  refine TL.nil (Post.thnN ?_)
  refine T.cond rfl (fun c20 => ?_) (fun c20 => ?_)
  · refine T.set 20 (.bool true) (congrArg Value.bool c20) ?_
    refine T.seq ?_
    refine T.region ?_
    refine R.asE rfl (by conv => lhs; whnf) ?_
    refine TL.nil (Post.thnN ?_)
    refine T.has Has.nil ?_
    refine T.ret (Post.thnR ?_)
    have hM : windroselaw20_PlanWhys_m a0 a1 a2 = false := by rw [windroselaw20_PlanWhys_m, if_t c20]
    exact fin1L (v := .bool false) [] rfl rfl (List.Sublist.refl _) ⟨rfl, by first | rw [hM] | rfl⟩
  · refine T.set 20 (.bool false) (congrArg Value.bool c20) ?_
    refine T.skip (Post.thnN ?_)
    refine T.seq ?_
    refine T.region ?_
    refine R.mvE rfl (by conv => lhs; whnf) ?_
    refine R.mvE rfl (by conv => lhs; whnf) ?_
    obtain ⟨r24, er24⟩ : ∃ r, r = (windroselaw20_own_m a0 a1) := ⟨_, rfl⟩
    refine TL.call [] rfl rfl rfl (windroselaw20_own_c _ _ a0 ha0 _ a1 ha1) ?_
    intro v24 H24 L24 s24 q24
    rw [← er24] at q24
    obtain ⟨u24_0_0, u24_1_0, c24_0_0, c24_1_0, rfl, rfl, w24_0_0, w24_1_0⟩ := q24
    obtain ⟨A24_0_0, p24_0_0, rfl, m24_0_0, n24_0_0⟩ := OwnS.shape w24_0_0
    obtain ⟨A24_1_0, p24_1_0, rfl, m24_1_0, n24_1_0⟩ := OwnS.shape w24_1_0
    have tq24 : r24.1.length ≤ 12 ∧ r24.2.length ≤ 16 := by rw [er24]; simp only [windroselaw20_own_m, List.length_take]; omega
    refine R.mvE rfl (by conv => lhs; whnf) ?_
    refine R.ext rfl rfl rfl ?_
    refine R.ext rfl rfl rfl ?_
    refine R.asE rfl (by conv => lhs; whnf) ?_
    refine R.asE rfl (by conv => lhs; whnf) ?_
    refine TL.nil (Post.thnN ?_)
    refine T.seq ?_
    refine T.region ?_
    refine R.mvE rfl (by conv => lhs; whnf) ?_
    refine R.mvE rfl (by conv => lhs; whnf) ?_
    refine TL.shut .hd ?_
    intro HF24_0_0_1 sF24_0_0_1 qF24_0_0_1
    have fF24_0_0_1 := OwnS.read w24_0_0 sF24_0_0_1 qF24_0_0_1
    refine TL.shut .hd ?_
    intro HF24_1_0_2 sF24_1_0_2 qF24_1_0_2
    have fF24_1_0_2 := OwnS.read (OwnS.mono w24_1_0 sF24_0_0_1) sF24_1_0_2 qF24_1_0_2
    refine R.callv rfl rfl rfl (windroseref20_Check_c _ _ r24.1 (fF24_0_0_1.mono sF24_1_0_2) _ r24.2 fF24_1_0_2) ?_
    refine R.asE rfl (by conv => lhs; whnf) ?_
    refine TL.nil (Post.thnN ?_)
    refine T.seq ?_
    refine T.seq ?_
    refine T.region ?_
    refine R.mvE rfl (by conv => lhs; whnf) ?_
    refine R.len Tryd.underlying61 rfl rfl ?_
    refine R.mvE rfl (by conv => lhs; whnf) ?_
    refine TL.nil (Post.thnN ?_)
    refine T.cutK (ι := Unit) (fun _ H' L' ds' => Has L' [] ∧ (LR.on (windroselaw20_PlanWhys_l2 r24 a2 0 ()) (fun r => r) (fun ol2 => .go ol2) : LR (Bool) (Unit)) = .go ()) (fun _ => [(0, .slice Aa0 a0.length ca0), (1, .slice Aa1 a1.length ca1), (7, .slice A24_0_0 r24.1.length p24_0_0), (8, .slice A24_1_0 r24.2.length p24_1_0)]) ?_ ?_
    · refine T.block ?_
      refine T.loop (ι := Nat) (fun kl2 H' L' ds' => kl2 ≤ a2.length ∧ Has L' [] ∧ windroselaw20_PlanWhys_l2 r24 (a2.drop kl2) kl2 () = windroselaw20_PlanWhys_l2 r24 a2 0 ()) (fun kl2 => [(32, .int .i64 (kl2 : Int)), (0, .slice Aa0 a0.length ca0), (1, .slice Aa1 a1.length ca1), (7, .slice A24_0_0 r24.1.length p24_0_0), (8, .slice A24_1_0 r24.2.length p24_1_0), (9, .int .i64 (windroseref20_Check_m r24.1 r24.2)), (30, .slice Aa2 a2.length ca2), (31, .int .i64 (a2.length : Int))]) (fun kl2 => a2.length - kl2) 0 ?_ ?_ ?_
      · exact ⟨(by omega), Has.nil, (by rfl)⟩
      · exact ⟨rfl, rfl, rfl, rfl, rfl, rfl, rfl, rfl, trivial⟩
      · intro kl2 σ_l2 H_l2 L_l2 ds_l2 s_l2 hI_l2
        obtain ⟨hkl2, hI_l2⟩ := hI_l2
        obtain ⟨hLl2, hQl2⟩ := hI_l2
        refine T.has hLl2 ?_
        refine T.seq ?_
        refine T.region ?_
        refine R.lss rfl rfl rfl ?_
        refine TL.nil (Post.thnN ?_)
        refine T.seq ?_
        refine T.condD rfl (fun c33 => ?_) (fun c33 => ?_)
        · have hltl2 : kl2 < a2.length := by omega
          obtain ⟨yl2, hyl2⟩ := getk (xs := a2) (k := kl2) (by omega)
          refine T.skip (Post.thnN ?_)
          refine T.seq ?_
          refine T.block ?_
          refine T.seq ?_
          refine T.region ?_
          refine R.mvE rfl (by conv => lhs; whnf) ?_
          obtain ⟨b35, o35, i35, k35⟩ := RdS.elem (ha2.mono (s24.trans (sF24_0_0_1.trans (sF24_1_0_2.trans s_l2)))) hyl2
          obtain ⟨l35, g35, k35⟩ := k35
          obtain rfl : l35 = [.int .i64 (yl2.1), .int .i64 (yl2.2)] := g35
          refine R.ixp Tryd.underlying61 Tryd.sizeOf65 rfl rfl rfl (by omega) i35 ?_
          refine R.ldK (l := [.int .i64 (yl2.1), .int .i64 (yl2.2)]) Tryd.isAgg65 Tryd.sizeOf65 rfl rfl k35 rfl ?_
          refine R.alloc Tryd.zeroValue65 rfl ?_
          intro b11
          refine R.asE rfl (by conv => lhs; whnf) ?_
          refine R.stX (old := [.int .i64 0, .int .i64 0]) (l := [.int .i64 (yl2.1), .int .i64 (yl2.2)]) (new := [.int .i64 (yl2.1), .int .i64 (yl2.2)]) (et := 65) Tryd.sizeOf65 rfl rfl rfl rfl rfl (by show 0 + 2 ≤ 2; decide) rfl (all_one rfl) .hd ?_
          refine TL.shut .hd ?_
          intro Hb11_3 sb11_3 qb11_3
          have hb11_3 : Hb11_3 b11 = some (.cells #[.int .i64 (yl2.1), .int .i64 (yl2.2)] 65) := shut1 qb11_3
          refine TL.nil (Post.thnN ?_)
          refine T.seq ?_
          refine T.seq ?_
          refine T.region ?_
          refine R.mvE rfl (by conv => lhs; whnf) ?_
          refine R.eql rfl rfl rfl ?_
          refine TL.nil (Post.thnN ?_)
          refine T.condD rfl (fun c38 => ?_) (fun c38 => ?_)
          · refine T.set 38 (.bool true) (congrArg Value.bool (decide_eq_true c38)) ?_
            refine T.exit (Post.thnE (Post.blkE rfl (Post.thnE (Post.thnE (Post.blkX ?_)))))
            have hEl2 : windroselaw20_PlanWhys_l2 r24 a2 0 () = .go () := (by rw [← hQl2, drop_cons hyl2, windroselaw20_PlanWhys_l2]; rw [if_pos c38])
            refine id (Post.thnN ?_)
            exact ⟨(), (s_l2.trans sb11_3), ⟨Has.nil, (by rw [hEl2, LR.on_go])⟩, rfl, rfl, rfl, rfl, trivial⟩
          · refine T.set 38 (.bool false) (congrArg Value.bool (decide_eq_false c38)) ?_
            refine T.skip (Post.thnN ?_)
            refine T.seq ?_
            refine T.region ?_
            refine R.mvE rfl (by conv => lhs; whnf) ?_
            refine R.mvE rfl (by conv => lhs; whnf) ?_
            refine R.ixA Tryd.underlying65 Tryd.sizeOf3 rfl rfl rfl (by decide) (by decide) ?_
            refine R.ldH Tryd.isAgg3 rfl rfl hb11_3 rfl ?_
            refine R.ixA Tryd.underlying65 Tryd.sizeOf3 rfl rfl rfl (by decide) (by decide) ?_
            refine R.ldH Tryd.isAgg3 rfl rfl hb11_3 rfl ?_
            obtain ⟨r46, er46⟩ : ∃ r, r = (plan_Why_m r24.1 r24.2 yl2.1 yl2.2) := ⟨_, rfl⟩
            refine TL.call [] rfl rfl rfl (plan_Why_c _ ((s24.trans (sF24_0_0_1.trans (sF24_1_0_2.trans (s_l2.trans sb11_3)))) _ _ hG1) _ r24.1 (fF24_0_0_1.mono (sF24_1_0_2.trans (s_l2.trans sb11_3))) _ r24.2 (fF24_1_0_2.mono (s_l2.trans sb11_3)) (yl2.1) (yl2.2) (by first | omega | (simp; done) | (simp; omega) | (simp at *; omega)) (by first | omega | (simp; done) | (simp; omega) | (simp at *; omega))) ?_
            intro v46 H46 L46 s46 q46
            rw [← er46] at q46
            obtain ⟨u46_0_0, c46_0_0, rfl, rfl, w46_0_0⟩ := q46
            obtain ⟨A46_0_0, p46_0_0, rfl, m46_0_0, n46_0_0⟩ := OwnS.shape w46_0_0
            refine R.mvE rfl (by conv => lhs; whnf) ?_
            refine R.ext rfl rfl rfl ?_
            refine R.ext rfl rfl rfl ?_
            refine R.asE rfl (by conv => lhs; whnf) ?_
            refine R.asE rfl (by conv => lhs; whnf) ?_
            refine TL.nil (Post.thnN ?_)
            refine T.seq ?_
            refine T.region ?_
            refine R.asE rfl (by conv => lhs; whnf) ?_
            refine TL.nil (Post.thnN ?_)
            refine T.seq ?_
            refine T.region ?_
            refine R.mvE rfl (by conv => lhs; whnf) ?_
            refine R.asE rfl (by conv => lhs; whnf) ?_
            refine TL.nil (Post.thnN ?_)
            refine T.seq ?_
            refine T.seq ?_
            refine T.region ?_
            refine R.mvE rfl (by conv => lhs; whnf) ?_
            refine R.eql rfl rfl rfl ?_
            refine TL.nil (Post.thnN ?_)
            refine T.cutK (ι := Value × (List (Int × Int)) × Chunk × Int) (fun ⟨v14c3, x14c3, c14c3, n15c3⟩ H' L' ds' => Has L' [c46_0_0, c14c3] ∧ OwnS heldE 73 H' v14c3 x14c3 c14c3 ∧ (if ((windroseref20_Check_m r24.1 r24.2) : Int) = 0 then (LR.seq (if (windroselaw20_index_m yl2.1) = true then ((windroselaw20_index_m yl2.2)) else false : Bool) (fun sc4 => if sc4 = true then (LR.seq (windroseref20_Why_m r24.1 r24.2 yl2.1 yl2.2) (fun r67 => if r67.2 = true then ((r67.1, 0)) else ((r67.1, 4)))) else (([], 2)))) else (([], (windroseref20_Check_m r24.1 r24.2))) : (List (Int × Int)) × Int) = (x14c3, n15c3)) (fun ⟨v14c3, x14c3, c14c3, n15c3⟩ => [(0, .slice Aa0 a0.length ca0), (1, .slice Aa1 a1.length ca1), (7, .slice A24_0_0 r24.1.length p24_0_0), (8, .slice A24_1_0 r24.2.length p24_1_0), (9, .int .i64 (windroseref20_Check_m r24.1 r24.2)), (12, .slice A46_0_0 r46.1.length p46_0_0), (13, .int .i64 (r46.2)), (14, v14c3), (15, .int .i64 n15c3), (30, .slice Aa2 a2.length ca2), (31, .int .i64 (a2.length : Int)), (32, .int .i64 (kl2 : Int))]) ?_ ?_
            · refine T.condD rfl (fun c51 => ?_) (fun c51 => ?_)
              · refine T.set 51 (.bool true) (congrArg Value.bool (decide_eq_true c51)) ?_
                refine T.seq ?_
                refine T.region ?_
                refine R.asE rfl (by conv => lhs; whnf) ?_
                refine TL.nil (Post.thnN ?_)
                refine T.seq ?_
                refine T.cutK (ι := Bool) (fun b59c4 H' L' ds' => Has L' [c46_0_0] ∧ (if (windroselaw20_index_m yl2.1) = true then ((windroselaw20_index_m yl2.2)) else false : Bool) = b59c4) (fun b59c4 => [(0, .slice Aa0 a0.length ca0), (1, .slice Aa1 a1.length ca1), (7, .slice A24_0_0 r24.1.length p24_0_0), (8, .slice A24_1_0 r24.2.length p24_1_0), (9, .int .i64 (windroseref20_Check_m r24.1 r24.2)), (11, .pointer (some ⟨b11, 0, none⟩)), (12, .slice A46_0_0 r46.1.length p46_0_0), (13, .int .i64 (r46.2)), (14, .slice none 0 0), (15, .int .i64 2), (30, .slice Aa2 a2.length ca2), (31, .int .i64 (a2.length : Int)), (32, .int .i64 (kl2 : Int)), (59, .bool (b59c4))]) ?_ ?_
                · refine T.region ?_
                  refine R.ixA Tryd.underlying65 Tryd.sizeOf3 rfl rfl rfl (by decide) (by decide) ?_
                  refine R.ldH Tryd.isAgg3 rfl rfl (s46 _ _ hb11_3) rfl ?_
                  refine R.callv rfl rfl rfl (windroselaw20_index_c _ (yl2.1)) ?_
                  refine R.mvE rfl (by conv => lhs; whnf) ?_
                  refine TL.gsplit 55 rfl (fun g55 => ?_) (fun g55 => ?_)
                  · refine R.ixA Tryd.underlying65 Tryd.sizeOf3 rfl rfl rfl (by decide) (by decide) ?_
                    refine R.ldH Tryd.isAgg3 rfl rfl (s46 _ _ hb11_3) rfl ?_
                    refine R.callv rfl rfl rfl (windroselaw20_index_c _ (yl2.2)) ?_
                    refine R.pkTE rfl rfl (by conv => lhs; whnf) ?_
                    refine TL.nil (Post.thnN ?_)
                    exact ⟨(windroselaw20_index_m yl2.2), HLe.refl _, ⟨(Has.cons .hd Has.nil), (by rw [if_t g55])⟩, rfl, rfl, rfl, rfl, rfl, rfl, rfl, rfl, rfl, rfl, rfl, rfl, rfl, rfl, trivial⟩
                  · refine TL.off rfl rfl rfl ?_
                    refine TL.off rfl rfl rfl ?_
                    refine TL.off rfl rfl rfl ?_
                    refine R.pkFE rfl rfl (by conv => lhs; whnf) ?_
                    refine TL.nil (Post.thnN ?_)
                    exact ⟨false, HLe.refl _, ⟨(Has.cons .hd Has.nil), (by rw [if_f g55])⟩, rfl, rfl, rfl, rfl, rfl, rfl, rfl, rfl, rfl, rfl, rfl, rfl, rfl, rfl, trivial⟩
                · intro b59c4 σ_c4 H_c4 L_c4 ds_c4 s_c4 hI_c4
                  obtain ⟨hLc4, hTc4⟩ := hI_c4
                  refine T.has hLc4 ?_
                  refine T.cond rfl (fun c59 => ?_) (fun c59 => ?_)
                  · refine T.set 59 (.bool true) (congrArg Value.bool c59) ?_
                    have hZ59 := hTc4.trans c59
                    try simp only [or_f, or_t, and_f, and_t, decide_eq_true_eq, decide_eq_false_iff_not, Bool.not_eq_true'] at hZ59
                    refine T.seq ?_
                    refine T.region ?_
                    refine R.asE rfl (by conv => lhs; whnf) ?_
                    refine TL.nil (Post.thnN ?_)
                    refine T.seq ?_
                    refine T.region ?_
                    refine R.mvE rfl (by conv => lhs; whnf) ?_
                    refine R.mvE rfl (by conv => lhs; whnf) ?_
                    refine R.ixA Tryd.underlying65 Tryd.sizeOf3 rfl rfl rfl (by decide) (by decide) ?_
                    refine R.ldH Tryd.isAgg3 rfl rfl ((s46.trans s_c4) _ _ hb11_3) rfl ?_
                    refine R.ixA Tryd.underlying65 Tryd.sizeOf3 rfl rfl rfl (by decide) (by decide) ?_
                    refine R.ldH Tryd.isAgg3 rfl rfl ((s46.trans s_c4) _ _ hb11_3) rfl ?_
                    obtain ⟨r67, er67⟩ : ∃ r, r = (windroseref20_Why_m r24.1 r24.2 yl2.1 yl2.2) := ⟨_, rfl⟩
                    refine TL.call [] rfl rfl rfl (windroseref20_Why_c _ _ r24.1 (fF24_0_0_1.mono (sF24_1_0_2.trans (s_l2.trans (sb11_3.trans (s46.trans s_c4))))) _ r24.2 (fF24_1_0_2.mono (s_l2.trans (sb11_3.trans (s46.trans s_c4)))) (yl2.1) (yl2.2) (by first | omega | (simp; done) | (simp; omega) | (simp at *; omega))) ?_
                    intro v67 H67 L67 s67 q67
                    rw [← er67] at q67
                    obtain ⟨u67_0_0, c67_0_0, rfl, rfl, w67_0_0⟩ := q67
                    obtain ⟨A67_0_0, p67_0_0, rfl, m67_0_0, n67_0_0⟩ := OwnS.shape w67_0_0
                    refine R.mvE rfl (by conv => lhs; whnf) ?_
                    refine R.ext rfl rfl rfl ?_
                    refine R.ext rfl rfl rfl ?_
                    refine R.asE rfl (by conv => lhs; whnf) ?_
                    refine R.asE rfl (by conv => lhs; whnf) ?_
                    refine TL.nil (Post.thnN ?_)
                    refine T.seq ?_
                    refine T.region ?_
                    refine R.mvE rfl (by conv => lhs; whnf) ?_
                    refine TL.nil (Post.thnN ?_)
                    refine T.cond rfl (fun c70 => ?_) (fun c70 => ?_)
                    · refine T.set 70 (.bool true) (congrArg Value.bool c70) ?_
                      refine T.region ?_
                      refine R.asE rfl (by conv => lhs; whnf) ?_
                      refine TL.nil (Post.thnN ?_)
                      exact ⟨(.slice A67_0_0 r67.1.length p67_0_0, r67.1, c67_0_0, 0), (s_c4.trans s67), ⟨(Has.cons (.tl .hd) (Has.cons .hd Has.nil)), w67_0_0, (by subst er67; rw [if_pos c51, hTc4, LR.seq_go, if_t c59, LR.seq_go, if_t c70])⟩, rfl, rfl, rfl, rfl, rfl, rfl, rfl, rfl, rfl, rfl, rfl, rfl, trivial⟩
                    · refine T.set 70 (.bool false) (congrArg Value.bool c70) ?_
                      refine T.region ?_
                      refine R.asE rfl (by conv => lhs; whnf) ?_
                      refine TL.nil (Post.thnN ?_)
                      exact ⟨(.slice A67_0_0 r67.1.length p67_0_0, r67.1, c67_0_0, 4), (s_c4.trans s67), ⟨(Has.cons (.tl .hd) (Has.cons .hd Has.nil)), w67_0_0, (by subst er67; rw [if_pos c51, hTc4, LR.seq_go, if_t c59, LR.seq_go, if_f c70])⟩, rfl, rfl, rfl, rfl, rfl, rfl, rfl, rfl, rfl, rfl, rfl, rfl, trivial⟩
                  · refine T.set 59 (.bool false) (congrArg Value.bool c59) ?_
                    have hZ59 := hTc4.trans c59
                    try simp only [or_f, or_t, and_f, and_t, decide_eq_true_eq, decide_eq_false_iff_not, Bool.not_eq_true'] at hZ59
                    refine T.skip (Post.thnN ?_)
                    exact ⟨(.slice none 0 0, [], [], 2), s_c4, ⟨(Has.cons .hd (Has.none Has.nil)), OwnS.nil, (by rw [if_pos c51, hTc4, LR.seq_go, if_f c59])⟩, rfl, rfl, rfl, rfl, rfl, rfl, rfl, rfl, rfl, rfl, rfl, rfl, trivial⟩
              · refine T.set 51 (.bool false) (congrArg Value.bool (decide_eq_false c51)) ?_
                refine T.skip (Post.thnN ?_)
                exact ⟨(.slice none 0 0, [], [], (windroseref20_Check_m r24.1 r24.2)), HLe.refl _, ⟨(Has.cons .hd (Has.none Has.nil)), OwnS.nil, (by rw [if_neg c51])⟩, rfl, rfl, rfl, rfl, rfl, rfl, rfl, rfl, rfl, rfl, rfl, rfl, trivial⟩
            · intro ⟨v14c3, x14c3, c14c3, n15c3⟩ σ_c3 H_c3 L_c3 ds_c3 s_c3 hI_c3
              obtain ⟨hLc3, w14c3, hTc3⟩ := hI_c3
              obtain ⟨A14c3, p14c3, rfl, m14c3, n14c3_⟩ := OwnS.shape w14c3
              refine T.has hLc3 ?_
              refine T.seq ?_
              refine T.cutK (ι := Bool) (fun b79c5 H' L' ds' => Has L' [] ∧ (if r46.2 ≠ n15c3 then true else ((decide (¬ (r46.1 = x14c3)))) : Bool) = b79c5) (fun b79c5 => [(0, .slice Aa0 a0.length ca0), (1, .slice Aa1 a1.length ca1), (7, .slice A24_0_0 r24.1.length p24_0_0), (8, .slice A24_1_0 r24.2.length p24_1_0), (9, .int .i64 (windroseref20_Check_m r24.1 r24.2)), (30, .slice Aa2 a2.length ca2), (31, .int .i64 (a2.length : Int)), (32, .int .i64 (kl2 : Int)), (79, .bool (b79c5))]) ?_ ?_
              · refine T.region ?_
                refine R.mvE rfl (by conv => lhs; whnf) ?_
                refine R.mvE rfl (by conv => lhs; whnf) ?_
                refine R.neq rfl rfl rfl ?_
                refine R.mvE rfl (by conv => lhs; whnf) ?_
                refine TL.gsplitD 74 rfl (fun g74 => ?_) (fun g74 => ?_)
                · refine TL.off rfl rfl rfl ?_
                  refine TL.off rfl rfl rfl ?_
                  refine TL.off rfl rfl rfl ?_
                  refine TL.off rfl rfl rfl ?_
                  refine R.pkTE rfl rfl (by conv => lhs; whnf) ?_
                  refine TL.nil (Post.thnN ?_)
                  exact ⟨true, HLe.refl _, ⟨Has.nil, (by rw [if_pos g74])⟩, rfl, rfl, rfl, rfl, rfl, rfl, rfl, rfl, rfl, trivial⟩
                · refine R.mvE rfl (by conv => lhs; whnf) ?_
                  refine R.mvE rfl (by conv => lhs; whnf) ?_
                  refine TL.shut .hd ?_
                  intro HF46_0_0_4 sF46_0_0_4 qF46_0_0_4
                  have fF46_0_0_4 := OwnS.read (OwnS.mono w46_0_0 s_c3) sF46_0_0_4 qF46_0_0_4
                  refine TL.shut .hd ?_
                  intro HF14c3_5 sF14c3_5 qF14c3_5
                  have fF14c3_5 := OwnS.read (OwnS.mono w14c3 sF46_0_0_4) sF14c3_5 qF14c3_5
                  refine R.callv rfl rfl rfl (slices_Equal_Held_d _ _ r46.1 (fF46_0_0_4.mono sF14c3_5) _ x14c3 fF14c3_5) ?_
                  refine R.notD rfl rfl ?_
                  refine R.pkFE rfl rfl (by conv => lhs; whnf) ?_
                  refine TL.nil (Post.thnN ?_)
                  exact ⟨(decide (¬ (r46.1 = x14c3))), (sF46_0_0_4.trans sF14c3_5), ⟨Has.nil, (by rw [if_neg g74])⟩, rfl, rfl, rfl, rfl, rfl, rfl, rfl, rfl, rfl, trivial⟩
              · intro b79c5 σ_c5 H_c5 L_c5 ds_c5 s_c5 hI_c5
                obtain ⟨hLc5, hTc5⟩ := hI_c5
                refine T.has hLc5 ?_
                refine T.cond rfl (fun c79 => ?_) (fun c79 => ?_)
                · refine T.set 79 (.bool true) (congrArg Value.bool c79) ?_
                  have hZ79 := hTc5.trans c79
                  try simp only [or_f, or_t, and_f, and_t, decide_eq_true_eq, decide_eq_false_iff_not, Bool.not_eq_true'] at hZ79
                  refine T.seq ?_
                  refine T.region ?_
                  refine R.asE rfl (by conv => lhs; whnf) ?_
                  refine TL.nil (Post.thnN ?_)
                  refine T.has Has.nil ?_
                  refine T.ret (Post.blkR (Post.thnR (Post.thnR (Post.blkR (Post.thnR ?_)))))
                  have hXl2 : windroselaw20_PlanWhys_l2 r24 a2 0 () = .ret (.ret false) := by subst er46; rw [← hQl2, drop_cons hyl2, windroselaw20_PlanWhys_l2]; rw [if_neg c38, LR.seq_go, hTc3, LR.seq_go, hTc5, LR.seq_go, if_t c79]
                  have hM : windroselaw20_PlanWhys_m a0 a1 a2 = false := by subst er24; rw [windroselaw20_PlanWhys_m, if_f c20, LR.seq_go, hXl2, LR.on_ret, LR.on_ret]
                  exact fin1L (v := .bool false) [] rfl rfl (List.Sublist.refl _) ⟨rfl, by first | rw [hM] | rfl⟩
                · refine T.set 79 (.bool false) (congrArg Value.bool c79) ?_
                  have hZ79 := hTc5.trans c79
                  try simp only [or_f, or_t, and_f, and_t, decide_eq_true_eq, decide_eq_false_iff_not, Bool.not_eq_true'] at hZ79
                  refine T.skip (Post.blkN ?_)
                  refine id (Post.thnN ?_)
                  refine T.region ?_
                  refine R.addI rfl rfl rfl (by omega) ?_
                  refine R.mvE rfl (by conv => lhs; whnf) ?_
                  refine TL.nil (Post.thnN ?_)
                  exact ⟨kl2 + 1, (s_l2.trans (sb11_3.trans (s46.trans (s_c3.trans s_c5)))), ⟨(by omega), Has.nil, (by subst er46; rw [← hQl2, drop_cons hyl2, windroselaw20_PlanWhys_l2]; rw [if_neg c38, LR.seq_go, hTc3, LR.seq_go, hTc5, LR.seq_go, if_f c79])⟩, by show a2.length - (kl2 + 1) < a2.length - kl2; omega, rfl, rfl, rfl, rfl, rfl, rfl, rfl, rfl, trivial⟩
        · refine T.exit (Post.thnE (Post.thnE (Post.blkX ?_)))
          have hEl2 : windroselaw20_PlanWhys_l2 r24 a2 0 () = .go () := (hQl2.symm.trans (by rw [show kl2 = a2.length by omega, List.drop_length, windroselaw20_PlanWhys_l2]))
          refine id (Post.thnN ?_)
          exact ⟨(), s_l2, ⟨Has.nil, (by rw [hEl2, LR.on_go])⟩, rfl, rfl, rfl, rfl, trivial⟩
    · intro _ σ_c1 H_c1 L_c1 ds_c1 s_c1 hI_c1
      obtain ⟨hLc1, hTc1⟩ := hI_c1
      refine T.has hLc1 ?_
      refine T.seq ?_
      refine T.region ?_
      refine R.mvE rfl (by conv => lhs; whnf) ?_
      refine R.mvE rfl (by conv => lhs; whnf) ?_
      obtain ⟨r84, er84⟩ : ∃ r, r = (windroselaw20_own_m a0 a1) := ⟨_, rfl⟩
      refine TL.call [] rfl rfl rfl (windroselaw20_own_c _ _ a0 (ha0.mono (s24.trans (sF24_0_0_1.trans (sF24_1_0_2.trans s_c1)))) _ a1 (ha1.mono (s24.trans (sF24_0_0_1.trans (sF24_1_0_2.trans s_c1))))) ?_
      intro v84 H84 L84 s84 q84
      rw [← er84] at q84
      obtain ⟨u84_0_0, u84_1_0, c84_0_0, c84_1_0, rfl, rfl, w84_0_0, w84_1_0⟩ := q84
      obtain ⟨A84_0_0, p84_0_0, rfl, m84_0_0, n84_0_0⟩ := OwnS.shape w84_0_0
      obtain ⟨A84_1_0, p84_1_0, rfl, m84_1_0, n84_1_0⟩ := OwnS.shape w84_1_0
      have tq84 : r84.1.length ≤ 12 ∧ r84.2.length ≤ 16 := by rw [er84]; simp only [windroselaw20_own_m, List.length_take]; omega
      refine R.mvE rfl (by conv => lhs; whnf) ?_
      refine R.ext rfl rfl rfl ?_
      refine R.ext rfl rfl rfl ?_
      refine R.asE rfl (by conv => lhs; whnf) ?_
      refine R.asE rfl (by conv => lhs; whnf) ?_
      refine TL.nil (Post.thnN ?_)
      refine T.seq ?_
      refine T.region ?_
      refine R.mvE rfl (by conv => lhs; whnf) ?_
      refine R.mvE rfl (by conv => lhs; whnf) ?_
      refine TL.shut .hd ?_
      intro HF84_0_0_6 sF84_0_0_6 qF84_0_0_6
      have fF84_0_0_6 := OwnS.read w84_0_0 sF84_0_0_6 qF84_0_0_6
      refine R.callv rfl rfl rfl (slices_Equal_Relation_d _ _ r24.1 (fF24_0_0_1.mono (sF24_1_0_2.trans (s_c1.trans (s84.trans sF84_0_0_6)))) _ r84.1 fF84_0_0_6) ?_
      refine R.mvE rfl (by conv => lhs; whnf) ?_
      refine TL.gsplitD 90 rfl (fun g90 => ?_) (fun g90 => ?_)
      · refine R.mvE rfl (by conv => lhs; whnf) ?_
        refine R.mvE rfl (by conv => lhs; whnf) ?_
        refine TL.shut .hd ?_
        intro HF84_1_0_7 sF84_1_0_7 qF84_1_0_7
        have fF84_1_0_7 := OwnS.read (OwnS.mono w84_1_0 sF84_0_0_6) sF84_1_0_7 qF84_1_0_7
        refine R.callv rfl rfl rfl (slices_Equal_Held_d _ _ r24.2 (fF24_1_0_2.mono (s_c1.trans (s84.trans (sF84_0_0_6.trans sF84_1_0_7)))) _ r84.2 fF84_1_0_7) ?_
        refine R.pkTE rfl rfl (by conv => lhs; whnf) ?_
        refine R.asE rfl (by conv => lhs; whnf) ?_
        refine TL.nil (Post.thnN ?_)
        refine T.has Has.nil ?_
        refine T.ret ?_
        have hM : windroselaw20_PlanWhys_m a0 a1 a2 = (decide (r24.2 = r84.2)) := by subst er84; subst er24; rw [windroselaw20_PlanWhys_m, if_f c20, LR.seq_go, hTc1, LR.on_go, LR.seq_go, if_pos g90]
        exact fin1L (v := .bool (decide (r24.2 = r84.2))) [] rfl rfl (List.Sublist.refl _) ⟨rfl, by first | rw [hM] | rfl⟩
      · refine TL.off rfl rfl rfl ?_
        refine TL.off rfl rfl rfl ?_
        refine TL.off rfl rfl rfl ?_
        refine R.pkFE rfl rfl (by conv => lhs; whnf) ?_
        refine R.asE rfl (by conv => lhs; whnf) ?_
        refine TL.nil (Post.thnN ?_)
        refine T.has Has.nil ?_
        refine T.ret ?_
        have hM : windroselaw20_PlanWhys_m a0 a1 a2 = false := by subst er84; subst er24; rw [windroselaw20_PlanWhys_m, if_f c20, LR.seq_go, hTc1, LR.on_go, LR.seq_go, if_neg g90]
        exact fin1L (v := .bool false) [] rfl rfl (List.Sublist.refl _) ⟨rfl, by first | rw [hM] | rfl⟩

end Go.SX

set_option linter.unusedVariables false
set_option linter.unusedSimpArgs false
namespace Go.SX
open Go
theorem has20 (l : List Int) (x : Int) : windroseref20_has_m l x = decide (x ∈ l) := by
  have h : ∀ l : List Int, windroseref20_has_l1 x l () = if x ∈ l then .ret true else .go () := by
    intro l
    induction l with
    | nil => rfl
    | cons y ys ih =>
      rw [windroseref20_has_l1, ih]
      by_cases e : y = x
      · rw [if_pos e, if_pos (by rw [e]; exact List.mem_cons_self ..)]
      · rw [if_neg e]
        by_cases m : x ∈ ys
        · rw [if_pos m, if_pos (List.mem_cons_of_mem _ m)]
        · rw [if_neg m, if_neg (by intro h; rcases List.mem_cons.1 h with h | h; exact e h.symm; exact m h)]
  unfold windroseref20_has_m
  rw [h]
  by_cases m : x ∈ l
  · rw [if_pos m, LR.on_ret, decide_eq_true m]
  · rw [if_neg m, LR.on_go, decide_eq_false m]
def Rch (by_ : Int → List Hd) (k : Nat) (a b : Int) : Prop := ∃ q, q.length ≤ k ∧ Pw by_ a q b
section
variable {l : List Rl} {held : List Hd}
theorem by_mem (h : Hd) (v : Int) : h ∈ plan_killers_m l held v ↔ h ∈ held ∧ killB l h v = true := by rw [kill_eq, List.mem_filter]
theorem far_l3_mem (hr : RelOk l) {h : Hd} (hu : U h.2) (x : Int) : ∀ (vs acc : List Int), x ∈ windroseref20_far_l3 l h vs acc ↔ x ∈ acc ∨ (x = h.1 ∧ ∃ v ∈ vs, killB l h v = true)
  | [], acc => by simp [windroseref20_far_l3]
  | v :: vs, acc => by
    rw [windroseref20_far_l3, kills20_eq hr hu]
    cases hk : killB l h v with
    | true =>
      rw [if_pos rfl, LR.seq_go, far_l3_mem hr hu x vs, put20_eq, putI_mem]
      constructor
      · rintro ((k | k) | ⟨k1, w, k2, k3⟩)
        · exact .inr ⟨k, v, List.mem_cons_self .., hk⟩
        · exact .inl k
        · exact .inr ⟨k1, w, List.mem_cons_of_mem _ k2, k3⟩
      · rintro (k | ⟨k1, w, k2, k3⟩)
        · exact .inl (.inr k)
        · exact .inl (.inl k1)
    | false =>
      rw [if_neg Bool.false_ne_true, far_l3_mem hr hu x vs]
      constructor
      · rintro (k | ⟨k1, w, k2, k3⟩)
        · exact .inl k
        · exact .inr ⟨k1, w, List.mem_cons_of_mem _ k2, k3⟩
      · rintro (k | ⟨k1, w, k2, k3⟩)
        · exact .inl k
        · rcases List.mem_cons.1 k2 with rfl | k2
          · rw [hk] at k3; cases k3
          · exact .inr ⟨k1, w, k2, k3⟩
theorem far_l2_mem (hr : RelOk l) (s : List Int) (x : Int) : ∀ (hs : List Hd) (acc : List Int), (∀ h ∈ hs, U h.2) → (x ∈ windroseref20_far_l2 l s hs acc ↔ x ∈ acc ∨ ∃ h ∈ hs, x = h.1 ∧ ∃ v ∈ s, killB l h v = true)
  | [], acc, _ => by simp [windroseref20_far_l2]
  | h :: hs, acc, hu => by
    rw [windroseref20_far_l2, LR.seq_go, far_l2_mem hr s x hs _ (fun y hy => hu y (List.mem_cons_of_mem _ hy)), far_l3_mem hr (hu h (List.mem_cons_self ..))]
    constructor
    · rintro ((k | k) | ⟨y, k1, k2⟩)
      · exact .inl k
      · exact .inr ⟨h, List.mem_cons_self .., k⟩
      · exact .inr ⟨y, List.mem_cons_of_mem _ k1, k2⟩
    · rintro (k | ⟨y, k1, k2⟩)
      · exact .inl (.inl k)
      · rcases List.mem_cons.1 k1 with rfl | k1
        · exact .inl (.inr k2)
        · exact .inr ⟨y, k1, k2⟩
theorem rch_succ (a b : Int) (k : Nat) : Rch (plan_killers_m l held) (k + 1) a b ↔ Rch (plan_killers_m l held) k a b ∨ ∃ h ∈ held, b = h.1 ∧ ∃ v, Rch (plan_killers_m l held) k a v ∧ killB l h v = true := by
  constructor
  · rintro ⟨q, h1, h2⟩
    by_cases c : q.length ≤ k
    · exact .inl ⟨q, c, h2⟩
    · have hne : q ≠ [] := fun e => by subst e; simp at c
      obtain ⟨q', x, rfl⟩ : ∃ q' x, q = q' ++ [x] := ⟨q.dropLast, q.getLast hne, (List.dropLast_concat_getLast hne).symm⟩
      obtain ⟨u, k1, k2, k3⟩ := Pw.snoc.1 h2
      obtain ⟨m1, m2⟩ := (by_mem x u).1 k2
      exact .inr ⟨x, m1, k3.symm, u, ⟨q', by simp at h1; omega, k1⟩, m2⟩
  · rintro (⟨q, h1, h2⟩ | ⟨h, h1, rfl, v, ⟨q, h2, h3⟩, h4⟩)
    · exact ⟨q, by omega, h2⟩
    · exact ⟨q ++ [h], by simp; omega, Pw.snoc.2 ⟨v, h3, (by_mem h v).2 ⟨h1, h4⟩, rfl⟩⟩
theorem far_l1_run (hr : RelOk l) (hu : ∀ h ∈ held, U h.2) (a b : Int) (B : Nat) : ∀ (m k : Nat) (s : List Int), m + k = B + 1 → (∀ x, x ∈ s ↔ Rch (plan_killers_m l held) k a x) → (∀ j, j < k → ¬ Rch (plan_killers_m l held) j a b) →
    (∃ n : Nat, n ≤ B ∧ windroseref20_far_l1 l held b m k s = .ret (n : Int) ∧ Rch (plan_killers_m l held) n a b ∧ ∀ j, j < n → ¬ Rch (plan_killers_m l held) j a b) ∨ ((∃ s', windroseref20_far_l1 l held b m k s = .go s') ∧ ∀ j, j ≤ B → ¬ Rch (plan_killers_m l held) j a b)
  | 0, k, s, hm, _, hn => .inr ⟨⟨s, rfl⟩, fun j hj => hn j (by omega)⟩
  | m + 1, k, s, hm, hs, hn => by
    rw [windroseref20_far_l1, has20]
    by_cases c : b ∈ s
    · rw [if_pos (decide_eq_true c)]
      exact .inl ⟨k, by omega, rfl, (hs b).1 c, hn⟩
    · rw [if_neg (by simpa using c), LR.seq_go]
      refine far_l1_run hr hu a b B m (k + 1) _ (by omega) (fun x => ?_) (fun j hj => ?_)
      · rw [far_l2_mem hr s x held _ hu, rch_succ, hs x]
        constructor
        · rintro (h | ⟨h, h1, h2, v, h3, h4⟩)
          · exact .inl h
          · exact .inr ⟨h, h1, h2, v, (hs v).1 h3, h4⟩
        · rintro (h | ⟨h, h1, h2, v, h3, h4⟩)
          · exact .inl h
          · exact .inr ⟨h, h1, h2, v, (hs v).2 h3, h4⟩
      · rcases Nat.lt_or_ge j k with h | h
        · exact hn j h
        · obtain rfl : j = k := by omega
          exact fun h2 => c ((hs b).2 h2)
/-- b lies n deaths behind a. -/
def Dst (by_ : Int → List Hd) (n : Nat) (a b : Int) : Prop := Rch by_ n a b ∧ ∀ j, j < n → ¬ Rch by_ j a b
theorem far_spec (hr : RelOk l) (hu : ∀ h ∈ held, U h.2) (a b : Int) (B : Nat) : (∃ n : Nat, n ≤ B ∧ windroseref20_far_m l held a b (B : Int) = (n : Int) ∧ Dst (plan_killers_m l held) n a b) ∨ (windroseref20_far_m l held a b (B : Int) = -1 ∧ ∀ j, j ≤ B → ¬ Rch (plan_killers_m l held) j a b) := by
  unfold windroseref20_far_m
  rw [show (((B : Int) + 1)).toNat - 0 = B + 1 by omega]
  rcases far_l1_run hr hu a b B (B + 1) 0 [a] (by omega) (fun x => by
    rw [List.mem_singleton]
    constructor
    · intro e; exact ⟨[], Nat.le_refl _, e.symm⟩
    · rintro ⟨q, h1, h2⟩
      obtain rfl := List.length_eq_zero_iff.1 (Nat.le_zero.1 h1)
      exact (show a = x from h2).symm) (fun j hj => by omega) with ⟨n, h1, h2, h3⟩ | ⟨⟨s, h1⟩, h2⟩
  · rw [h2, LR.on_ret]; exact .inl ⟨n, h1, rfl, h3⟩
  · rw [h1, LR.on_go]; exact .inr ⟨rfl, h2⟩
theorem Dst.uniq {by_ : Int → List Hd} {n m : Nat} {a b : Int} (h1 : Dst by_ n a b) (h2 : Dst by_ m a b) : n = m := by
  rcases Nat.lt_trichotomy n m with h | h | h
  · exact absurd h1.1 (h2.2 n h)
  · exact h
  · exact absurd h2.1 (h1.2 m h)
theorem far_dst (hr : RelOk l) (hu : ∀ h ∈ held, U h.2) (a b : Int) (n : Nat) : windroseref20_far_m l held a b (n : Int) = (n : Int) ↔ Dst (plan_killers_m l held) n a b := by
  rcases far_spec hr hu a b n with ⟨m, h1, h2, h3⟩ | ⟨h1, h2⟩
  · rw [h2]
    constructor
    · intro e; have : m = n := by omega
      subst this; exact h3
    · intro e; rw [h3.uniq e]
  · rw [h1]
    constructor
    · intro e; omega
    · intro e; exact absurd e.1 (h2 n (Nat.le_refl _))
theorem why_l3 (hr : RelOk l) (hu : ∀ h ∈ held, U h.2) (b v : Int) (n : Nat) (out : List Hd) : ∀ (xs : List Hd), xs.Pairwise ltH → (∀ h ∈ xs, h ∈ held) → (∃ h ∈ xs, killB l h v = true ∧ Dst (plan_killers_m l held) n h.1 b) →
    ∃ h ∈ xs, killB l h v = true ∧ Dst (plan_killers_m l held) n h.1 b ∧ windroseref20_Why_l3 l held b ((n + 1 : Nat) : Int) xs (out, v) = (out ++ [h], h.1) ∧ ∀ x ∈ xs, killB l x v = true → Dst (plan_killers_m l held) n x.1 b → x = h ∨ ltH h x
  | [], _, _, ⟨h, h1, _⟩ => (by cases h1)
  | y :: ys, hp, hm, ⟨h, h1, h2, h3⟩ => by
    rw [List.pairwise_cons] at hp
    rw [windroseref20_Why_l3, LR.seq_go]
    simp only
    rw [kills20_eq hr (hu y (hm y (List.mem_cons_self ..))), show (((n + 1 : Nat) : Int) - 1) = (n : Int) by omega]
    by_cases c : killB l y v = true ∧ Dst (plan_killers_m l held) n y.1 b
    · rw [if_pos (show (if killB l y v = true then decide (windroseref20_far_m l held y.1 b (n : Int) = (n : Int)) else false) = true by rw [if_pos c.1]; exact decide_eq_true ((far_dst hr hu y.1 b n).2 c.2))]
      refine ⟨y, List.mem_cons_self .., c.1, c.2, rfl, fun x hx _ _ => ?_⟩
      rcases List.mem_cons.1 hx with rfl | hx
      · exact .inl rfl
      · exact .inr (hp.1 x hx)
    · rw [if_neg (show ¬ (if killB l y v = true then decide (windroseref20_far_m l held y.1 b (n : Int) = (n : Int)) else false) = true by
        intro k
        rw [and_t, decide_eq_true_eq] at k
        exact c ⟨k.1, (far_dst hr hu y.1 b n).1 k.2⟩)]
      have h1' : h ∈ ys := by
        rcases List.mem_cons.1 h1 with rfl | h1
        · exact absurd ⟨h2, h3⟩ c
        · exact h1
      obtain ⟨z, k1, k2, k3, k4, k5⟩ := why_l3 hr hu b v n out ys hp.2 (fun x hx => hm x (List.mem_cons_of_mem _ hx)) ⟨h, h1', h2, h3⟩
      refine ⟨z, List.mem_cons_of_mem _ k1, k2, k3, k4, fun x hx q1 q2 => ?_⟩
      rcases List.mem_cons.1 hx with rfl | hx
      · exact absurd ⟨q1, q2⟩ c
      · exact k5 x hx q1 q2
theorem why_l1 (hr : RelOk l) (hu : ∀ h ∈ held, U h.2) (hup : held.Pairwise ltH) (b : Int) : ∀ (n m : Nat) (out : List Hd) (v : Int), n < m → n ≤ 1000000 → Dst (plan_killers_m l held) n v b →
    ∃ w, windroseref20_Why_l1 l held b m ((n : Int), out, v) = (0, out ++ w, b) ∧ Pw (plan_killers_m l held) v w b ∧ w.length = n ∧ ∀ q, q.length = n → Pw (plan_killers_m l held) v q b → Le w q
  | _, 0, _, _, h, _, _ => by omega
  | 0, m + 1, out, v, h, _, hd => by
    obtain ⟨q, h1, h2⟩ := hd.1
    obtain rfl := List.length_eq_zero_iff.1 (Nat.le_zero.1 h1)
    have e : v = b := h2
    subst e
    rw [windroseref20_Why_l1]
    refine ⟨[], by simp, rfl, rfl, fun q hq _ => ?_⟩
    rw [List.length_eq_zero_iff.1 hq]; exact .inl rfl
  | n + 1, m + 1, out, v, h, hB, hd => by
    have hfirst : ∀ q, q.length = n + 1 → Pw (plan_killers_m l held) v q b → ∃ x q', q = x :: q' ∧ x ∈ held ∧ killB l x v = true ∧ Pw (plan_killers_m l held) x.1 q' b ∧ q'.length = n ∧ Dst (plan_killers_m l held) n x.1 b := by
      intro q hq hp
      match q, hq, hp with
      | x :: q', hq, ⟨h1, h2⟩ =>
        obtain ⟨m1, m2⟩ := (by_mem x v).1 h1
        have hl : q'.length = n := by simpa using hq
        refine ⟨x, q', rfl, m1, m2, h2, hl, ⟨q', by omega, h2⟩, fun j hj ⟨p, p1, p2⟩ => ?_⟩
        exact hd.2 (j + 1) (by omega) ⟨x :: p, by simp; omega, h1, p2⟩
    obtain ⟨q0, p1, p2⟩ := hd.1
    have hq0 : q0.length = n + 1 := by
      rcases Nat.lt_or_ge q0.length (n + 1) with c | c
      · exact absurd ⟨q0, Nat.le_refl _, p2⟩ (hd.2 q0.length c)
      · omega
    obtain ⟨x0, q0', _, a1, a2, a3, a4, a5⟩ := hfirst q0 hq0 p2
    obtain ⟨g, g1, g2, g3, g4, g5⟩ := why_l3 hr hu b v n out held hup (fun h hh => hh) ⟨x0, a1, a2, a5⟩
    rw [windroseref20_Why_l1]
    simp only
    rw [if_pos (by omega), LR.seq_go, LR.seq_go, g4, show (((n + 1 : Nat) : Int) - 1) = (n : Int) by omega]
    obtain ⟨w, w1, w2, w3, w4⟩ := why_l1 hr hu hup b n m (out ++ [g]) g.1 (by omega) (by omega) g3
    refine ⟨g :: w, by rw [w1]; simp, ⟨(by_mem g v).2 ⟨g1, g2⟩, w2⟩, by simp [w3], fun q hq hp => ?_⟩
    obtain ⟨x, q', rfl, b1, b2, b3, b4, b5⟩ := hfirst q hq hp
    rcases g5 x b1 b2 b5 with rfl | hlt
    · rcases w4 q' b4 b3 with rfl | hL
      · exact .inl rfl
      · refine .inr ?_
        rcases hL with hL | ⟨hL1, hL2⟩
        · exact .inl (by simpa using hL)
        · exact .inr ⟨by simpa using hL1, .inr ⟨rfl, hL2⟩⟩
    · exact .inr (.inr ⟨by simp [w3, b4], .inl hlt⟩)
end
end Go.SX

set_option linter.unusedVariables false
set_option linter.unusedSimpArgs false
namespace Go.SX
open Go
theorem dies_idx_len {l : List Rl} {held : List Hd} {a : Int} (hh : held.length ≤ 100) : ∀ (k n : Nat) (d : Dh), n < k → (diesD l held [a])[n]? = some d → d.2.length ≤ n ∧ Pw (plan_killers_m l held) a d.2 d.1 := by
  obtain ⟨met, h1, h2⟩ := dies_law (l := l) (first := [a]) hh (by simp)
  intro k
  induction k with
  | zero => intro n d hn; omega
  | succ k ih =>
    intro n d hn hd
    rcases h2.par n d hd with ⟨h3, h4⟩ | ⟨m, p, h, h3, _, h4, h5, rfl⟩
    · rw [h4]
      rw [List.mem_singleton] at h3
      exact ⟨Nat.zero_le _, h3.symm⟩
    · obtain ⟨k1, k2⟩ := ih m p (by omega) h4
      exact ⟨by simp; omega, Pw.snoc.2 ⟨p.1, k2, h5, rfl⟩⟩
theorem why20_eq {l : List Rl} {held : List Hd} (hc : plan_Check_m l held = 0) (hu : ∀ h ∈ held, U h.2) (hh : held.length ≤ 100) (a b : Int) :
    (∃ d ∈ diesD l held [a], d.1 = b ∧ windroseref20_Why_m l held a b = (d.2, true)) ∨ ((∀ d ∈ diesD l held [a], d.1 ≠ b) ∧ windroseref20_Why_m l held a b = ([], false)) := by
  have hr := ((pcheck_iff l held).1.1 hc).1
  have hup := held_up hc
  have hby := kill_by l held _ rfl hh
  have hs : ∀ k, (plan_killers_m l held k).Pairwise ltH := fun k => by rw [kill_eq]; exact hup.sublist List.filter_sublist
  have hB : Bw (plan_killers_m l held) (diesD l held [a]).length (diesD l held [a]) := deathsW (plan_killers_m l held) hby hs a
  obtain ⟨met, hv, hf⟩ := dies_law (l := l) (first := [a]) hh (by simp)
  have hlen := dies_len (l := l) (held := held) (first := [a]) hh (by simp)
  have h0 : (a, []) ∈ diesD l held [a] := by
    obtain ⟨d, h1, h2⟩ := List.mem_map.1 (hf.all a (by simp))
    obtain ⟨j, hj⟩ := List.mem_iff_getElem?.1 h1
    have hz : (diesD l held [a])[0]? = some ((diesD l held [a]).getD 0 dh0) := getD_at (List.length_pos_of_mem h1)
    rcases hf.par 0 _ hz with ⟨k1, k2⟩ | ⟨m, p, h, k1, _⟩
    · rw [List.mem_singleton] at k1
      have : (diesD l held [a]).getD 0 dh0 = (a, []) := Prod.ext k1 k2
      rw [this] at hz
      exact List.mem_of_getElem? hz
    · omega
  have huniq : ∀ d ∈ diesD l held [a], ∀ d' ∈ diesD l held [a], d.1 = d'.1 → d = d' := by
    intro d h1 d' h2 e
    obtain ⟨i, hi⟩ := List.mem_iff_getElem?.1 h1
    obtain ⟨j, hj⟩ := List.mem_iff_getElem?.1 h2
    obtain ⟨i1, i2⟩ := List.getElem?_eq_some_iff.1 hi
    obtain ⟨j1, j2⟩ := List.getElem?_eq_some_iff.1 hj
    have : i = j := by
      refine Classical.byContradiction (fun hne => ?_)
      have hp := (List.pairwise_iff_getElem.1 hv.nd)
      rcases Nat.lt_or_ge i j with c | c
      · have := hp i j (by simpa using i1) (by simpa using j1) c
        simp only [List.getElem_map] at this
        rw [i2, j2] at this; exact this e
      · have := hp j i (by simpa using j1) (by simpa using i1) (by omega)
        simp only [List.getElem_map] at this
        rw [i2, j2] at this; exact this e.symm
    subst this
    rw [hi] at hj; injection hj
  by_cases hb : ∃ d ∈ diesD l held [a], d.1 = b
  · obtain ⟨d, h1, h2⟩ := hb
    refine .inl ⟨d, h1, h2, ?_⟩
    obtain ⟨j, hj⟩ := List.mem_iff_getElem?.1 h1
    obtain ⟨k1, k2⟩ := dies_idx_len (l := l) (held := held) (a := a) hh (j + 1) j d (by omega) hj
    have hjl := (List.getElem?_eq_some_iff.1 hj).1
    rw [h2] at k2
    have hle : ∀ q, Pw (plan_killers_m l held) a q b → Le d.2 q := fun q hq => by
      obtain ⟨d', m1, m2, m3⟩ := least_way hB h0 q.length q b rfl hq
      rw [huniq d h1 d' m1 (h2.trans m2.symm)]; exact m3
    have hd : Dst (plan_killers_m l held) d.2.length a b := ⟨⟨d.2, Nat.le_refl _, k2⟩, fun i hi ⟨q, q1, q2⟩ => by
      rcases hle q q2 with e | (e | ⟨e, _⟩)
      · rw [e] at hi; omega
      · omega
      · omega⟩
    have hl1 : d.2.length ≤ held.length := by
      have : ([a] : List Int).length = 1 := rfl
      omega
    have hfar : windroseref20_far_m l held a b (held.length : Int) = (d.2.length : Int) := by
      rcases far_spec hr hu a b held.length with ⟨n, n1, n2, n3⟩ | ⟨_, n2⟩
      · rw [n2, hd.uniq n3]
      · exact absurd hd.1 (n2 _ hl1)
    unfold windroseref20_Why_m
    rw [hfar, if_neg (by omega)]
    obtain ⟨w, w1, w2, w3, w4⟩ := why_l1 hr hu hup b d.2.length ((d.2.length : Int).toNat + 1) [] a (by omega) (by omega) hd
    rw [w1, LR.seq_go, List.nil_append]
    have : w = d.2 := (w4 d.2 rfl k2).antisymm (hle w w2)
    rw [this]
  · have hno : ∀ d ∈ diesD l held [a], d.1 ≠ b := fun d h1 h2 => hb ⟨d, h1, h2⟩
    refine .inr ⟨hno, ?_⟩
    have hfar : windroseref20_far_m l held a b (held.length : Int) = -1 := by
      rcases far_spec hr hu a b held.length with ⟨n, n1, n2, ⟨q, q1, q2⟩, n3⟩ | ⟨n2, _⟩
      · exfalso
        obtain ⟨d, m1, m2, _⟩ := least_way hB h0 q.length q b rfl q2
        exact hno d m1 m2
      · exact n2
    unfold windroseref20_Why_m
    rw [hfar, if_pos (by omega)]
theorem index20 (n : Int) : windroselaw20_index_m n = plan_index_m n := rfl
theorem whys_l2 {o : List Rl × List Hd} (hu : ∀ h ∈ o.2, U h.2) (hh : o.2.length ≤ 100) : ∀ (xs : List (Int × Int)) (k : Nat), windroselaw20_PlanWhys_l2 o xs k () = .go ()
  | [], k => rfl
  | y :: ys, k => by
    rw [windroselaw20_PlanWhys_l2]
    by_cases h5 : (k : Int) = 5
    · rw [if_pos h5]
    rw [if_neg h5, LR.seq_go, check20_eq hu]
    have ih := whys_l2 hu hh ys (k + 1)
    have main : plan_Why_m o.1 o.2 y.1 y.2 = (if plan_Check_m o.1 o.2 = 0 then (LR.seq (if windroselaw20_index_m y.1 = true then windroselaw20_index_m y.2 else false) (fun sc4 => if sc4 = true then (LR.seq (windroseref20_Why_m o.1 o.2 y.1 y.2) (fun r67 => if r67.2 = true then (r67.1, 0) else (r67.1, 4))) else ([], 2))) else ([], plan_Check_m o.1 o.2) : List Hd × Int) := by
      by_cases hc : plan_Check_m o.1 o.2 = 0
      rotate_left
      · rw [if_neg hc]; unfold plan_Why_m; rw [if_pos hc]
      rw [if_pos hc, index20, index20]
      by_cases h1 : plan_index_m y.1 = true
      · by_cases h2 : plan_index_m y.2 = true
        · rw [if_pos h1, h2, LR.seq_go, if_pos rfl, LR.seq_go]
          rcases why_ok hc ((pindex_iff _).1 h1) ((pindex_iff _).1 h2) with ⟨d, d1, d2, d3⟩ | ⟨d1, d2⟩
          · rcases why20_eq hc hu hh y.1 y.2 with ⟨e, e1, e2, e3⟩ | ⟨e1, e2⟩
            · rw [d3, e3, if_pos rfl]
              obtain ⟨met, hv, _⟩ := dies_law (l := o.1) (held := o.2) (first := [y.1]) hh (by simp)
              have : d = e := by
                obtain ⟨i, hi⟩ := List.mem_iff_getElem?.1 d1
                obtain ⟨j, hj⟩ := List.mem_iff_getElem?.1 e1
                obtain ⟨i1, i2⟩ := List.getElem?_eq_some_iff.1 hi
                obtain ⟨j1, j2⟩ := List.getElem?_eq_some_iff.1 hj
                have : i = j := by
                  refine Classical.byContradiction (fun hne => ?_)
                  have hp := (List.pairwise_iff_getElem.1 hv.nd)
                  rcases Nat.lt_or_ge i j with c | c
                  · have := hp i j (by simpa using i1) (by simpa using j1) c
                    simp only [List.getElem_map] at this
                    rw [i2, j2] at this; exact this (d2.trans e2.symm)
                  · have := hp j i (by simpa using j1) (by simpa using i1) (by omega)
                    simp only [List.getElem_map] at this
                    rw [i2, j2] at this; exact this (e2.trans d2.symm)
                subst this
                rw [hi] at hj; injection hj
              rw [this]
            · exact absurd d2 (e1 d d1)
          · rcases why20_eq hc hu hh y.1 y.2 with ⟨e, e1, e2, e3⟩ | ⟨e1, e2⟩
            · exact absurd e2 (d1 e e1)
            · rw [d2, e2, if_neg Bool.false_ne_true]
        · have h2' : plan_index_m y.2 = false := by simpa using h2
          rw [if_pos h1, h2', LR.seq_go, if_neg Bool.false_ne_true]
          unfold plan_Why_m
          rw [hc, if_neg (fun k => k rfl), h1, h2', Bool.not_true, if_neg Bool.false_ne_true, LR.seq_go, Bool.not_false, if_pos rfl]
      · have h1' : plan_index_m y.1 = false := by simpa using h1
        rw [if_neg h1, LR.seq_go, if_neg Bool.false_ne_true]
        unfold plan_Why_m
        rw [hc, if_neg (fun k => k rfl), h1', Bool.not_false, if_pos rfl, LR.seq_go, if_pos rfl]
    rw [← main, LR.seq_go, if_neg (fun k => k rfl), decide_eq_false (fun k => k rfl), LR.seq_go, if_neg Bool.false_ne_true]
    exact ih
theorem planWhys_true (a0 : List Rl) (a1 : List Hd) (a2 : List (Int × Int)) (hu : ∀ h ∈ a1, U h.2) : windroselaw20_PlanWhys_m a0 a1 a2 = true := by
  unfold windroselaw20_PlanWhys_m
  rw [wakes20_true, Bool.not_true, if_neg Bool.false_ne_true, LR.seq_go]
  have ho : (windroselaw20_own_m a0 a1).2.length ≤ 16 := by simp only [windroselaw20_own_m, List.length_take]; omega
  have hu' : ∀ h ∈ (windroselaw20_own_m a0 a1).2, U h.2 := fun h hh => hu h (by simp only [windroselaw20_own_m] at hh; exact List.mem_of_mem_take hh)
  rw [whys_l2 hu' (by omega)]
  simp only [LR.on, LR.seq]
  simp
end Go.SX

set_option linter.unusedVariables false
set_option linter.unusedSimpArgs false
namespace Go.SX
open Go Go.ChangeShapes Go.WideShapes Go.ChangeAt Go.RowKit

/-- All that stands in a world's memory can be read. -/
def heapOf (W : World) : Heap := fun b => W.heap[b]?
theorem sat_heapOf (W : World) : Sat (heapOf W) [] W := ⟨fun _ _ h => h, fun p h => (by cases h), List.nodup_nil, fun p h => (by cases h)⟩

/-- A contract of a function that hands back v, at a world. -/
theorem calls_of_Fv {P : Program} {f : FuncId} {fn : Func} {c : Code} {vs : List Value} {v : Value} {W : World} (hf : P.funcs[f]? = some fn) (hb : fn.body = some c) (hname : (fn.name == "runtime.NumGoroutine") = false)
    (h : Fv P (fnv f) vs (heapOf W) v) : Calls P f vs.toArray W fun e W' => e = .returned v ∧ Below W.heap.size W W' := by
  obtain ⟨nx, w1, h1, h2⟩ := h W (sat_heapOf W)
  have he := Go.Proofs.enters_of (P := P) hf hname hb vs.toArray W
  have hrun : Sem.run P (do let d ← Deferred.ofValue (fnv f) vs.toArray; invoke d.target d.args) W = .ok (.enter f vs.toArray) W := by
    simp [Deferred.ofValue, invoke, he]
  rw [hrun] at h1
  injection h1 with h1 h3
  subst h1; subst h3
  refine callsIn_wide.1 (CallsIn.mono h2 ?_)
  rintro e w' ⟨u, H', L', rfl, hst, rfl, rfl⟩
  exact ⟨rfl, hst.chg.os, hst.chg.tape, hst.chg.output, hst.chg.size, fun b hb => hst.chg.same b hb (by simp [keys])⟩

section
variable {H : Type} {enc : TypeId × Value → H} {P : Program}

theorem trodAll_below (hl : laidOutB P = true) {W W' : World} (hb : Below W.heap.size W W') {sp : Nat → Bool} : ∀ {ts : List TypeId} {vs : List Value} {ds : List (DataW H)} {p : List MemPlace},
    (∀ t ∈ ts, P.readableRec t = true ∧ t < P.types.size) → DataW.TrodAll enc P W 0 (fun _ => true) true ts vs ds p → (∀ q ∈ p, q.block < W.heap.size ∧ sp q.block = true) → DataW.TrodAll enc P W' 0 sp true ts vs ds p
  | [], _, _, _, _, h, _ => by
    obtain ⟨rfl, rfl, rfl⟩ := trodAll_nil h
    exact trodAll_mk0
  | t :: ts, _, _, _, ht, h, hp => by
    obtain ⟨v, vs, d, ds, a, b, rfl, rfl, rfl, h1, h2⟩ := trodAll_cons h
    have h3 := WideElems.Trod_stays (sp' := sp) hl (ht t (List.mem_cons_self ..)).1 (ht t (List.mem_cons_self ..)).2 h1 (fun x hx => hb.same (hp x (List.mem_append_left _ hx)).1) (fun x hx => (hp x (List.mem_append_left _ hx)).2)
    exact ⟨a, b, h3, trodAll_below hl hb (fun t' h' => ht t' (List.mem_cons_of_mem _ h')) h2 (fun x hx => hp x (List.mem_append_right _ hx)), rfl⟩

/-- What is asked behind a call that turned nothing of what there was, and says true. -/
theorem post_true {f : Func} {s : ChangeSpec} {fresh handsOn again : Bool} {W W' : World} {args : Array Value} {ds gs : List (DataW H)} {before : List MemPlace} {tb : TypeId} (hl : laidOutB P = true)
    (hW : DataW.Whole enc P f.params.toList s.vars false W args.toList ds gs before) (hvars : s.vars = []) (hpar : ∀ t ∈ f.params.toList, P.readableRec t = true ∧ t < P.types.size)
    (hs : s.fn H (ds ++ gs) = { results := [.lit (.bool true)], args := ds }) (hrt : f.resultTypes = #[tb]) (htb : P.underlying tb = some .bool) (hb : Below W.heap.size W W') :
    s.post enc P f false fresh handsOn again W args (.bool true) W' := by
  have hlt := hW.lt
  have hW0 := hW
  obtain ⟨p, q, hA, hV, rfl, hfz, hnd⟩ := hW
  rw [hvars] at hV
  obtain ⟨rfl, rfl⟩ := trodVars_none hV
  rw [List.append_nil] at hfz hlt
  have hres : ∀ (b : Nat) (sp : Nat → Bool) (hd : Bool), DataW.TrodAll enc P W' b sp hd f.resultTypes.toList ((Value.bool true).resultList f.resultTypes.size) [.lit (.bool true)] [] := by
    intro b sp hd
    rw [hrt]
    exact trodAll_mk1 (shut_bool htb true)
  have hargs : ∀ sp : Nat → Bool, (∀ x ∈ p, sp x.block = true) → DataW.TrodAll enc P W' 0 sp true f.params.toList args.toList ds p := fun sp hsp =>
    trodAll_below hl hb hpar hA (fun x hx => ⟨hlt x hx, hsp x hx⟩)
  have hvr : ∀ sp : Nat → Bool, DataW.TrodVars enc P W' sp s.vars ([] : List (DataW H)) [] := fun sp => by rw [hvars]; rfl
  refine ⟨ds, [], p ++ [], [], p, [], hW0, ?_, ?_, ?_, World.keptBut_mono (fun x hx => ⟨hx, ?_⟩) (hb.frame (· ∈ p ++ [])), fun _ => ?_⟩
  · rw [hs]; exact hres _ _ _
  · rw [hs]; exact hargs _ (fun x hx => by simpa using hlt x hx)
  · rw [hs]; exact hvr _
  · exact Or.inr (by simpa using hx)
  · refine ⟨ok_one hrt rfl (okWide_bool_mk htb true), _, _, ([] ++ p) ++ [], ⟨[] ++ p, [], trodAll_append (hargs _ (fun _ _ => rfl)) (hres _ _ _), hvr _, rfl, ?_, fun h => by cases h⟩, ?_⟩
    · intro b off hp
      have hp' : MemPlace.cell b off ∈ p := by simpa using hp
      have := hb.frozen (p := ⟨b, off, none⟩) (hlt _ hp')
      rw [this]
      exact hfz b off hp'
    · intro x hx _
      simpa using hx

theorem cellAt_heapOf {W : World} {b o : Nat} {v : Value} (h : W.cell? ⟨b, o, none⟩ = some v) : cellAt (heapOf W) b o = some v := by
  unfold World.cell? at h
  unfold cellAt heapOf
  simp only at h
  revert h
  cases hb : W.heap[b]? with
  | none => intro h; simp at h
  | some ob => cases ob <;> intro h <;> simp_all

end
theorem u_of_wf {x : Int} (h : (Lit.int .u64 x).wf = true) : 0 ≤ x ∧ x < 18446744073709551616 := by
  simp [Lit.wf, IntKind.min, IntKind.max, IntKind.signed, IntKind.bits] at h; omega
end Go.SX

set_option linter.unusedVariables false
set_option linter.unusedSimpArgs false
namespace Go.SX
open Go Go.ChangeShapes Go.WideShapes Go.ChangeAt Go.RowKit Go.Deep
/-- What can be read at the type stands as E says. -/
def Opn (P : Program) (t : TypeId) {α : Type} (E : ER α) (Q : α → Prop) : Prop :=
  ∀ (H : Type) (enc : TypeId × Value → H) (W : World) (sp : Nat → Bool) (hd : Bool) (n : Nat) (cs : List Value) (x : DataW H × List MemPlace), DataW.trod enc P W 0 sp hd n t cs = some x → ∃ a, E.R (heapOf W) cs a ∧ Q a
theorem Opn.int {P : Program} {t : TypeId} {k : IntKind} (ht : P.underlying t = some (.int k)) : Opn P t (intE k) (fun x => (Lit.int k x).wf = true) := fun H enc W sp hd n cs x h => by
  obtain ⟨n, rfl, _, hw⟩ := DataW.trod_int ht h
  exact ⟨n, rfl, hw⟩
theorem Opn.bool {P : Program} {t : TypeId} (ht : P.underlying t = some .bool) : Opn P t boolE (fun _ => True) := fun H enc W sp hd n cs x h => by
  obtain ⟨b, rfl, _⟩ := DataW.trod_bool ht h
  exact ⟨b, rfl, trivial⟩
theorem Opn.weak {P : Program} {t : TypeId} {α : Type} {E : ER α} {Q Q' : α → Prop} (h : Opn P t E Q) (hq : ∀ a, Q a → Q' a) : Opn P t E Q' := fun H enc W sp hd n cs x hx => by
  obtain ⟨a, h1, h2⟩ := h H enc W sp hd n cs x hx
  exact ⟨a, h1, hq a h2⟩
/-- A struct of two ints. -/
theorem Opn.pair {P : Program} {t i : TypeId} {f0 f1 : Field} (ht : P.underlying t = some (.struct #[f0, f1])) (ct : P.cellsOf t = 2) (o0 : f0.offset = 0) (o1 : f1.offset = 1) (t0 : f0.type = i) (t1 : f1.type = i)
    (hi : P.underlying i = some (.int .i64)) (ci : P.cellsOf i = 1) : Opn P t pairE (fun _ => True) := fun H enc W sp hd n cs x h => by
  obtain ⟨xs, m, _, _, hl, hxl, hf⟩ := DataW.trod_struct ht h
  rw [ct] at hl
  match cs, hl, xs, hxl with
  | [v0, v1], _, [y0, y1], _ =>
    have g0 := hf 0 f0 rfl
    have g1 := hf 1 f1 rfl
    rw [o0, t0, ci] at g0
    rw [o1, t1, ci] at g1
    simp at g0 g1
    obtain ⟨a, ha, _⟩ := DataW.trod_int hi g0
    obtain ⟨b, hb, _⟩ := DataW.trod_int hi g1
    simp at ha hb
    subst ha; subst hb
    exact ⟨(a, b), rfl, trivial⟩
/-- An array of two ints. -/
theorem Opn.two {P : Program} {t i : TypeId} (ht : P.underlying t = some (.array 2 i)) (ct : P.cellsOf t = 2) (hi : P.underlying i = some (.int .i64)) (ci : P.cellsOf i = 1) : Opn P t pairE (fun _ => True) := fun H enc W sp hd n cs x h => by
  obtain ⟨xs, m, _, _, hl, hxl, hf⟩ := DataW.trod_array ht h
  rw [ct] at hl
  match cs, hl, xs, hxl with
  | [v0, v1], _, [y0, y1], _ =>
    have g0 := hf 0 (by omega)
    have g1 := hf 1 (by omega)
    rw [ci] at g0 g1
    simp at g0 g1
    obtain ⟨a, ha, _⟩ := DataW.trod_int hi g0
    obtain ⟨b, hb, _⟩ := DataW.trod_int hi g1
    simp at ha hb
    subst ha; subst hb
    exact ⟨(a, b), rfl, trivial⟩
/-- A slice. -/
theorem Opn.slice {P : Program} {t e : TypeId} {α : Type} {E : ER α} {Q : α → Prop} (ht : P.underlying t = some (.slice e)) (hc : P.cellsOf e = E.size) (he : Opn P e E Q) (hs : 0 < E.size) : Opn P t (slE E) (fun xs => ∀ x ∈ xs, Q x) := fun H enc W sp hd n cs x h => by
  rcases open_slice ht h with ⟨rfl, _⟩ | ⟨a, len, cap, m, n', D, Pl, rfl, _, hl, hm, hmm, _, hx⟩
  · exact ⟨[], ⟨_, rfl, RdS.nil⟩, fun x hx => by simp at hx⟩
  · have key : ∀ i, i < len → ∃ x, (∃ b o, a = ⟨b, o, none⟩ ∧ ElemAt E (heapOf W) b (o + i * E.size) x) ∧ Q x := fun i hi => by
      obtain ⟨cs', h1, h2⟩ := hx i (by rw [hmm]; split <;> omega)
      obtain ⟨x, h3, h4⟩ := he H enc W sp hd n' cs' _ h2
      refine ⟨x, ?_, h4⟩
      rw [hc] at h1
      obtain ⟨_, hlen, hcell⟩ := World.cells?_some h1
      obtain ⟨ab, ao, asp⟩ := a
      cases asp with
      | none =>
        refine ⟨ab, ao, rfl, cs', h3, fun j u hj => ?_⟩
        have hjl : j < E.size := by rw [← hlen]; exact (List.getElem?_eq_some_iff.1 hj).1
        have h5 := hcell j hjl
        rw [hj, add_add, Addr.add_lit] at h5
        have := cellAt_heapOf h5
        rw [show ao + i * E.size + j = ao + (i * E.size + j) by omega]
        exact this
      | some s =>
        exfalso
        obtain ⟨cs0, k1, _⟩ := hx 0 (by rw [hmm]; split <;> omega)
        rw [hc, Nat.zero_mul, Addr.add_zero'] at k1
        obtain ⟨_, klen, kcell⟩ := World.cells?_some k1
        have h5 := kcell 0 hs
        rw [Addr.add_zero'] at h5
        obtain ⟨u, hu⟩ : ∃ u, cs0[0]? = some u := ⟨cs0[0], List.getElem?_eq_getElem (by omega)⟩
        rw [hu] at h5
        unfold World.cell? at h5
        revert h5
        cases hb : W.heap[ab]? with
        | none => intro h; simp [hb] at h
        | some ob => cases ob <;> intro h <;> simp [hb] at h
    obtain ⟨f, hf⟩ : ∃ f : Nat → Option α, ∀ i, i < len → ∃ x, f i = some x ∧ (∃ b o, a = ⟨b, o, none⟩ ∧ ElemAt E (heapOf W) b (o + i * E.size) x) ∧ Q x := by
      classical
      refine ⟨fun i => if hi : i < len then some (Classical.choose (key i hi)) else none, fun i hi => ?_⟩
      exact ⟨_, dif_pos hi, Classical.choose_spec (key i hi)⟩
    have hxs : ∀ n, n ≤ len → ∃ xs : List α, xs.length = n ∧ ∀ i, i < n → xs[i]? = f i := fun n => by
      induction n with
      | zero => exact fun _ => ⟨[], rfl, fun i hi => absurd hi (Nat.not_lt_zero _)⟩
      | succ n ih =>
        intro hn
        obtain ⟨xs, h1, h2⟩ := ih (by omega)
        obtain ⟨x, h3, _⟩ := hf n (by omega)
        refine ⟨xs ++ [x], by simp [h1], fun i hi => ?_⟩
        by_cases h : i < n
        · rw [List.getElem?_append_left (by omega)]; exact h2 i h
        · obtain rfl : i = n := by omega
          rw [List.getElem?_append_right (by omega), h1, Nat.sub_self, h3]; rfl
    obtain ⟨xs, h1, h2⟩ := hxs len (Nat.le_refl _)
    subst h1
    refine ⟨xs, ⟨_, rfl, some a, cap, rfl, hl, hm, fun i x hx => ?_⟩, fun x hx => ?_⟩
    · have hi : i < xs.length := (List.getElem?_eq_some_iff.1 hx).1
      obtain ⟨y, h3, ⟨b, o, h4, h5⟩, _⟩ := hf i hi
      rw [h2 i hi, h3] at hx
      injection hx with hx
      subst hx
      exact ⟨b, o, by rw [h4], h5⟩
    · obtain ⟨i, hi, rfl⟩ := List.mem_iff_getElem.1 hx
      obtain ⟨y, h3, _, h4⟩ := hf i hi
      have := h2 i hi
      rw [h3, List.getElem?_eq_getElem hi] at this
      injection this with this
      rw [this]; exact h4
section
variable {P : Program} {H : Type} {enc : TypeId × Value → H} {W : World} {r : Reach} {b0 : Nat} {t : TypeId} {v : Value} {d : DataW H} {p : List MemPlace} {α : Type} {E : ER α} {Q : α → Prop}
/-- A slice that is handed in. -/
theorem open_sl {e : TypeId} (ht : P.underlying t = some (.slice e)) (ho : Opn P t (slE E) (fun xs => ∀ x ∈ xs, Q x)) (hval : Value.okWide P W r b0 t v) (h : DataW.Trod enc P W 0 (fun _ => true) true t v d p) :
    ∃ xs : List α, RdS E (heapOf W) v xs ∧ ∀ x ∈ xs, Q x := by
  obtain ⟨a0, len, cap, rfl⟩ := okWide_slice ht hval
  obtain ⟨n, hn⟩ := h
  obtain ⟨xs, ⟨u, h1, h2⟩, h3⟩ := ho H enc W _ _ n _ _ hn
  have : Value.slice a0 len cap = u := by simpa [Value.cells] using h1
  rw [this]
  exact ⟨xs, h2, h3⟩
end
end Go.SX

set_option linter.unusedVariables false
set_option linter.unusedSimpArgs false
namespace Go.SX
open Go Go.ChangeShapes Go.WideShapes Go.ChangeAt Go.RowKit Go.Proofs
def traitsE : ER (Bool × Bool × Int × Int × Int) where
  size := 5
  R := fun _ cs x => cs = [.bool x.1, .bool x.2.1, .int .i64 x.2.2.1, .int .i64 x.2.2.2.1, .int .i64 x.2.2.2.2]
  len := fun h => by subst h; rfl
  mono := fun _ h => h
  one := fun h v hv => by subst h; simp only [List.mem_cons, List.not_mem_nil, or_false] at hv; rcases hv with rfl | rfl | rfl | rfl | rfl <;> rfl
def arr96E : ER ((List Int) × (List Int)) where
  size := 2
  R := fun H cs x => ∃ v0 v1, cs = [v0, v1] ∧ RdS (intE .i64) H v0 x.1 ∧ RdS (intE .i64) H v1 x.2
  len := fun h => by obtain ⟨v0, v1, rfl, _⟩ := h; rfl
  mono := fun hl h => by obtain ⟨v0, v1, rfl, h0, h1⟩ := h; exact ⟨v0, v1, rfl, h0.mono hl, h1.mono hl⟩
  one := fun h v hv => by
    obtain ⟨v0, v1, rfl, h0, h1⟩ := h
    simp only [List.mem_cons, List.not_mem_nil, or_false] at hv
    rcases hv with rfl | rfl <;> first | rfl | exact RdS.one (by assumption)

theorem lenN2 {α : Type} {l : List α} (h : l.length = 2) : ∃ v0 v1, l = [v0, v1] := by
  match l, h with
  | [v0, v1], _ => exact ⟨v0, v1, rfl⟩
theorem lenN5 {α : Type} {l : List α} (h : l.length = 5) : ∃ v0 v1 v2 v3 v4, l = [v0, v1, v2, v3, v4] := by
  match l, h with
  | [v0, v1, v2, v3, v4], _ => exact ⟨v0, v1, v2, v3, v4, rfl⟩
theorem lenN6 {α : Type} {l : List α} (h : l.length = 6) : ∃ v0 v1 v2 v3 v4 v5, l = [v0, v1, v2, v3, v4, v5] := by
  match l, h with
  | [v0, v1, v2, v3, v4, v5], _ => exact ⟨v0, v1, v2, v3, v4, v5, rfl⟩
theorem lenN12 {α : Type} {l : List α} (h : l.length = 12) : ∃ v0 v1 v2 v3 v4 v5 v6 v7 v8 v9 v10 v11, l = [v0, v1, v2, v3, v4, v5, v6, v7, v8, v9, v10, v11] := by
  match l, h with
  | [v0, v1, v2, v3, v4, v5, v6, v7, v8, v9, v10, v11], _ => exact ⟨v0, v1, v2, v3, v4, v5, v6, v7, v8, v9, v10, v11, rfl⟩
theorem opn76 : Opn Tryd.prog 76 traitsE (fun x => ((True) ∧ (True) ∧ ((Lit.int .i64 x.2.2.1).wf = true) ∧ ((Lit.int .i64 x.2.2.2.1).wf = true) ∧ ((Lit.int .i64 x.2.2.2.2).wf = true))) := fun H enc W sp hd n cs x h => by
  obtain ⟨xs, m, _, _, hl, hxl, hf⟩ := DataW.trod_struct Tryd.underlying76 h
  rw [show Tryd.prog.cellsOf 76 = 5 by kernel_rfl] at hl
  replace hxl : xs.length = 5 := hxl
  obtain ⟨v0, v1, v2, v3, v4, rfl⟩ := lenN5 hl
  obtain ⟨y0, y1, y2, y3, y4, rfl⟩ := lenN5 hxl
  have g0 : DataW.trod enc Tryd.prog W 0 sp hd m 4 (([v0, v1, v2, v3, v4].drop 0).take (Tryd.prog.cellsOf 4)) = some y0 := hf 0 _ rfl
  rw [show Tryd.prog.cellsOf 4 = 1 by kernel_rfl] at g0
  simp only [List.drop, List.take] at g0
  have g1 : DataW.trod enc Tryd.prog W 0 sp hd m 4 (([v0, v1, v2, v3, v4].drop 1).take (Tryd.prog.cellsOf 4)) = some y1 := hf 1 _ rfl
  rw [show Tryd.prog.cellsOf 4 = 1 by kernel_rfl] at g1
  simp only [List.drop, List.take] at g1
  have g2 : DataW.trod enc Tryd.prog W 0 sp hd m 3 (([v0, v1, v2, v3, v4].drop 2).take (Tryd.prog.cellsOf 3)) = some y2 := hf 2 _ rfl
  rw [show Tryd.prog.cellsOf 3 = 1 by kernel_rfl] at g2
  simp only [List.drop, List.take] at g2
  have g3 : DataW.trod enc Tryd.prog W 0 sp hd m 3 (([v0, v1, v2, v3, v4].drop 3).take (Tryd.prog.cellsOf 3)) = some y3 := hf 3 _ rfl
  rw [show Tryd.prog.cellsOf 3 = 1 by kernel_rfl] at g3
  simp only [List.drop, List.take] at g3
  have g4 : DataW.trod enc Tryd.prog W 0 sp hd m 3 (([v0, v1, v2, v3, v4].drop 4).take (Tryd.prog.cellsOf 3)) = some y4 := hf 4 _ rfl
  rw [show Tryd.prog.cellsOf 3 = 1 by kernel_rfl] at g4
  simp only [List.drop, List.take] at g4
  obtain ⟨x0, h0, _⟩ := DataW.trod_bool Tryd.underlying4 g0
  injection h0 with h0; subst h0
  obtain ⟨x1, h1, _⟩ := DataW.trod_bool Tryd.underlying4 g1
  injection h1 with h1; subst h1
  obtain ⟨x2, h2, _, w2⟩ := DataW.trod_int Tryd.underlying3 g2
  injection h2 with h2; subst h2
  obtain ⟨x3, h3, _, w3⟩ := DataW.trod_int Tryd.underlying3 g3
  injection h3 with h3; subst h3
  obtain ⟨x4, h4, _, w4⟩ := DataW.trod_int Tryd.underlying3 g4
  injection h4 with h4; subst h4
  exact ⟨(x0, x1, x2, x3, x4), rfl, ⟨trivial, trivial, w2, w3, w4⟩⟩
theorem opn78 : Opn Tryd.prog 78 relationE (fun x => (((Lit.int .i64 x.1).wf = true) ∧ (((True) ∧ (True) ∧ ((Lit.int .i64 x.2.2.2.1).wf = true) ∧ ((Lit.int .i64 x.2.2.2.2.1).wf = true) ∧ ((Lit.int .i64 x.2.2.2.2.2).wf = true))))) := fun H enc W sp hd n cs x h => by
  obtain ⟨xs, m, _, _, hl, hxl, hf⟩ := DataW.trod_struct Tryd.underlying78 h
  rw [show Tryd.prog.cellsOf 78 = 6 by kernel_rfl] at hl
  replace hxl : xs.length = 2 := hxl
  obtain ⟨v0, v1, v2, v3, v4, v5, rfl⟩ := lenN6 hl
  obtain ⟨y0, y1, rfl⟩ := lenN2 hxl
  have g0 : DataW.trod enc Tryd.prog W 0 sp hd m 3 (([v0, v1, v2, v3, v4, v5].drop 0).take (Tryd.prog.cellsOf 3)) = some y0 := hf 0 _ rfl
  rw [show Tryd.prog.cellsOf 3 = 1 by kernel_rfl] at g0
  simp only [List.drop, List.take] at g0
  have g1 : DataW.trod enc Tryd.prog W 0 sp hd m 76 (([v0, v1, v2, v3, v4, v5].drop 1).take (Tryd.prog.cellsOf 76)) = some y1 := hf 1 _ rfl
  rw [show Tryd.prog.cellsOf 76 = 5 by kernel_rfl] at g1
  simp only [List.drop, List.take] at g1
  obtain ⟨x0, h0, _, w0⟩ := DataW.trod_int Tryd.underlying3 g0
  injection h0 with h0; subst h0
  obtain ⟨x1, h1, w1⟩ := opn76 H enc W sp hd _ _ _ g1
  obtain ⟨rfl, rfl, rfl, rfl, rfl⟩ : v1 = .bool x1.1 ∧ v2 = .bool x1.2.1 ∧ v3 = .int .i64 x1.2.2.1 ∧ v4 = .int .i64 x1.2.2.2.1 ∧ v5 = .int .i64 x1.2.2.2.2 := by have h := h1; simp only [traitsE] at h; simpa using h
  exact ⟨(x0, x1), rfl, ⟨w0, w1⟩⟩
theorem opn73 : Opn Tryd.prog 73 heldE (fun x => (((Lit.int .i64 x.1).wf = true) ∧ ((Lit.int .u64 x.2).wf = true))) := fun H enc W sp hd n cs x h => by
  obtain ⟨xs, m, _, _, hl, hxl, hf⟩ := DataW.trod_struct Tryd.underlying73 h
  rw [show Tryd.prog.cellsOf 73 = 2 by kernel_rfl] at hl
  replace hxl : xs.length = 2 := hxl
  obtain ⟨v0, v1, rfl⟩ := lenN2 hl
  obtain ⟨y0, y1, rfl⟩ := lenN2 hxl
  have g0 : DataW.trod enc Tryd.prog W 0 sp hd m 3 (([v0, v1].drop 0).take (Tryd.prog.cellsOf 3)) = some y0 := hf 0 _ rfl
  rw [show Tryd.prog.cellsOf 3 = 1 by kernel_rfl] at g0
  simp only [List.drop, List.take] at g0
  have g1 : DataW.trod enc Tryd.prog W 0 sp hd m 32 (([v0, v1].drop 1).take (Tryd.prog.cellsOf 32)) = some y1 := hf 1 _ rfl
  rw [show Tryd.prog.cellsOf 32 = 1 by kernel_rfl] at g1
  simp only [List.drop, List.take] at g1
  obtain ⟨x0, h0, _, w0⟩ := DataW.trod_int Tryd.underlying3 g0
  injection h0 with h0; subst h0
  obtain ⟨x1, h1, _, w1⟩ := DataW.trod_int Tryd.underlying32 g1
  injection h1 with h1; subst h1
  exact ⟨(x0, x1), rfl, ⟨w0, w1⟩⟩
theorem opn65 : Opn Tryd.prog 65 pairE (fun x => (((Lit.int .i64 x.1).wf = true) ∧ ((Lit.int .i64 x.2).wf = true))) := fun H enc W sp hd n cs x h => by
  obtain ⟨xs, m, _, _, hl, hxl, hf⟩ := DataW.trod_array Tryd.underlying65 h
  rw [show Tryd.prog.cellsOf 65 = 2 by kernel_rfl] at hl
  replace hxl : xs.length = 2 := hxl
  obtain ⟨v0, v1, rfl⟩ := lenN2 hl
  obtain ⟨y0, y1, rfl⟩ := lenN2 hxl
  have hc : Tryd.prog.cellsOf 3 = 1 := by kernel_rfl
  simp only [hc] at hf
  have g0 : DataW.trod enc Tryd.prog W 0 sp hd m 3 [v0] = some y0 := hf 0 (by decide)
  have g1 : DataW.trod enc Tryd.prog W 0 sp hd m 3 [v1] = some y1 := hf 1 (by decide)
  obtain ⟨x0, h0, _, w0⟩ := DataW.trod_int Tryd.underlying3 g0
  injection h0 with h0; subst h0
  obtain ⟨x1, h1, _, w1⟩ := DataW.trod_int Tryd.underlying3 g1
  injection h1 with h1; subst h1
  exact ⟨(x0, x1), rfl, ⟨w0, w1⟩⟩

end Go.SX
namespace Go.Proofs.YtmhoclmjgjopfaaDoor
open Go.ChangeShapes Go.WideShapes Go.ChangeAt Go.RowKit Go.SX

theorem planWhys_own : ownKnob Tryd.prog.godebug = none := by kernel_rfl
theorem planWhys_laid : laidOutB Tryd.prog = true := by kernel_rfl
theorem planWhys_met (os : Os) (args : Array Value) : laidMetH Tryd.prog Rows.planWhysRow.laid ((World.doorLaid Tryd.prog 400 os).forCall (fun _ _ => 0) ⟨#[], args, []⟩).memory :=
  laidMetH_of_parts3 (fuel := 12) (laidMet_of_run' 12 (by kernel_rfl) (by kernel_rfl)) (by kernel_rfl) (by kernel_rfl)
theorem planWhys_dat_0_1 {W : World} {H : Type} {enc : TypeId × Value → H} {sp : Nat → Bool} {hh : Bool} {n : Nat} {cs : List Value} {x : DataW H × List MemPlace} (h : DataW.trod enc Tryd.prog W 0 sp hh n 76 cs = some x) (hd : x.1 = .agg [.lit (.bool true), .lit (.bool true), .lit (.int .i64 0), .lit (.int .i64 1), .lit (.int .i64 2)]) : cs = [.bool true, .bool true, .int .i64 0, .int .i64 1, .int .i64 2] := by
  obtain ⟨xs, m, _, hx1, hl, hxl, hf⟩ := DataW.trod_struct Tryd.underlying76 h
  rw [show Tryd.prog.cellsOf 76 = 5 by kernel_rfl] at hl
  replace hxl : xs.length = 5 := hxl
  obtain ⟨v0, v1, v2, v3, v4, rfl⟩ := lenN5 hl
  obtain ⟨y0, y1, y2, y3, y4, rfl⟩ := lenN5 hxl
  subst hx1
  simp only [List.map_cons, List.map_nil, DataW.agg.injEq, List.cons.injEq, and_true] at hd
  obtain ⟨e0, e1, e2, e3, e4⟩ := hd
  have g0 : DataW.trod enc Tryd.prog W 0 sp hh m 4 (([v0, v1, v2, v3, v4].drop 0).take (Tryd.prog.cellsOf 4)) = some y0 := hf 0 _ rfl
  rw [show Tryd.prog.cellsOf 4 = 1 by kernel_rfl] at g0
  have G0 : DataW.trod enc Tryd.prog W 0 sp hh m 4 [v0] = some y0 := g0
  clear g0
  have g1 : DataW.trod enc Tryd.prog W 0 sp hh m 4 (([v0, v1, v2, v3, v4].drop 1).take (Tryd.prog.cellsOf 4)) = some y1 := hf 1 _ rfl
  rw [show Tryd.prog.cellsOf 4 = 1 by kernel_rfl] at g1
  have G1 : DataW.trod enc Tryd.prog W 0 sp hh m 4 [v1] = some y1 := g1
  clear g1
  have g2 : DataW.trod enc Tryd.prog W 0 sp hh m 3 (([v0, v1, v2, v3, v4].drop 2).take (Tryd.prog.cellsOf 3)) = some y2 := hf 2 _ rfl
  rw [show Tryd.prog.cellsOf 3 = 1 by kernel_rfl] at g2
  have G2 : DataW.trod enc Tryd.prog W 0 sp hh m 3 [v2] = some y2 := g2
  clear g2
  have g3 : DataW.trod enc Tryd.prog W 0 sp hh m 3 (([v0, v1, v2, v3, v4].drop 3).take (Tryd.prog.cellsOf 3)) = some y3 := hf 3 _ rfl
  rw [show Tryd.prog.cellsOf 3 = 1 by kernel_rfl] at g3
  have G3 : DataW.trod enc Tryd.prog W 0 sp hh m 3 [v3] = some y3 := g3
  clear g3
  have g4 : DataW.trod enc Tryd.prog W 0 sp hh m 3 (([v0, v1, v2, v3, v4].drop 4).take (Tryd.prog.cellsOf 3)) = some y4 := hf 4 _ rfl
  rw [show Tryd.prog.cellsOf 3 = 1 by kernel_rfl] at g4
  have G4 : DataW.trod enc Tryd.prog W 0 sp hh m 3 [v4] = some y4 := g4
  clear g4
  clear hf h
  obtain ⟨a0, h0, k0⟩ := DataW.trod_bool Tryd.underlying4 G0
  subst k0
  injection h0 with h0; subst h0
  simp only [DataW.lit.injEq, Lit.int.injEq, Lit.bool.injEq, true_and] at e0; subst e0
  obtain ⟨a1, h1, k1⟩ := DataW.trod_bool Tryd.underlying4 G1
  subst k1
  injection h1 with h1; subst h1
  simp only [DataW.lit.injEq, Lit.int.injEq, Lit.bool.injEq, true_and] at e1; subst e1
  obtain ⟨a2, h2, k2, _⟩ := DataW.trod_int Tryd.underlying3 G2
  subst k2
  injection h2 with h2; subst h2
  simp only [DataW.lit.injEq, Lit.int.injEq, Lit.bool.injEq, true_and] at e2; subst e2
  obtain ⟨a3, h3, k3, _⟩ := DataW.trod_int Tryd.underlying3 G3
  subst k3
  injection h3 with h3; subst h3
  simp only [DataW.lit.injEq, Lit.int.injEq, Lit.bool.injEq, true_and] at e3; subst e3
  obtain ⟨a4, h4, k4, _⟩ := DataW.trod_int Tryd.underlying3 G4
  subst k4
  injection h4 with h4; subst h4
  simp only [DataW.lit.injEq, Lit.int.injEq, Lit.bool.injEq, true_and] at e4; subst e4
  rfl
theorem planWhys_dat_0 {W : World} {H : Type} {enc : TypeId × Value → H} {sp : Nat → Bool} {hh : Bool} {n : Nat} {cs : List Value} {x : DataW H × List MemPlace} (h : DataW.trod enc Tryd.prog W 0 sp hh n 78 cs = some x) (hd : x.1 = .agg [.lit (.int .i64 1), .agg [.lit (.bool true), .lit (.bool true), .lit (.int .i64 0), .lit (.int .i64 1), .lit (.int .i64 2)]]) : cs = [.int .i64 1, .bool true, .bool true, .int .i64 0, .int .i64 1, .int .i64 2] := by
  obtain ⟨xs, m, _, hx1, hl, hxl, hf⟩ := DataW.trod_struct Tryd.underlying78 h
  rw [show Tryd.prog.cellsOf 78 = 6 by kernel_rfl] at hl
  replace hxl : xs.length = 2 := hxl
  obtain ⟨v0, v1, v2, v3, v4, v5, rfl⟩ := lenN6 hl
  obtain ⟨y0, y1, rfl⟩ := lenN2 hxl
  subst hx1
  simp only [List.map_cons, List.map_nil, DataW.agg.injEq, List.cons.injEq, and_true] at hd
  obtain ⟨e0, e1⟩ := hd
  have g0 : DataW.trod enc Tryd.prog W 0 sp hh m 3 (([v0, v1, v2, v3, v4, v5].drop 0).take (Tryd.prog.cellsOf 3)) = some y0 := hf 0 _ rfl
  rw [show Tryd.prog.cellsOf 3 = 1 by kernel_rfl] at g0
  have G0 : DataW.trod enc Tryd.prog W 0 sp hh m 3 [v0] = some y0 := g0
  clear g0
  have g1 : DataW.trod enc Tryd.prog W 0 sp hh m 76 (([v0, v1, v2, v3, v4, v5].drop 1).take (Tryd.prog.cellsOf 76)) = some y1 := hf 1 _ rfl
  rw [show Tryd.prog.cellsOf 76 = 5 by kernel_rfl] at g1
  have G1 : DataW.trod enc Tryd.prog W 0 sp hh m 76 [v1, v2, v3, v4, v5] = some y1 := g1
  clear g1
  clear hf h
  obtain ⟨a0, h0, k0, _⟩ := DataW.trod_int Tryd.underlying3 G0
  subst k0
  injection h0 with h0; subst h0
  simp only [DataW.lit.injEq, Lit.int.injEq, Lit.bool.injEq, true_and] at e0; subst e0
  have q1 := planWhys_dat_0_1 G1 e1
  simp only [List.cons.injEq, and_true] at q1
  obtain ⟨rfl, rfl, rfl, rfl, rfl⟩ := q1
  rfl
theorem planWhys_dat_1_1 {W : World} {H : Type} {enc : TypeId × Value → H} {sp : Nat → Bool} {hh : Bool} {n : Nat} {cs : List Value} {x : DataW H × List MemPlace} (h : DataW.trod enc Tryd.prog W 0 sp hh n 76 cs = some x) (hd : x.1 = .agg [.lit (.bool true), .lit (.bool false), .lit (.int .i64 0), .lit (.int .i64 0), .lit (.int .i64 2)]) : cs = [.bool true, .bool false, .int .i64 0, .int .i64 0, .int .i64 2] := by
  obtain ⟨xs, m, _, hx1, hl, hxl, hf⟩ := DataW.trod_struct Tryd.underlying76 h
  rw [show Tryd.prog.cellsOf 76 = 5 by kernel_rfl] at hl
  replace hxl : xs.length = 5 := hxl
  obtain ⟨v0, v1, v2, v3, v4, rfl⟩ := lenN5 hl
  obtain ⟨y0, y1, y2, y3, y4, rfl⟩ := lenN5 hxl
  subst hx1
  simp only [List.map_cons, List.map_nil, DataW.agg.injEq, List.cons.injEq, and_true] at hd
  obtain ⟨e0, e1, e2, e3, e4⟩ := hd
  have g0 : DataW.trod enc Tryd.prog W 0 sp hh m 4 (([v0, v1, v2, v3, v4].drop 0).take (Tryd.prog.cellsOf 4)) = some y0 := hf 0 _ rfl
  rw [show Tryd.prog.cellsOf 4 = 1 by kernel_rfl] at g0
  have G0 : DataW.trod enc Tryd.prog W 0 sp hh m 4 [v0] = some y0 := g0
  clear g0
  have g1 : DataW.trod enc Tryd.prog W 0 sp hh m 4 (([v0, v1, v2, v3, v4].drop 1).take (Tryd.prog.cellsOf 4)) = some y1 := hf 1 _ rfl
  rw [show Tryd.prog.cellsOf 4 = 1 by kernel_rfl] at g1
  have G1 : DataW.trod enc Tryd.prog W 0 sp hh m 4 [v1] = some y1 := g1
  clear g1
  have g2 : DataW.trod enc Tryd.prog W 0 sp hh m 3 (([v0, v1, v2, v3, v4].drop 2).take (Tryd.prog.cellsOf 3)) = some y2 := hf 2 _ rfl
  rw [show Tryd.prog.cellsOf 3 = 1 by kernel_rfl] at g2
  have G2 : DataW.trod enc Tryd.prog W 0 sp hh m 3 [v2] = some y2 := g2
  clear g2
  have g3 : DataW.trod enc Tryd.prog W 0 sp hh m 3 (([v0, v1, v2, v3, v4].drop 3).take (Tryd.prog.cellsOf 3)) = some y3 := hf 3 _ rfl
  rw [show Tryd.prog.cellsOf 3 = 1 by kernel_rfl] at g3
  have G3 : DataW.trod enc Tryd.prog W 0 sp hh m 3 [v3] = some y3 := g3
  clear g3
  have g4 : DataW.trod enc Tryd.prog W 0 sp hh m 3 (([v0, v1, v2, v3, v4].drop 4).take (Tryd.prog.cellsOf 3)) = some y4 := hf 4 _ rfl
  rw [show Tryd.prog.cellsOf 3 = 1 by kernel_rfl] at g4
  have G4 : DataW.trod enc Tryd.prog W 0 sp hh m 3 [v4] = some y4 := g4
  clear g4
  clear hf h
  obtain ⟨a0, h0, k0⟩ := DataW.trod_bool Tryd.underlying4 G0
  subst k0
  injection h0 with h0; subst h0
  simp only [DataW.lit.injEq, Lit.int.injEq, Lit.bool.injEq, true_and] at e0; subst e0
  obtain ⟨a1, h1, k1⟩ := DataW.trod_bool Tryd.underlying4 G1
  subst k1
  injection h1 with h1; subst h1
  simp only [DataW.lit.injEq, Lit.int.injEq, Lit.bool.injEq, true_and] at e1; subst e1
  obtain ⟨a2, h2, k2, _⟩ := DataW.trod_int Tryd.underlying3 G2
  subst k2
  injection h2 with h2; subst h2
  simp only [DataW.lit.injEq, Lit.int.injEq, Lit.bool.injEq, true_and] at e2; subst e2
  obtain ⟨a3, h3, k3, _⟩ := DataW.trod_int Tryd.underlying3 G3
  subst k3
  injection h3 with h3; subst h3
  simp only [DataW.lit.injEq, Lit.int.injEq, Lit.bool.injEq, true_and] at e3; subst e3
  obtain ⟨a4, h4, k4, _⟩ := DataW.trod_int Tryd.underlying3 G4
  subst k4
  injection h4 with h4; subst h4
  simp only [DataW.lit.injEq, Lit.int.injEq, Lit.bool.injEq, true_and] at e4; subst e4
  rfl
theorem planWhys_dat_1 {W : World} {H : Type} {enc : TypeId × Value → H} {sp : Nat → Bool} {hh : Bool} {n : Nat} {cs : List Value} {x : DataW H × List MemPlace} (h : DataW.trod enc Tryd.prog W 0 sp hh n 78 cs = some x) (hd : x.1 = .agg [.lit (.int .i64 2), .agg [.lit (.bool true), .lit (.bool false), .lit (.int .i64 0), .lit (.int .i64 0), .lit (.int .i64 2)]]) : cs = [.int .i64 2, .bool true, .bool false, .int .i64 0, .int .i64 0, .int .i64 2] := by
  obtain ⟨xs, m, _, hx1, hl, hxl, hf⟩ := DataW.trod_struct Tryd.underlying78 h
  rw [show Tryd.prog.cellsOf 78 = 6 by kernel_rfl] at hl
  replace hxl : xs.length = 2 := hxl
  obtain ⟨v0, v1, v2, v3, v4, v5, rfl⟩ := lenN6 hl
  obtain ⟨y0, y1, rfl⟩ := lenN2 hxl
  subst hx1
  simp only [List.map_cons, List.map_nil, DataW.agg.injEq, List.cons.injEq, and_true] at hd
  obtain ⟨e0, e1⟩ := hd
  have g0 : DataW.trod enc Tryd.prog W 0 sp hh m 3 (([v0, v1, v2, v3, v4, v5].drop 0).take (Tryd.prog.cellsOf 3)) = some y0 := hf 0 _ rfl
  rw [show Tryd.prog.cellsOf 3 = 1 by kernel_rfl] at g0
  have G0 : DataW.trod enc Tryd.prog W 0 sp hh m 3 [v0] = some y0 := g0
  clear g0
  have g1 : DataW.trod enc Tryd.prog W 0 sp hh m 76 (([v0, v1, v2, v3, v4, v5].drop 1).take (Tryd.prog.cellsOf 76)) = some y1 := hf 1 _ rfl
  rw [show Tryd.prog.cellsOf 76 = 5 by kernel_rfl] at g1
  have G1 : DataW.trod enc Tryd.prog W 0 sp hh m 76 [v1, v2, v3, v4, v5] = some y1 := g1
  clear g1
  clear hf h
  obtain ⟨a0, h0, k0, _⟩ := DataW.trod_int Tryd.underlying3 G0
  subst k0
  injection h0 with h0; subst h0
  simp only [DataW.lit.injEq, Lit.int.injEq, Lit.bool.injEq, true_and] at e0; subst e0
  have q1 := planWhys_dat_1_1 G1 e1
  simp only [List.cons.injEq, and_true] at q1
  obtain ⟨rfl, rfl, rfl, rfl, rfl⟩ := q1
  rfl
theorem planWhys_dat {W : World} {H : Type} {enc : TypeId × Value → H} {sp : Nat → Bool} {hh : Bool} {n : Nat} {cs : List Value} {x : DataW H × List MemPlace} (h : DataW.trod enc Tryd.prog W 0 sp hh n 190 cs = some x) (hd : x.1 = .agg [.agg [.lit (.int .i64 1), .agg [.lit (.bool true), .lit (.bool true), .lit (.int .i64 0), .lit (.int .i64 1), .lit (.int .i64 2)]], .agg [.lit (.int .i64 2), .agg [.lit (.bool true), .lit (.bool false), .lit (.int .i64 0), .lit (.int .i64 0), .lit (.int .i64 2)]]]) : cs = [.int .i64 1, .bool true, .bool true, .int .i64 0, .int .i64 1, .int .i64 2, .int .i64 2, .bool true, .bool false, .int .i64 0, .int .i64 0, .int .i64 2] := by
  obtain ⟨xs, m, _, hx1, hl, hxl, hf⟩ := DataW.trod_array Tryd.underlying190 h
  rw [show Tryd.prog.cellsOf 190 = 12 by kernel_rfl] at hl
  replace hxl : xs.length = 2 := hxl
  obtain ⟨v0, v1, v2, v3, v4, v5, v6, v7, v8, v9, v10, v11, rfl⟩ := lenN12 hl
  obtain ⟨y0, y1, rfl⟩ := lenN2 hxl
  subst hx1
  simp only [List.map_cons, List.map_nil, DataW.agg.injEq, List.cons.injEq, and_true] at hd
  obtain ⟨e0, e1⟩ := hd
  have hc : Tryd.prog.cellsOf 78 = 6 := by kernel_rfl
  simp only [hc] at hf
  have g0 := hf 0 (by decide)
  have G0 : DataW.trod enc Tryd.prog W 0 sp hh m 78 [v0, v1, v2, v3, v4, v5] = some y0 := g0
  clear g0
  have g1 := hf 1 (by decide)
  have G1 : DataW.trod enc Tryd.prog W 0 sp hh m 78 [v6, v7, v8, v9, v10, v11] = some y1 := g1
  clear g1
  clear hf h
  have q0 := planWhys_dat_0 G0 e0
  simp only [List.cons.injEq, and_true] at q0
  obtain ⟨rfl, rfl, rfl, rfl, rfl, rfl⟩ := q0
  have q1 := planWhys_dat_1 G1 e1
  simp only [List.cons.injEq, and_true] at q1
  obtain ⟨rfl, rfl, rfl, rfl, rfl, rfl⟩ := q1
  rfl
theorem planWhys_glob {W : World} (h : laidMetH Tryd.prog Rows.planWhysRow.laid W) : ∃ t, heapOf W 1 = some (.cells #[.int .i64 1, .bool true, .bool true, .int .i64 0, .int .i64 1, .int .i64 2, .int .i64 2, .bool true, .bool false, .int .i64 0, .int .i64 0, .int .i64 2] t) := by
  rw [MakeChecks.laidMetH_plain _ _ _ (by kernel_rfl)] at h
  obtain ⟨ps, ⟨g0, t0, cs0, f0, p0, q0, hg0, ht0, hv0, hd0, _, hps⟩, _, hrow⟩ := h
  obtain rfl := Option.some.inj ((show Tryd.prog.globalNamed "windrose/trait.first" = some 1 by kernel_rfl).symm.trans hg0)
  obtain rfl := Option.some.inj ((show (Tryd.prog.globals[1]?).map (·.type) = some 190 by kernel_rfl).symm.trans ht0)
  have hl := planWhys_dat hd0 rfl
  have hcs : cs0 = #[.int .i64 1, .bool true, .bool true, .int .i64 0, .int .i64 1, .int .i64 2, .int .i64 2, .bool true, .bool false, .int .i64 0, .int .i64 0, .int .i64 2] := Array.toList_inj.1 hl
  subst hcs
  have hm : MemPlace.cell 1 0 ∈ ps := by rw [hps]; simp [MemPlace.row]
  obtain ⟨⟨c, t, hh⟩, _⟩ := hrow 1 0 hm
  have hv := hv0
  simp only [World.var?, hg0, Option.bind_some, hh] at hv
  injection hv with hv
  subst hv
  exact ⟨t, hh⟩

set_option maxRecDepth 100000 in
theorem planWhys_lifted (os : Os) (started : os.Started) (H : Type) (enc : TypeId × Value → H) :
    ReturnsInHanded {} Tryd.checked os 9 .any (fun w args => (Rows.planWhysSpec.pre enc Tryd.prog Tryd.f9 [] false w args ∧ laidMetH Tryd.prog Rows.planWhysRow.laid w) ∧ sizedMet enc Tryd.prog Tryd.f9 (OpenSpec.ofChange Rows.planWhysSpec) false w args)
      (Rows.planWhysSpec.post enc Tryd.prog Tryd.f9 false true false false) := by
  refine returnsInHanded_of_change_and (C := Tryd.checked) (X := fun w _ => laidMetH Tryd.prog Rows.planWhysRow.laid w) (fun _ _ _ hh h => h.of_heap hh) planWhys_own started (by kernel_rfl) Tryd.func9
    (ChangeSpec.witness_shaped (enc := enc) (C := Tryd.checked) (os := os) (X := fun w _ => laidMetH Tryd.prog Rows.planWhysRow.laid w) false (World.doorLaid Tryd.prog 400 os) #[.slice none 0 0, .slice none 0 0, .slice none 0 0] 8 rfl (World.shaped_of_RefB (by kernel_rfl) (by kernel_rfl)) (by kernel_rfl) (by kernel_rfl) (by kernel_rfl) (planWhys_met os _)) ?_
  intro W base args ds gs before hval0 hW _ _ hL _
  have hval : ∀ (j : Nat) t v, Tryd.f9.params[j]? = some t → args[j]? = some v → Value.okWide Tryd.prog W .any base t v := hval0
  have hW' := hW
  obtain ⟨p, q, hA0, hV, rfl, hfz, hnd⟩ := hW
  have hA : DataW.TrodAll enc Tryd.prog W 0 (fun _ => true) true Tryd.f9.params.toList args.toList ds p := hA0
  rw [Tryd.params9] at hA hval
  clear hA0 hval0
  obtain ⟨v0, vs0, d0, ds0, p0, q0, e0, rfl, rfl, h0, r0⟩ := trodAll_cons hA
  obtain ⟨v1, vs1, d1, ds1, p1, q1, e1, rfl, rfl, h1, r1⟩ := trodAll_cons r0
  subst e1
  obtain ⟨v2, vs2, d2, ds2, p2, q2, e2, rfl, rfl, h2, r2⟩ := trodAll_cons r1
  subst e2
  obtain ⟨e3, rfl, rfl⟩ := trodAll_nil r2
  subst e3
  obtain rfl : args = #[v0, v1, v2] := by cases args; simp_all
  obtain ⟨rfl, rfl⟩ := trodVars_none hV
  obtain ⟨xs0, hr0, hw0⟩ := open_sl Tryd.underlying59 (Opn.slice Tryd.underlying59 (by kernel_rfl) opn78 (by decide)) (hval 0 59 v0 rfl rfl) h0
  obtain ⟨xs1, hr1, hw1⟩ := open_sl Tryd.underlying60 (Opn.slice Tryd.underlying60 (by kernel_rfl) opn73 (by decide)) (hval 1 60 v1 rfl rfl) h1
  obtain ⟨xs2, hr2, hw2⟩ := open_sl Tryd.underlying61 (Opn.slice Tryd.underlying61 (by kernel_rfl) opn65 (by decide)) (hval 2 61 v2 rfl rfl) h2
  have hpar : ∀ t ∈ Tryd.f9.params.toList, Tryd.prog.readableRec t = true ∧ t < Tryd.prog.types.size := by
    intro t ht
    rw [Tryd.params9] at ht
    simp only [List.mem_cons, List.not_mem_nil, or_false] at ht
    rcases ht with rfl | rfl | rfl
    · exact ⟨by kernel_rfl, of_decide_eq_true (by kernel_rfl)⟩
    · exact ⟨by kernel_rfl, of_decide_eq_true (by kernel_rfl)⟩
    · exact ⟨by kernel_rfl, of_decide_eq_true (by kernel_rfl)⟩
  obtain ⟨tG, hG⟩ := planWhys_glob hL
  refine (calls_of_Fv Tryd.func9 rfl (by kernel_rfl) (Fv.to (windroselaw20_PlanWhys_c _ hG _ xs0 hr0 _ xs1 hr1 _ xs2 hr2) (congrArg Value.bool (planWhys_true _ _ _ (fun h hh => u_of_wf (hw1 h hh).2))))).mono fun e W' ⟨he, hb⟩ => ?_
  subst he
  exact ⟨_, rfl, post_true planWhys_laid hW' rfl hpar rfl rfl Tryd.underlying4 hb⟩

theorem planWhys_holds : Rows.PlanWhysSaid :=
  OpenClaim.holds_of_wide 9 Tryd.f9 rfl rfl rfl rfl rfl rfl rfl ⟨rfl, rfl, rfl, rfl, rfl⟩ rfl rfl rfl rfl rfl (by kernel_rfl) Tryd.func9 (by kernel_rfl)
    (of_decide_eq_true (by kernel_rfl)) (by unfold Func.isWrapper; first | (rw [if_pos (by decide +kernel)]; kernel_rfl) | (rw [if_neg (by decide +kernel)]; exact ⟨rfl, rfl⟩))
    (fun os started H enc _ => planWhys_lifted os started H enc)

theorem planWhys_card : Rows.PlanWhysCardSaid :=
  Claim7.holds_tied_plain_at .later [] [.widerDeep] true (true, "c812bd16461893b59ff1c9b11575473a3dd7f925cadaefe779c83152ab813434") false
    planWhys_holds (fun _ h => by cases h) (by kernel_rfl) (fun _ h => by cases h) planWhys_row_tie rfl ⟨rfl, rfl⟩ (by kernel_rfl) rfl
    (fun f fn hf hfn => by
      obtain rfl : f = 9 := Option.some.inj ((show Tryd.prog.funcNamed "windrose/windroselaw20.PlanWhys" = some 9 by kernel_rfl).symm.trans hf) |>.symm
      obtain rfl : fn = Tryd.f9 := (Option.some.inj (Tryd.func9.symm.trans hfn)).symm
      exact ⟨by kernel_rfl, fun j t ht => by
        rw [Tryd.params9] at ht
        have hm : t ∈ [59, 60, 61] := by simpa using Array.mem_of_getElem? ht
        have hall : ([59, 60, 61].all fun u => !Tryd.prog.wantsStandIn u) = true := by kernel_rfl
        exact (show Tryd.prog.wantsStandIn t = false by simpa using List.all_eq_true.1 hall t hm)⟩)
    (by kernel_rfl)
end Go.Proofs.YtmhoclmjgjopfaaDoor
