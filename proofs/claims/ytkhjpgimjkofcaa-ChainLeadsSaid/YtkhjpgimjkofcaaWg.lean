/- WG: ways in their order, and who is asked; in plain Lean. -/
import Derived.Test.YtkhjpgimjkofcaaWf
set_option linter.unusedVariables false
set_option linter.unusedSimpArgs false
namespace Go.SX
open Go

def lexB : List Int → List Int → Bool
  | a :: x, b :: y => if a = b then lexB x y else decide (a < b)
  | _, _ => false
/-- Is a way lesser than another one? -/
def lessB (a b : List Int) : Bool := if a.length = b.length then lexB a b else decide (a.length < b.length)
theorem lexB_irr : ∀ a : List Int, lexB a a = false
  | [] => rfl
  | x :: a => by simp [lexB, lexB_irr a]
theorem lexB_trans : ∀ {a b c : List Int}, lexB a b = true → lexB b c = true → lexB a c = true
  | [], _, _, h, _ => by simp [lexB] at h
  | _ :: _, [], _, h, _ => by simp [lexB] at h
  | _ :: _, _ :: _, [], _, k => by simp [lexB] at k
  | x :: a, y :: b, z :: c, h, k => by
    simp only [lexB] at h k ⊢
    by_cases e1 : x = y
    · rw [if_pos e1] at h
      by_cases e2 : y = z
      · rw [if_pos e2] at k; rw [if_pos (e1.trans e2)]; exact lexB_trans h k
      · rw [if_neg e2] at k; rw [if_neg (e1 ▸ e2)]; rw [e1]; exact k
    · rw [if_neg e1] at h
      have h1 := of_decide_eq_true h
      by_cases e2 : y = z
      · rw [if_neg (e2 ▸ e1)]; rw [← e2]; exact h
      · rw [if_neg e2] at k
        have k1 := of_decide_eq_true k
        rw [if_neg (by omega)]; exact decide_eq_true (by omega)
theorem lexB_asym {a b : List Int} (h : lexB a b = true) : lexB b a = false := by
  cases k : lexB b a with
  | false => rfl
  | true => have := lexB_trans h k; rw [lexB_irr] at this; cases this
theorem lexB_tri : ∀ {a b : List Int}, a.length = b.length → lexB a b = false → lexB b a = false → a = b
  | [], [], _, _, _ => rfl
  | [], _ :: _, h, _, _ => by simp at h
  | _ :: _, [], h, _, _ => by simp at h
  | x :: a, y :: b, h, h1, h2 => by
    simp only [lexB] at h1 h2
    by_cases e : x = y
    · rw [if_pos e] at h1; rw [if_pos e.symm] at h2
      rw [e, lexB_tri (by simpa using h) h1 h2]
    · rw [if_neg e] at h1; rw [if_neg (fun x => e x.symm)] at h2
      have h3 := of_decide_eq_false h1; have h4 := of_decide_eq_false h2; omega
theorem lexB_app : ∀ {a b x y : List Int}, lexB a b = true → lexB (a ++ x) (b ++ y) = true
  | [], _, _, _, h => by simp [lexB] at h
  | _ :: _, [], _, _, h => by simp [lexB] at h
  | p :: a, q :: b, x, y, h => by
    simp only [lexB, List.cons_append] at h ⊢
    by_cases e : p = q
    · rw [if_pos e] at h ⊢; exact lexB_app h
    · rw [if_neg e] at h ⊢; exact h
theorem lexB_same : ∀ (p : List Int) (v w : Int), lexB (p ++ [v]) (p ++ [w]) = decide (v < w)
  | [], v, w => by
    simp only [List.nil_append, lexB]
    by_cases e : v = w
    · rw [if_pos e]; exact (decide_eq_false (by omega)).symm
    · rw [if_neg e]
  | x :: p, v, w => by simp only [List.cons_append, lexB, if_true]; exact lexB_same p v w
theorem lexB_snoc : ∀ {a b : List Int} (v : Int), a.length = b.length → lexB (a ++ [v]) (b ++ [v]) = lexB a b
  | [], [], v, _ => by simp [lexB]
  | [], _ :: _, _, h => by simp at h
  | _ :: _, [], _, h => by simp at h
  | x :: a, y :: b, v, h => by
    simp only [List.cons_append, lexB]
    by_cases e : x = y
    · rw [if_pos e, if_pos e]; exact lexB_snoc v (by simpa using h)
    · rw [if_neg e, if_neg e]
theorem lessB_irr (a : List Int) : lessB a a = false := by unfold lessB; rw [if_pos rfl]; exact lexB_irr a
theorem lessB_len {a b : List Int} (h : a.length < b.length) : lessB a b = true := by unfold lessB; rw [if_neg (by omega)]; exact decide_eq_true h
theorem lessB_le {a b : List Int} (h : lessB a b = true) : a.length ≤ b.length := by
  unfold lessB at h
  split at h
  · omega
  · have := of_decide_eq_true h; omega
theorem lessB_not {a b : List Int} (h : b.length < a.length) : lessB a b = false := by
  cases k : lessB a b with
  | false => rfl
  | true => have := lessB_le k; omega
theorem lessB_trans {a b c : List Int} (h : lessB a b = true) (k : lessB b c = true) : lessB a c = true := by
  have h1 := lessB_le h; have k1 := lessB_le k
  by_cases e : a.length = c.length
  · unfold lessB at h k ⊢
    rw [if_pos (by omega)] at h k
    rw [if_pos e]
    exact lexB_trans h k
  · exact lessB_len (by omega)
theorem lessB_asym {a b : List Int} (h : lessB a b = true) : lessB b a = false := by
  cases k : lessB b a with
  | false => rfl
  | true => have := lessB_trans h k; rw [lessB_irr] at this; cases this
theorem lessB_tri {a b : List Int} (h : lessB a b = false) (k : lessB b a = false) : a = b := by
  have e : a.length = b.length := by
    rcases Nat.lt_trichotomy a.length b.length with h1 | h1 | h1
    · rw [lessB_len h1] at h; cases h
    · exact h1
    · rw [lessB_len h1] at k; cases k
  unfold lessB at h k
  rw [if_pos e] at h
  rw [if_pos e.symm] at k
  exact lexB_tri e h k
theorem lessB_app {a b : List Int} {v w : Int} (h : lessB a b = true) : lessB (a ++ [v]) (b ++ [w]) = true := by
  have h1 := lessB_le h
  by_cases e : a.length = b.length
  · unfold lessB at h ⊢
    rw [if_pos e] at h
    rw [if_pos (by simp [e])]
    exact lexB_app h
  · exact lessB_len (by simp; omega)
theorem lessB_same (p : List Int) {v w : Int} (h : v < w) : lessB (p ++ [v]) (p ++ [w]) = true := by
  unfold lessB
  rw [if_pos (by simp), lexB_same]
  exact decide_eq_true h
theorem lessB_snoc {a b : List Int} (v : Int) : lessB (a ++ [v]) (b ++ [v]) = lessB a b := by
  unfold lessB
  by_cases e : a.length = b.length
  · rw [if_pos (by simp [e]), if_pos e, lexB_snoc v e]
  · rw [if_neg (by simp [e]), if_neg e]; simp
theorem lessB_cons (x : Int) (a b : List Int) : lessB (x :: a) (x :: b) = lessB a b := by
  unfold lessB
  by_cases e : a.length = b.length
  · rw [if_pos (by simp [e]), if_pos e]; simp [lexB]
  · rw [if_neg (by simp [e]), if_neg e]; simp
/-- If b is not lesser than a, and c not than b, c is not lesser than a. -/
theorem lessB_le_trans {a b c : List Int} (h : lessB b a = false) (k : lessB c b = false) : lessB c a = false := by
  cases hc : lessB c a with
  | false => rfl
  | true =>
    cases hb : lessB a b with
    | true => rw [lessB_trans hc hb] at k; cases k
    | false => rw [lessB_tri hb h] at hc; rw [hc] at k; cases k
/-- A walk by links. -/
def Wk (to : Int → List Int) : List Int → Prop
  | [] => False
  | [_] => True
  | a :: b :: r => b ∈ to a ∧ Wk to (b :: r)
theorem lastI_cons {a b : Int} {r : List Int} : lastI (a :: b :: r) = lastI (b :: r) := by simp [lastI, List.getLast?_cons_cons]
theorem Wk.snoc {to : Int → List Int} : ∀ {p : List Int} {w : Int}, p ≠ [] → (Wk to (p ++ [w]) ↔ Wk to p ∧ w ∈ to (lastI p))
  | [], _, h => absurd rfl h
  | [a], w, _ => by
    show (w ∈ to a ∧ True) ↔ (True ∧ w ∈ to (lastI [a]))
    have : lastI [a] = a := rfl
    rw [this]
    exact ⟨fun h => ⟨trivial, h.1⟩, fun h => ⟨h.2, trivial⟩⟩
  | a :: b :: r, w, _ => by
    have ih := Wk.snoc (to := to) (p := b :: r) (w := w) (by simp)
    rw [lastI_cons]
    show (b ∈ to a ∧ Wk to ((b :: r) ++ [w])) ↔ ((b ∈ to a ∧ Wk to (b :: r)) ∧ w ∈ to (lastI (b :: r)))
    rw [ih]
    exact ⟨fun h => ⟨⟨h.1, h.2.1⟩, h.2.2⟩, fun h => ⟨h.1.1, h.1.2, h.2⟩⟩
theorem Wk.ne {to : Int → List Int} {p : List Int} (h : Wk to p) : p ≠ [] := by
  cases p with
  | nil => exact h.elim
  | cons _ _ => simp
/-- p is a way from a to z. -/
def Wy (to : Int → List Int) (a z : Int) (p : List Int) : Prop := Wk to p ∧ p.head? = some a ∧ lastI p = z
theorem Wy.one (to : Int → List Int) (a : Int) : Wy to a a [a] := ⟨trivial, rfl, rfl⟩
theorem Wy.snoc {to : Int → List Int} {a v w : Int} {p : List Int} (h : Wy to a v p) (hw : w ∈ to v) : Wy to a w (p ++ [w]) := by
  obtain ⟨h1, h2, h3⟩ := h
  have hn := h1.ne
  refine ⟨(Wk.snoc hn).2 ⟨h1, by rw [h3]; exact hw⟩, ?_, lastI_snoc _ _⟩
  cases p with
  | nil => exact absurd rfl hn
  | cons x r => exact h2
theorem Wy.cons {to : Int → List Int} {a v z : Int} {p : List Int} (h : Wy to v z p) (hv : v ∈ to a) : Wy to a z (a :: p) := by
  obtain ⟨h1, h2, h3⟩ := h
  cases p with
  | nil => exact h1.elim
  | cons x r =>
    injection h2 with h2
    subst h2
    exact ⟨⟨hv, h1⟩, rfl, by rw [lastI_cons]; exact h3⟩
theorem Wy.un {to : Int → List Int} {a z : Int} {p : List Int} (h : Wy to a z p) : (p = [a] ∧ z = a) ∨ ∃ v r, p = a :: v :: r ∧ v ∈ to a ∧ Wy to v z (v :: r) := by
  obtain ⟨h1, h2, h3⟩ := h
  cases p with
  | nil => exact h1.elim
  | cons x r =>
    injection h2 with h2
    subst h2
    cases r with
    | nil => exact .inl ⟨rfl, h3.symm⟩
    | cons v r => exact .inr ⟨v, r, rfl, h1.1, h1.2, rfl, by rw [← h3, lastI_cons]⟩
theorem Wy.unsnoc {to : Int → List Int} {a z : Int} {p : List Int} (h : Wy to a z p) : (p = [a] ∧ z = a) ∨ ∃ q v, p = q ++ [z] ∧ Wy to a v q ∧ z ∈ to v := by
  obtain ⟨h1, h2, h3⟩ := h
  have hn := h1.ne
  have e : p = p.dropLast ++ [p.getLast hn] := (List.dropLast_concat_getLast hn).symm
  have hz : p.getLast hn = z := by
    rw [← h3]; unfold lastI; rw [List.getLast?_eq_some_getLast hn]; rfl
  rw [hz] at e
  by_cases hq : p.dropLast = []
  · rw [hq] at e
    simp at e
    rw [e] at h2
    simp at h2
    exact .inl ⟨by rw [e, h2], h2⟩
  · rw [e] at h1
    have h4 := (Wk.snoc hq).1 h1
    refine .inr ⟨p.dropLast, lastI p.dropLast, e, ⟨h4.1, ?_, rfl⟩, h4.2⟩
    cases hd : p.dropLast with
    | nil => exact absurd hd hq
    | cons x r => rw [hd] at e; rw [e] at h2; exact h2
/-- The least way from a to z. -/
def Lst (to : Int → List Int) (a z : Int) (p : List Int) : Prop := Wy to a z p ∧ ∀ q, Wy to a z q → lessB q p = false
theorem Lst.uniq {to : Int → List Int} {a z : Int} {p q : List Int} (h : Lst to a z p) (k : Lst to a z q) : p = q := lessB_tri (k.2 p h.1) (h.2 q k.1)
/-- What holds at a round's head: pre are asked, q wait. -/
structure AI (to : Int → List Int) (a : Int) (pre : List (List Int)) (met : List Int) (q : List (List Int)) : Prop where
  sorted : (pre ++ q).Pairwise (fun x y => lessB x y = true)
  wk : ∀ p ∈ pre ++ q, Wk to p ∧ p.head? = some a
  hmet : met = (pre ++ q).map lastI
  nd : met.Nodup
  led : ∀ d ∈ pre, ∀ v ∈ to (lastI d), ∃ e ∈ pre ++ q, lastI e = v ∧ lessB (d ++ [v]) e = false
  from_ : ∀ e ∈ pre ++ q, e = [a] ∨ ∃ d ∈ pre, ∃ v, e = d ++ [v]
  fst : [a] ∈ pre ++ q
/-- What holds in a round: p is asked, us are gone through. -/
structure AJ (to : Int → List Int) (a : Int) (pre : List (List Int)) (p : List Int) (us : List Int) (s : AskS) (rest : List (List Int)) : Prop where
  sorted : (pre ++ p :: s.2).Pairwise (fun x y => lessB x y = true)
  wk : ∀ e ∈ pre ++ p :: s.2, Wk to e ∧ e.head? = some a
  met : s.1 = (pre ++ p :: s.2).map lastI
  nd : s.1.Nodup
  led : ∀ d ∈ pre, ∀ v ∈ to (lastI d), ∃ e ∈ pre ++ p :: s.2, lastI e = v ∧ lessB (d ++ [v]) e = false
  ledp : ∀ v ∈ us, ∃ e ∈ pre ++ p :: s.2, lastI e = v ∧ lessB (p ++ [v]) e = false
  from_ : ∀ e ∈ pre ++ p :: s.2, e = [a] ∨ (∃ d ∈ pre, ∃ v, e = d ++ [v]) ∨ ∃ v ∈ us, e = p ++ [v]
  fst : [a] ∈ pre ++ p :: s.2
theorem AJ.step {to : Int → List Int} {a : Int} {pre : List (List Int)} {p us : List Int} {s : AskS} {rest : List (List Int)} {w : Int} (h : AJ to a pre p us s rest) (hw : w ∈ to (lastI p)) (hus : ∀ u ∈ us, u < w) :
    AJ to a pre p (us ++ [w]) (askStep p s w) rest := by
  have hp := h.wk p (by simp)
  have hpn := hp.1.ne
  have hpl : 0 < p.length := List.length_pos_iff.2 hpn
  have hdp : ∀ d ∈ pre, lessB d p = true := fun d hd => (List.pairwise_append.1 h.sorted).2.2 d hd p (List.mem_cons_self ..)
  unfold askStep
  by_cases hm : w ∈ s.1
  · rw [if_pos hm]
    refine ⟨h.sorted, h.wk, h.met, h.nd, h.led, fun v hv => ?_, fun e he => ?_, h.fst⟩
    · rcases List.mem_append.1 hv with hv | hv
      · exact h.ledp v hv
      · simp at hv; subst hv
        rw [h.met] at hm
        obtain ⟨e, he, hl⟩ := List.mem_map.1 hm
        refine ⟨e, he, hl, ?_⟩
        rcases h.from_ e he with rfl | ⟨d, hd, x, rfl⟩ | ⟨x, hx, rfl⟩
        · exact lessB_not (by simp; omega)
        · rw [lastI_snoc] at hl; subst hl
          exact lessB_asym (lessB_app (hdp d hd))
        · rw [lastI_snoc] at hl; subst hl
          exact lessB_irr _
    · rcases h.from_ e he with h1 | h1 | ⟨x, hx, h1⟩
      · exact .inl h1
      · exact .inr (.inl h1)
      · exact .inr (.inr ⟨x, List.mem_append_left _ hx, h1⟩)
  · rw [if_neg hm]
    have hin : ∀ e, e ∈ pre ++ p :: s.2 → e ∈ pre ++ p :: (s.2 ++ [p ++ [w]]) := fun e he => by
      rcases List.mem_append.1 he with he | he
      · exact List.mem_append_left _ he
      · refine List.mem_append_right _ ?_
        rcases List.mem_cons.1 he with rfl | he
        · exact List.mem_cons_self ..
        · exact List.mem_cons_of_mem _ (List.mem_append_left _ he)
    have hcase : ∀ e, e ∈ pre ++ p :: (s.2 ++ [p ++ [w]]) → e ∈ pre ++ p :: s.2 ∨ e = p ++ [w] := fun e he => by
      rcases List.mem_append.1 he with he | he
      · exact .inl (List.mem_append_left _ he)
      · rcases List.mem_cons.1 he with rfl | he
        · exact .inl (by simp)
        · rcases List.mem_append.1 he with he | he
          · exact .inl (List.mem_append_right _ (List.mem_cons_of_mem _ he))
          · exact .inr (by simpa using he)
    have hnew : p ++ [w] ∈ pre ++ p :: (s.2 ++ [p ++ [w]]) := by simp
    have heq : pre ++ p :: (s.2 ++ [p ++ [w]]) = (pre ++ p :: s.2) ++ [p ++ [w]] := by simp
    refine ⟨?_, fun e he => ?_, ?_, ?_, fun d hd v hv => ?_, fun v hv => ?_, fun e he => ?_, hin _ h.fst⟩
    · show (pre ++ p :: (s.2 ++ [p ++ [w]])).Pairwise _
      rw [heq]
      refine List.pairwise_append.2 ⟨h.sorted, List.pairwise_singleton _ _, fun e he y hy => ?_⟩
      simp at hy; subst hy
      rcases h.from_ e he with rfl | ⟨d, hd, x, rfl⟩ | ⟨x, hx, rfl⟩
      · exact lessB_len (by simp; omega)
      · exact lessB_app (hdp d hd)
      · exact lessB_same p (hus x hx)
    · rcases hcase e he with he | rfl
      · exact h.wk e he
      · refine ⟨(Wk.snoc hpn).2 ⟨hp.1, hw⟩, ?_⟩
        cases p with
        | nil => exact absurd rfl hpn
        | cons x r => exact hp.2
    · show s.1 ++ [w] = (pre ++ p :: (s.2 ++ [p ++ [w]])).map lastI
      rw [heq, List.map_append, ← h.met]; simp [lastI_snoc]
    · show (s.1 ++ [w]).Nodup
      refine List.nodup_append.2 ⟨h.nd, by simp, fun x hx y hy => ?_⟩
      simp at hy; subst hy
      exact fun e => hm (e ▸ hx)
    · obtain ⟨e, he, h1⟩ := h.led d hd v hv
      exact ⟨e, hin e he, h1⟩
    · rcases List.mem_append.1 hv with hv | hv
      · obtain ⟨e, he, h1⟩ := h.ledp v hv
        exact ⟨e, hin e he, h1⟩
      · simp at hv; subst hv
        exact ⟨_, hnew, lastI_snoc _ _, lessB_irr _⟩
    · rcases hcase e he with he | rfl
      · rcases h.from_ e he with h1 | h1 | ⟨x, hx, h1⟩
        · exact .inl h1
        · exact .inr (.inl h1)
        · exact .inr (.inr ⟨x, List.mem_append_left _ hx, h1⟩)
      · exact .inr (.inr ⟨w, List.mem_append_right _ (by simp), rfl⟩)
theorem AJ.fold {to : Int → List Int} {a : Int} {pre : List (List Int)} {p : List Int} {rest : List (List Int)} : ∀ (ws us : List Int) (s : AskS), AJ to a pre p us s rest → Up (us ++ ws) → (∀ w ∈ ws, w ∈ to (lastI p)) → AJ to a pre p (us ++ ws) (askIn p ws s) rest
  | [], us, s, h, _, _ => by rw [List.append_nil]; exact h
  | w :: ws, us, s, h, hu, hw => by
    have h1 := h.step (w := w) (hw w (List.mem_cons_self ..)) (fun u hx => (List.pairwise_append.1 hu).2.2 u hx w (List.mem_cons_self ..))
    have := AJ.fold ws (us ++ [w]) (askStep p s w) h1 (by simpa using hu) (fun x hx => hw x (List.mem_cons_of_mem _ hx))
    have e : us ++ w :: ws = us ++ [w] ++ ws := by simp
    rw [e]; exact this
theorem AI.go {to : Int → List Int} {a : Int} {pre : List (List Int)} {met p : List Int} {q : List (List Int)} (hup : Up (to (lastI p))) (h : AI to a pre met (p :: q)) :
    AI to a (pre ++ [p]) (askIn p (to (lastI p)) (met, q)).1 (askIn p (to (lastI p)) (met, q)).2 := by
  have hj : AJ to a pre p [] (met, q) q := ⟨h.sorted, h.wk, h.hmet, h.nd, h.led, fun v hv => (by cases hv), fun e he => (h.from_ e he).imp id .inl, h.fst⟩
  have hk := AJ.fold (to (lastI p)) [] _ hj (by simpa using hup) (fun w hw => hw)
  rw [List.nil_append] at hk
  have heq : ∀ l : List (List Int), (pre ++ [p]) ++ l = pre ++ p :: l := fun l => by simp
  refine ⟨by rw [heq]; exact hk.sorted, by rw [heq]; exact hk.wk, by rw [heq]; exact hk.met, hk.nd, fun d hd v hv => ?_, fun e he => ?_, by rw [heq]; exact hk.fst⟩
  · rw [heq]
    rcases List.mem_append.1 hd with hd | hd
    · exact hk.led d hd v hv
    · simp at hd; subst hd; exact hk.ledp v hv
  · rw [heq] at he
    rcases hk.from_ e he with h1 | ⟨d, hd, v, h1⟩ | ⟨v, hv, h1⟩
    · exact .inl h1
    · exact .inr ⟨d, List.mem_append_left _ hd, v, h1⟩
    · exact .inr ⟨p, by simp, v, h1⟩
theorem AI.start (to : Int → List Int) (a : Int) : AI to a [] [a] [[a]] :=
  ⟨by simp, fun p hp => by simp at hp; subst hp; exact ⟨trivial, rfl⟩, rfl, by simp, fun d hd => (by cases hd), fun e he => .inl (by simpa using he), by simp⟩
theorem AI.run {to : Int → List Int} {a : Int} (hup : ∀ v, Up (to v)) (u : List Int) (hu : ∀ v, ∀ w ∈ to v, w ∈ u) : ∀ (n : Nat) (pre : List (List Int)) (met : List Int) (q : List (List Int)), q.length + unmet u met < n → AI to a pre met q →
    ∃ met', AI to a (pre ++ askGo to n (met, q)) met' []
  | 0, _, _, _, h, _ => by omega
  | n + 1, pre, met, [], _, h => ⟨met, by simpa [askGo] using h⟩
  | n + 1, pre, met, p :: q, hn, h => by
    have hb := askIn_bound u (p := p) (ws := to (lastI p)) (s := (met, q)) (fun w hw => hu _ w hw)
    simp only [List.length_cons] at hn hb
    obtain ⟨met', h1⟩ := AI.run hup u hu n (pre ++ [p]) _ _ (by omega) (h.go (hup _))
    exact ⟨met', by rw [askGo]; simpa using h1⟩
end Go.SX
