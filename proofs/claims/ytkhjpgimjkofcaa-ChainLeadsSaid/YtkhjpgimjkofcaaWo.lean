/- WO: the waves of chain are the reference's; whom they reach; in plain Lean. -/
import Derived.Test.YtkhjpgimjkofcaaWn
set_option linter.unusedVariables false
set_option linter.unusedSimpArgs false
namespace Go.SX
open Go
theorem sortI_nil : sortI [] = [] := by simp [sortI]
theorem sortI_one (a : Int) : sortI [a] = [a] := by simp [sortI]
theorem up_ext : ∀ {l m : List Int}, Up l → Up m → (∀ x, x ∈ l ↔ x ∈ m) → l = m
  | [], [], _, _, _ => rfl
  | [], y :: m, _, _, h => by have := (h y).2 (List.mem_cons_self ..); cases this
  | x :: l, [], _, _, h => by have := (h x).1 (List.mem_cons_self ..); cases this
  | x :: l, y :: m, hl, hm, h => by
    have hl := List.pairwise_cons.1 hl
    have hm := List.pairwise_cons.1 hm
    have hxy : x = y := by
      rcases List.mem_cons.1 ((h x).1 (List.mem_cons_self ..)) with e | h1
      · exact e
      · rcases List.mem_cons.1 ((h y).2 (List.mem_cons_self ..)) with e | h2
        · exact e.symm
        · have := hl.1 y h2; have := hm.1 x h1; omega
    subst hxy
    rw [up_ext hl.2 hm.2 (fun z => ?_)]
    have hz := h z
    constructor
    · intro hzl
      rcases List.mem_cons.1 (hz.1 (List.mem_cons_of_mem _ hzl)) with e | h1
      · have h2 := hl.1 z hzl; omega
      · exact h1
    · intro hzm
      rcases List.mem_cons.1 (hz.2 (List.mem_cons_of_mem _ hzm)) with e | h1
      · have h2 := hm.1 z hzm; omega
      · exact h1
/-- There is but one row of waves. -/
theorem WA.uniq {to : Int → List Int} {a : Int} {ws vs : List (List Int)} (h : WA to a ws) (k : WA to a vs) : ws = vs := by
  apply List.ext_getElem?
  intro i
  cases hw : ws[i]? with
  | none =>
    cases hv : vs[i]? with
    | none => rfl
    | some v =>
      obtain ⟨x, hx⟩ := List.exists_mem_of_ne_nil _ (k.up v (List.mem_of_getElem? hv)).2
      obtain ⟨w, h1, _⟩ := (h.lv i x).2 ((k.lv i x).1 ⟨v, hv, hx⟩)
      rw [hw] at h1; cases h1
  | some w =>
    obtain ⟨x, hx⟩ := List.exists_mem_of_ne_nil _ (h.up w (List.mem_of_getElem? hw)).2
    obtain ⟨v, hv, _⟩ := (k.lv i x).2 ((h.lv i x).1 ⟨w, hw, hx⟩)
    rw [hv]
    congr 1
    refine up_ext (h.up w (List.mem_of_getElem? hw)).1 (k.up v (List.mem_of_getElem? hv)).1 (fun y => ⟨fun hy => ?_, fun hy => ?_⟩)
    · obtain ⟨v', h1, h2⟩ := (k.lv i y).2 ((h.lv i y).1 ⟨w, hw, hy⟩)
      rw [hv] at h1; injection h1 with h1; exact h1 ▸ h2
    · obtain ⟨w', h1, h2⟩ := (h.lv i y).2 ((k.lv i y).1 ⟨v, hv, hy⟩)
      rw [hw] at h1; injection h1 with h1; exact h1 ▸ h2
/-- What a meeting leaves behind: s2 holds the new ones, each once. -/
structure MF (s0 s : MS) (P : Int → Prop) : Prop where
  met : ∀ x, x ∈ s.1 ↔ x ∈ s0.1 ∨ x ∈ s.2
  new : ∀ x, x ∈ s.2 ↔ P x ∧ x ∉ s0.1
  nd : s.2.Nodup
theorem MF.one {s0 s : MS} {P : Int → Prop} (h : MF s0 s P) (y : Int) : MF s0 (meetS s y) (fun x => P x ∨ x = y) := by
  unfold meetS
  by_cases hy : y ∈ s.1
  · rw [if_pos hy]
    refine ⟨h.met, fun x => ?_, h.nd⟩
    rw [h.new]
    constructor
    · rintro ⟨h1, h2⟩; exact ⟨.inl h1, h2⟩
    · rintro ⟨h1 | h1, h2⟩
      · exact ⟨h1, h2⟩
      · subst h1
        rcases (h.met x).1 hy with h3 | h3
        · exact absurd h3 h2
        · exact (h.new x).1 h3
  · rw [if_neg hy]
    have hy0 : y ∉ s0.1 := fun e => hy ((h.met y).2 (.inl e))
    have hy2 : y ∉ s.2 := fun e => hy ((h.met y).2 (.inr e))
    refine ⟨fun x => ?_, fun x => ?_, ?_⟩
    · simp only [List.mem_append, List.mem_singleton, h.met x]
      constructor
      · rintro ((h1 | h1) | h1)
        · exact .inl h1
        · exact .inr (.inl h1)
        · exact .inr (.inr h1)
      · rintro (h1 | h1 | h1)
        · exact .inl (.inl h1)
        · exact .inl (.inr h1)
        · exact .inr h1
    · simp only [List.mem_append, List.mem_singleton, h.new x]
      constructor
      · rintro (⟨h1, h2⟩ | h1)
        · exact ⟨.inl h1, h2⟩
        · subst h1; exact ⟨.inr rfl, hy0⟩
      · rintro ⟨h1 | h1, h2⟩
        · exact .inl ⟨h1, h2⟩
        · exact .inr h1
    · refine List.nodup_append.2 ⟨h.nd, by simp, fun x hx z hz => ?_⟩
      simp at hz; subst hz
      exact fun e => hy2 (e ▸ hx)
theorem MF.congr {s0 s : MS} {P Q : Int → Prop} (h : MF s0 s P) (hq : ∀ x, P x ↔ Q x) : MF s0 s Q := ⟨h.met, fun x => by rw [h.new, hq], h.nd⟩
theorem MF.list {s0 : MS} : ∀ {ws : List Int} {s : MS} {P : Int → Prop}, MF s0 s P → MF s0 (meetL ws s) (fun x => P x ∨ x ∈ ws)
  | [], s, P, h => h.congr (fun x => by simp)
  | w :: ws, s, P, h => by
    refine (MF.list (ws := ws) (h.one w)).congr (fun x => ?_)
    simp only [List.mem_cons, or_assoc]
theorem MF.all {s0 : MS} {f : Int → List Int} : ∀ {vs : List Int} {s : MS} {P : Int → Prop}, MF s0 s P → MF s0 (meetA f vs s) (fun x => P x ∨ ∃ v ∈ vs, x ∈ f v)
  | [], s, P, h => h.congr (fun x => by simp)
  | v :: vs, s, P, h => by
    refine (MF.all (vs := vs) (h.list (ws := f v))).congr (fun x => ?_)
    constructor
    · rintro ((h1 | h1) | ⟨u, h1, h2⟩)
      · exact .inl h1
      · exact .inr ⟨v, List.mem_cons_self .., h1⟩
      · exact .inr ⟨u, List.mem_cons_of_mem _ h1, h2⟩
    · rintro (h1 | ⟨u, h1, h2⟩)
      · exact .inl (.inl h1)
      · rcases List.mem_cons.1 h1 with rfl | h1
        · exact .inl (.inr h2)
        · exact .inr ⟨u, h1, h2⟩
theorem MF.start (met : List Int) : MF (met, []) (met, []) (fun _ => False) := ⟨fun x => by simp, fun x => by simp, List.nodup_nil⟩
theorem meetA_mf (f : Int → List Int) (vs met : List Int) : MF (met, []) (meetA f vs (met, [])) (fun x => ∃ v ∈ vs, x ∈ f v) := (MF.start met).all.congr (fun x => by simp)
theorem sortI_up {xs : List Int} (h : xs.Nodup) : Up (sortI xs) := by
  have h1 := sortI_sorted xs
  have h2 : (sortI xs).Nodup := (sortI_perm xs).nodup_iff.2 h
  exact h1.imp₂ (fun a b h3 h4 => by omega) h2
theorem sortI_mem {xs : List Int} {x : Int} : x ∈ sortI xs ↔ x ∈ xs := (sortI_perm xs).mem_iff
theorem wGo_all {to : Int → List Int} {a : Int} (u : List Int) (hu : ∀ v, ∀ w ∈ to v, w ∈ u) : ∀ (n : Nat) (outs : List (List Int)) (met wave : List Int), wave.length + unmet u met < n → (wave = [] → WA to a outs) → (wave ≠ [] → WF to a (outs ++ [sortI wave]) met (sortI wave)) →
    WA to a (outs ++ wGo to n (met, wave))
  | 0, _, _, _, h, _, _ => by omega
  | n + 1, outs, met, wave, hn, h0, h1 => by
    rw [wGo]
    by_cases hw : wave = []
    · rw [if_pos hw, List.append_nil]; exact h0 hw
    · rw [if_neg hw]
      have hF := h1 hw
      have hM := meetA_mf to (sortI wave) met
      have hb := meetA_bound u hu (vs := sortI wave) (s := (met, []))
      have hp : 0 < wave.length := List.length_pos_iff.2 hw
      simp only [List.length_nil] at hb
      have hnx : nextL to met (sortI wave) = sortI (meetA to (sortI wave) (met, [])).2 := up_ext (nextL_up _ _ _) (sortI_up hM.nd) (fun x => by rw [nextL_mem, sortI_mem, hM.new])
      have := wGo_all u hu n (outs ++ [sortI wave]) (meetA to (sortI wave) (met, [])).1 (meetA to (sortI wave) (met, [])).2 (by omega) (fun h2 => hF.stop (by rw [hnx, h2]; exact sortI_nil)) (fun h2 => by
        have h3 := hF.go (by rw [hnx]; exact sortI_ne h2)
        rw [hnx] at h3
        refine ⟨h3.lv, fun x => ?_, h3.hlast, h3.up, h3.ne⟩
        rw [← h3.hmet, hM.met, List.mem_append, sortI_mem])
      simpa using this
theorem wavesW_eq (b : Bool) (xs : List Lk) (a : Int) : wavesW (tbL b xs) xs.length [a] = wavesL b xs a := by
  refine WA.uniq (to := tbL b xs) (a := a) ?_ (wavesL_all b xs a)
  have h := wGo_all (to := tbL b xs) (a := a) (endsL b xs) (fun v w hw => tb_mem hw) (xs.length + [a].length + 1) [] [a] [a] (by
    have : unmet (endsL b xs) [a] ≤ (endsL b xs).length := List.countP_le_length
    rw [ends_len] at this; simp; omega) (fun h => by cases h) (fun _ => by rw [sortI_one]; exact WF.start _ a)
  exact h
/-- Who is reached from some. -/
theorem wGo_reach {to : Int → List Int} (u : List Int) (hu : ∀ v, ∀ w ∈ to v, w ∈ u) (R : Int → Prop) (hR : ∀ v w, R v → w ∈ to v → R w) : ∀ (n : Nat) (outs : List (List Int)) (met wave : List Int), wave.length + unmet u met < n →
    (∀ x, x ∈ met ↔ x ∈ outs.flatten ∨ x ∈ wave) → (∀ x ∈ met, R x) → (∀ v ∈ outs.flatten, ∀ w ∈ to v, w ∈ met) →
    (∀ x ∈ met, x ∈ (outs ++ wGo to n (met, wave)).flatten) ∧ (∀ x ∈ (outs ++ wGo to n (met, wave)).flatten, R x) ∧ (∀ v ∈ (outs ++ wGo to n (met, wave)).flatten, ∀ w ∈ to v, w ∈ (outs ++ wGo to n (met, wave)).flatten)
  | 0, _, _, _, h, _, _, _ => by omega
  | n + 1, outs, met, wave, hn, h1, h2, h3 => by
    rw [wGo]
    by_cases hw : wave = []
    · rw [if_pos hw, List.append_nil]
      subst hw
      have h4 : ∀ x, x ∈ met ↔ x ∈ outs.flatten := fun x => by rw [h1]; simp
      exact ⟨fun x hx => (h4 x).1 hx, fun x hx => h2 x ((h4 x).2 hx), fun v hv w hw => (h4 w).1 (h3 v hv w hw)⟩
    · rw [if_neg hw]
      have hM := meetA_mf to (sortI wave) met
      have hb := meetA_bound u hu (vs := sortI wave) (s := (met, []))
      have hp : 0 < wave.length := List.length_pos_iff.2 hw
      simp only [List.length_nil] at hb
      obtain ⟨k1, k2, k3⟩ := wGo_reach u hu R hR n (outs ++ [sortI wave]) (meetA to (sortI wave) (met, [])).1 (meetA to (sortI wave) (met, [])).2 (by omega)
        (fun x => by rw [hM.met]; simp only [List.flatten_append, List.flatten_cons, List.flatten_nil, List.append_nil, List.mem_append, sortI_mem]; rw [h1])
        (fun x hx => by
          rcases (hM.met x).1 hx with h4 | h4
          · exact h2 x h4
          · obtain ⟨⟨v, hv, hxv⟩, _⟩ := (hM.new x).1 h4
            exact hR v x (h2 v ((h1 v).2 (.inr (sortI_mem.1 hv)))) hxv)
        (fun v hv w hwv => by
          simp only [List.flatten_append, List.flatten_cons, List.flatten_nil, List.append_nil, List.mem_append] at hv
          rcases hv with hv | hv
          · exact (hM.met w).2 (.inl (h3 v hv w hwv))
          · by_cases hm : w ∈ met
            · exact (hM.met w).2 (.inl hm)
            · exact (hM.met w).2 (.inr ((hM.new w).2 ⟨⟨v, hv, hwv⟩, hm⟩)))
      have e : outs ++ [sortI wave] ++ wGo to n (meetA to (sortI wave) (met, [])) = outs ++ sortI wave :: wGo to n (meetA to (sortI wave) (met, [])) := by simp
      rw [e] at k1 k2 k3
      exact ⟨fun x hx => k1 x ((hM.met x).2 (.inl hx)), k2, k3⟩
theorem wavesW_reach {to : Int → List Int} (u : List Int) (hu : ∀ v, ∀ w ∈ to v, w ∈ u) (first : List Int) (z : Int) : z ∈ (wavesW to u.length first).flatten ↔ ∃ v ∈ first, ∃ p, Wy to v z p := by
  have hM := (MF.start []).list (ws := first)
  have h1 : unmet u (meetL first ([], [])).1 ≤ u.length := List.countP_le_length
  have h2 := meetL_len first ([], [])
  simp only [List.length_nil] at h2
  have hin : ∀ x, x ∈ (meetL first ([], [])).2 ↔ x ∈ first := fun x => by rw [hM.new]; simp
  have hmet : ∀ x, x ∈ (meetL first ([], [])).1 ↔ x ∈ first := fun x => by rw [hM.met, hin]; simp
  obtain ⟨k1, k2, k3⟩ := wGo_reach u hu (fun z => ∃ v ∈ first, ∃ p, Wy to v z p) (fun v w ⟨x, hx, p, hp⟩ hw => ⟨x, hx, _, hp.snoc hw⟩) (u.length + first.length + 1) [] (meetL first ([], [])).1 (meetL first ([], [])).2 (by omega)
    (fun x => by rw [hmet, hin]; simp) (fun x hx => ⟨x, (hmet x).1 hx, [x], Wy.one to x⟩) (fun v hv => by simp at hv)
  have e : ([] : List (List Int)) ++ wGo to (u.length + first.length + 1) ((meetL first ([], [])).1, (meetL first ([], [])).2) = wavesW to u.length first := rfl
  rw [e] at k1 k2 k3
  refine ⟨k2 z, fun ⟨v, hv, p, hp⟩ => ?_⟩
  have hv0 := k1 v ((hmet v).2 hv)
  have key : ∀ (n : Nat) (z : Int) (p : List Int), p.length = n → Wy to v z p → z ∈ (wavesW to u.length first).flatten := by
    intro n
    induction n with
    | zero => intro z p hl hp; exact absurd (List.length_eq_zero_iff.1 hl) hp.1.ne
    | succ n ih =>
      intro z p hl hp
      rcases hp.unsnoc with ⟨_, rfl⟩ | ⟨q, y, rfl, hq, hz⟩
      · exact hv0
      · exact k3 y (ih y q (by simpa using hl) hq) z hz
  exact key _ z p rfl hp
/-- Whether one leads to another. -/
theorem leads_iff {xs : List Lk} {a z : Int} : leadsR xs a z = true ↔ ∃ v ∈ toL xs a, ∃ p, Wy (toL xs) v z p := by
  have h := wavesW_reach (to := toL xs) (endsL false xs) (fun v w hw => to_mem hw) (toL xs a) z
  rw [ends_len] at h
  rw [← h]
  unfold leadsR
  rw [List.any_eq_true]
  constructor
  · rintro ⟨w, hw, h1⟩
    obtain ⟨y, hy, e⟩ := List.any_eq_true.1 h1
    exact List.mem_flatten.2 ⟨w, hw, of_decide_eq_true e ▸ hy⟩
  · intro h1
    obtain ⟨w, hw, hz⟩ := List.mem_flatten.1 h1
    exact ⟨w, hw, List.any_eq_true.2 ⟨z, hz, by simp⟩⟩
theorem leads_way {xs : List Lk} {a z : Int} : (leadsR xs a z = true ∨ z = a) ↔ ∃ p, Wy (toL xs) a z p := by
  rw [leads_iff]
  constructor
  · rintro (⟨v, hv, p, hp⟩ | rfl)
    · exact ⟨_, hp.cons hv⟩
    · exact ⟨_, Wy.one _ _⟩
  · rintro ⟨p, hp⟩
    rcases hp.un with ⟨_, h⟩ | ⟨v, r, rfl, hv, h⟩
    · exact .inr h
    · exact .inl ⟨v, hv, _, h⟩
end Go.SX
namespace Go.SX
theorem sorted_get {xs : List Int} (h : xs.Pairwise (· ≤ ·)) {i j : Nat} {a b : Int} (hi : xs[i]? = some a) (hj : xs[j]? = some b) (hij : i < j) : a ≤ b := by
  obtain ⟨h1, rfl⟩ := List.getElem?_eq_some_iff.1 hi
  obtain ⟨h2, rfl⟩ := List.getElem?_eq_some_iff.1 hj
  exact (List.pairwise_iff_getElem.1 h) i j h1 h2 hij
end Go.SX
