/- WQ: whether there is a ring: what chain.Round does; in plain Lean. -/
import Derived.Test.YtkhjpgimjkofcaaWp
import Derived.Test.YtkhjpgimjkofcaaSxE
set_option linter.unusedVariables false
set_option linter.unusedSimpArgs false
namespace Go.SX
open Go
/-- The map counts: c of each of K. -/
def CntIs (m : MapL) (c : Int → Int) (K : Int → Prop) : Prop := (m.map Prod.fst).Nodup ∧ (∀ k, k ∈ m.map Prod.fst ↔ K k) ∧ ∀ k, (mget m k).getD (.int .i64 0) = .int .i64 (c k)
theorem CntIs.nil : CntIs [] (fun _ => 0) (fun _ => False) := ⟨by simp, fun k => by simp, fun k => rfl⟩
theorem CntIs.put {m : MapL} {c : Int → Int} {K : Int → Prop} (h : CntIs m c K) (k n : Int) : CntIs (mput m k (.int .i64 n)) (fun j => if j = k then n else c j) (fun j => j = k ∨ K j) := by
  obtain ⟨h1, h2, h3⟩ := h
  refine ⟨mput_nodup _ _ _ h1, fun j => by rw [mput_keys, h2], fun j => ?_⟩
  rw [mget_mput]
  by_cases e : j = k
  · rw [if_pos e]; simp [e]
  · rw [if_neg e, h3]; simp [e]
theorem CntIs.congr {m : MapL} {c c' : Int → Int} {K K' : Int → Prop} (h : CntIs m c K) (hc : ∀ k, c k = c' k) (hK : ∀ k, K k ↔ K' k) : CntIs m c' K' := ⟨h.1, fun k => (h.2.1 k).trans (hK k), fun k => by rw [h.2.2, hc]⟩
/-- How many links lead from w to those that are not in R. -/
def dg (xs : List Lk) (R : List Int) (w : Int) : Nat := xs.countP (fun y => decide (y.1 = w) && !decide (y.2 ∈ R))
def isV (xs : List Lk) (k : Int) : Prop := ∃ y ∈ xs, y.1 = k ∨ y.2 = k
def cntN (xs : List Lk) (i : Nat) (k : Int) : Int := ((xs.take i).countP (fun y => decide (y.1 = k)) : Nat)
theorem cnt_step {xs : List Lk} {i : Nat} {y : Lk} {m : MapL} (hy : xs[i]? = some y) (h : CntIs m (cntN xs i) (isV (xs.take i))) :
    CntIs (mput (mput m y.1 (.int .i64 (cntN xs i y.1 + 1))) y.2 (.int .i64 ((if y.2 = y.1 then cntN xs i y.1 + 1 else cntN xs i y.2) + 0))) (cntN xs (i + 1)) (isV (xs.take (i + 1))) := by
  refine ((h.put y.1 _).put y.2 _).congr (fun k => ?_) (fun k => ?_)
  · have e : cntN xs (i + 1) k = cntN xs i k + (if y.1 = k then 1 else 0) := by
      unfold cntN
      rw [take_snoc _ _ _ hy, List.countP_append]
      by_cases h : y.1 = k
      · simp [h]
      · simp [h]
    rw [e]
    by_cases h2 : k = y.2
    · subst h2
      by_cases h1 : y.2 = y.1
      · simp [h1]
      · simp [h1, Ne.symm h1]
    · by_cases h1 : k = y.1
      · subst h1; simp [h2]
      · simp [h2, h1, Ne.symm h1]
  · unfold isV
    rw [take_snoc _ _ _ hy]
    constructor
    · rintro (rfl | rfl | ⟨z, hz, h1⟩)
      · exact ⟨y, by simp, .inr rfl⟩
      · exact ⟨y, by simp, .inl rfl⟩
      · exact ⟨z, List.mem_append_left _ hz, h1⟩
    · rintro ⟨z, hz, h1⟩
      rcases List.mem_append.1 hz with hz | hz
      · exact .inr (.inr ⟨z, hz, h1⟩)
      · simp at hz; subst hz
        rcases h1 with h1 | h1
        · exact .inr (.inl h1.symm)
        · exact .inl h1.symm
theorem cntN_le (xs : List Lk) (i : Nat) (k : Int) : 0 ≤ cntN xs i k ∧ cntN xs i k ≤ xs.length := by
  unfold cntN
  have h1 := List.countP_le_length (p := fun y : Lk => decide (y.1 = k)) (l := xs.take i)
  simp at h1; omega
theorem cnt_all (xs : List Lk) (k : Int) : cntN xs xs.length k = dg xs [] k := by
  unfold cntN dg; rw [List.take_length]; simp
-- the map gone through
theorem map_entry {ik : IntKind} {es : Array MapEntry} {m : MapL} (h : MapIs ik es m) {e : MapEntry} (he : e ∈ es.toList) : ∃ q ∈ m, e.key = .int ik q.1 ∧ e.val = q.2 := by
  have h1 : (e.key, e.val) ∈ es.toList.map (fun e => (e.key, e.val)) := List.mem_map.2 ⟨e, he, rfl⟩
  rw [h] at h1
  obtain ⟨q, hq, h2⟩ := List.mem_map.1 h1
  injection h2 with h2 h3
  exact ⟨q, hq, h2.symm, h3.symm⟩
theorem mget_mem : ∀ {m : MapL} {q : Int × Value}, (m.map Prod.fst).Nodup → q ∈ m → mget m q.1 = some q.2
  | [], _, _, h => by cases h
  | r :: m, q, hn, h => by
    rw [List.map_cons, List.nodup_cons] at hn
    rcases List.mem_cons.1 h with rfl | h
    · exact mget_cons_eq rfl
    · have : r.1 ≠ q.1 := fun e => hn.1 (e ▸ List.mem_map.2 ⟨q, h, rfl⟩)
      rw [mget_cons_ne this]; exact mget_mem hn.2 h
theorem cnt_entry {es : Array MapEntry} {m : MapL} {c : Int → Int} {K : Int → Prop} (hi : MapIs .i64 es m) (h : CntIs m c K) {e : MapEntry} (he : e ∈ es.toList) : ∃ k, e.key = .int .i64 k ∧ e.val = .int .i64 (c k) ∧ K k := by
  obtain ⟨q, hq, h1, h2⟩ := map_entry hi he
  have h3 := mget_mem h.1 hq
  have h4 := h.2.2 q.1
  rw [h3] at h4
  exact ⟨q.1, h1, h2.trans h4, (h.2.1 q.1).1 (List.mem_map.2 ⟨q, hq, rfl⟩)⟩
theorem key_entry {es : Array MapEntry} {m : MapL} {c : Int → Int} {K : Int → Prop} (hi : MapIs .i64 es m) (h : CntIs m c K) {k : Int} (hk : K k) : ∃ e ∈ es.toList, e.key = .int .i64 k := by
  obtain ⟨q, hq, h1⟩ := List.mem_map.1 ((h.2.1 k).2 hk)
  have h2 : (Value.int .i64 q.1, q.2) ∈ m.map (fun q => (Value.int .i64 q.1, q.2)) := List.mem_map.2 ⟨q, hq, rfl⟩
  rw [← hi] at h2
  obtain ⟨e, he, h3⟩ := List.mem_map.1 h2
  injection h3 with h3 h4
  exact ⟨e, he, by rw [h3, h1]⟩
theorem same_born {es : Array MapEntry} {clock : Nat} {m : MapL} {c : Int → Int} {K : Int → Prop} (hi : MapIs .i64 es m) (hb : BornOk es clock) (h : CntIs m c K) {e f : MapEntry} (he : e ∈ es.toList) (hf : f ∈ es.toList) : e.born = f.born ↔ e.key = f.key := by
  obtain ⟨i, hi1⟩ := List.mem_iff_getElem?.1 he
  obtain ⟨j, hj1⟩ := List.mem_iff_getElem?.1 hf
  obtain ⟨h1, h2⟩ := List.getElem?_eq_some_iff.1 hi1
  obtain ⟨h3, h4⟩ := List.getElem?_eq_some_iff.1 hj1
  have hm : es.toList.length = m.length := by have := congrArg List.length hi; simpa using this
  have hbi : ∀ a b (ha : a < es.toList.length) (hb2 : b < es.toList.length), a < b → (es.toList[a]).born < (es.toList[b]).born := fun a b ha hb2 hab => by
    have := List.pairwise_iff_getElem.1 hb.1 a b (by simpa using ha) (by simpa using hb2) hab
    simpa using this
  have hki : ∀ a (ha : a < es.toList.length), (es.toList[a]).key = .int .i64 (m[a]'(by omega)).1 := fun a ha => by
    have := congrArg (fun l => l[a]?) hi
    simp only [List.getElem?_map, List.getElem?_eq_getElem ha, List.getElem?_eq_getElem (show a < m.length by omega), Option.map_some, Option.some.injEq, Prod.mk.injEq] at this
    exact this.1
  have hkn : ∀ a b (ha : a < es.toList.length) (hb2 : b < es.toList.length), a < b → (es.toList[a]).key ≠ (es.toList[b]).key := fun a b ha hb2 hab e => by
    rw [hki a ha, hki b hb2] at e
    injection e with _ e
    have := List.pairwise_iff_getElem.1 h.1 a b (by simp; omega) (by simp; omega) hab
    simp at this
    exact this e
  rcases Nat.lt_trichotomy i j with hij | hij | hij
  · constructor
    · intro e1; have := hbi i j h1 h3 hij; rw [h2, h4] at this; omega
    · intro e1; have := hkn i j h1 h3 hij; rw [h2, h4] at this; exact absurd e1 this
  · subst hij; rw [hi1] at hj1; injection hj1 with hj1; subst hj1; exact ⟨fun _ => rfl, fun _ => rfl⟩
  · constructor
    · intro e1; have := hbi j i h3 h1 hij; rw [h2, h4] at this; omega
    · intro e1; have := hkn j i h3 h1 hij; rw [h2, h4] at this; exact absurd e1.symm this
/-- What the iterator has seen: vk. -/
structure Seen (es : Array MapEntry) (K : Int → Prop) (sn : Array Nat) (vk : List Int) : Prop where
  eq : ∀ e ∈ es.toList, ∀ k, e.key = .int .i64 k → (e.born ∈ sn ↔ k ∈ vk)
  nd : vk.Nodup
  sub : ∀ k ∈ vk, K k
theorem Seen.nil (es : Array MapEntry) (K : Int → Prop) : Seen es K #[] [] := ⟨fun e he k hk => by simp, by simp, fun k h => by cases h⟩
theorem Seen.step {es : Array MapEntry} {clock : Nat} {m : MapL} {c : Int → Int} {K : Int → Prop} {sn : Array Nat} {vk : List Int} (h : Seen es K sn vk) (hi : MapK .i64 es clock m) (hc : CntIs m c K) {e : MapEntry} (he : e ∈ es.toList) (hn : e.born ∉ sn) {k : Int} (hk : e.key = .int .i64 k) (hK : K k) :
    Seen es K (sn.push e.born) (vk ++ [k]) ∧ k ∉ vk := by
  have hkv : k ∉ vk := fun hm => hn ((h.eq e he k hk).2 hm)
  refine ⟨⟨fun f hf j hj => ?_, ?_, fun j hj => ?_⟩, hkv⟩
  · rw [Array.mem_push, List.mem_append, List.mem_singleton, h.eq f hf j hj]
    have h1 := same_born hi.1 hi.2 hc hf he
    rw [h1, hj, hk]
    constructor
    · rintro (h2 | h2)
      · exact .inl h2
      · injection h2 with _ h2; exact .inr h2
    · rintro (h2 | h2)
      · exact .inl h2
      · exact .inr (by rw [h2])
  · refine List.nodup_append.2 ⟨h.nd, by simp, fun x hx y hy => ?_⟩
    simp at hy; subst hy
    exact fun e => hkv (e ▸ hx)
  · rcases List.mem_append.1 hj with hj | hj
    · exact h.sub j hj
    · simp at hj; rw [hj]; exact hK
theorem Seen.over {es : Array MapEntry} {m : MapL} {c : Int → Int} {K : Int → Prop} {sn : Array Nat} {vk : List Int} (h : Seen es K sn vk) (hi : MapIs .i64 es m) (hc : CntIs m c K) (hall : ∀ e ∈ es.toList, e.born ∈ sn) (k : Int) : k ∈ vk ↔ K k := by
  refine ⟨h.sub k, fun hk => ?_⟩
  obtain ⟨e, he, h1⟩ := key_entry hi hc hk
  exact (h.eq e he k h1).1 (hall e he)
theorem Seen.len {es : Array MapEntry} {m : MapL} {c : Int → Int} {K : Int → Prop} {sn : Array Nat} {vk : List Int} (h : Seen es K sn vk) (hc : CntIs m c K) : vk.length ≤ m.length := by
  have := nodup_len (u := m.map Prod.fst) h.nd (fun x hx => (hc.2.1 x).2 (h.sub x hx))
  simpa using this
/-- Taken away: R; to be taken away: F. -/
structure KI (xs : List Lk) (R F : List Int) : Prop where
  nd : (R ++ F).Nodup
  mem : ∀ w, w ∈ R ++ F ↔ isV xs w ∧ dg xs R w = 0
  rank : ∀ (i : Nat) w, R[i]? = some w → ∀ x ∈ toL xs w, x ∈ R.take i
theorem dg_zero {xs : List Lk} (hc : chainB xs = true) {R : List Int} {w : Int} : dg xs R w = 0 ↔ ∀ x ∈ toL xs w, x ∈ R := by
  unfold dg toL
  rw [if_pos hc, List.countP_eq_zero]
  constructor
  · intro h x hx
    obtain ⟨y, hy, rfl⟩ := List.mem_map.1 hx
    obtain ⟨h1, h2⟩ := List.mem_filter.1 hy
    have := h y h1
    simp [of_decide_eq_true h2] at this
    exact this
  · intro h y hy
    simp only [Bool.and_eq_true, decide_eq_true_eq, Bool.not_eq_true', decide_eq_false_iff_not, not_and, Decidable.not_not]
    intro e
    exact h y.2 (List.mem_map.2 ⟨y, List.mem_filter.2 ⟨hy, by simp [e]⟩, rfl⟩)
theorem dg_snoc {xs : List Lk} (hc : chainB xs = true) {R : List Int} {v w : Int} (hv : v ∉ R) : dg xs R w = dg xs (R ++ [v]) w + (if w ∈ fromL xs v then 1 else 0) := by
  have hu := (chainB_iff.1 hc).2.2
  have hmem : w ∈ fromL xs v ↔ (w, v) ∈ xs := by
    unfold fromL; rw [if_pos hc]
    constructor
    · intro h
      obtain ⟨y, hy, rfl⟩ := List.mem_map.1 h
      obtain ⟨h1, h2⟩ := List.mem_filter.1 hy
      rw [← of_decide_eq_true h2]; exact h1
    · intro h; exact List.mem_map.2 ⟨(w, v), List.mem_filter.2 ⟨h, by simp⟩, rfl⟩
  have key : ∀ (l : List Lk), UpP l → dg l R w = dg l (R ++ [v]) w + (if (w, v) ∈ l then 1 else 0) := by
    intro l
    induction l with
    | nil => intro _; simp [dg]
    | cons y l ih =>
      intro hup
      obtain ⟨h1, h2⟩ := List.pairwise_cons.1 hup
      have ih := ih h2
      unfold dg at ih ⊢
      rw [List.countP_cons, List.countP_cons, ih]
      by_cases e : y = (w, v)
      · subst e
        have hnl : (w, v) ∉ l := fun hm => by have := h1 _ hm; unfold ltP at this; omega
        simp [hv, hnl]
      · have h3 : (w, v) ∈ y :: l ↔ (w, v) ∈ l := by
          rw [List.mem_cons]
          exact ⟨fun h => h.elim (fun x => absurd x.symm e) id, .inr⟩
        have h4 : (decide (y.1 = w) && !decide (y.2 ∈ R)) = (decide (y.1 = w) && !decide (y.2 ∈ R ++ [v])) := by
          by_cases h5 : y.1 = w
          · have h6 : y.2 ≠ v := fun x => e (by rw [← h5, ← x])
            simp [h5, h6]
          · simp [h5]
        rw [h4]
        simp only [h3]
        omega
  rw [key xs hu]
  simp only [hmem]
theorem from_nodup {xs : List Lk} (v : Int) : (fromL xs v).Nodup := by
  unfold fromL
  split
  · rename_i hc
    have hu := (chainB_iff.1 hc).2.2
    refine List.pairwise_map.2 ?_
    refine (List.Pairwise.sublist List.filter_sublist hu).imp_of_mem (fun {x y} hx hy hxy => ?_)
    have h1 := of_decide_eq_true (List.mem_filter.1 hx).2
    have h2 := of_decide_eq_true (List.mem_filter.1 hy).2
    unfold ltP at hxy; omega
  · exact List.nodup_nil
theorem from_isV {xs : List Lk} {v w : Int} (h : w ∈ fromL xs v) : isV xs w := by
  unfold fromL at h
  split at h
  · obtain ⟨y, hy, rfl⟩ := List.mem_map.1 h
    exact ⟨y, (List.mem_filter.1 hy).1, .inl rfl⟩
  · cases h
/-- In a round: v is taken away, the first i of those ahead of it are counted down. -/
def cI (xs : List Lk) (R : List Int) (v : Int) (i : Nat) (w : Int) : Int := (dg xs R w : Int) - (if w ∈ (fromL xs v).take i then 1 else 0)
def fI (xs : List Lk) (R F : List Int) (v : Int) (i : Nat) : List Int := F ++ ((fromL xs v).take i).filter (fun w => decide (cI xs R v (fromL xs v).length w = 0))
theorem cI_last {xs : List Lk} (hc : chainB xs = true) {R : List Int} {v : Int} (hv : v ∉ R) (w : Int) : cI xs R v (fromL xs v).length w = dg xs (R ++ [v]) w := by
  unfold cI
  rw [List.take_length, dg_snoc hc hv]
  split <;> simp <;> omega
theorem cI_zero (xs : List Lk) (R : List Int) (v w : Int) : cI xs R v 0 w = dg xs R w := by simp [cI]
theorem cI_step {xs : List Lk} {R : List Int} {v : Int} {i : Nat} {w : Int} (hw : (fromL xs v)[i]? = some w) : (fun j => if j = w then cI xs R v i w - 1 else cI xs R v i j) = cI xs R v (i + 1) := by
  have hn := not_take (from_nodup v) hw
  funext j
  unfold cI
  rw [take_snoc _ _ _ hw]
  by_cases e : j = w
  · subst e; rw [if_pos rfl, if_neg hn, if_pos (by simp)]; omega
  · rw [if_neg e]; simp [e]
theorem cI_at {xs : List Lk} {R : List Int} {v : Int} {i : Nat} {w : Int} (hw : (fromL xs v)[i]? = some w) : cI xs R v (i + 1) w = cI xs R v (fromL xs v).length w := by
  unfold cI
  rw [take_snoc _ _ _ hw, List.take_length, if_pos (by simp), if_pos (List.mem_of_getElem? hw)]
theorem fI_yes {xs : List Lk} {R F : List Int} {v : Int} {i : Nat} {w : Int} (hw : (fromL xs v)[i]? = some w) (h : cI xs R v (i + 1) w = 0) : fI xs R F v (i + 1) = fI xs R F v i ++ [w] := by
  unfold fI
  rw [take_snoc _ _ _ hw, List.filter_append, cI_at hw] at *
  simp [h]
theorem fI_no {xs : List Lk} {R F : List Int} {v : Int} {i : Nat} {w : Int} (hw : (fromL xs v)[i]? = some w) (h : ¬ cI xs R v (i + 1) w = 0) : fI xs R F v (i + 1) = fI xs R F v i := by
  unfold fI
  rw [take_snoc _ _ _ hw, List.filter_append]
  rw [cI_at hw] at h
  simp [h]
theorem KI.go {xs : List Lk} (hc : chainB xs = true) {R F : List Int} {v : Int} (h : KI xs R (F ++ [v])) : KI xs (R ++ [v]) (fI xs R F v (fromL xs v).length) := by
  have hvR : v ∉ R := fun hm => (List.nodup_append.1 h.nd).2.2 v hm v (by simp) rfl
  have hcl := fun w => cI_last hc hvR w
  have hmem : ∀ w, w ∈ fI xs R F v (fromL xs v).length ↔ w ∈ F ∨ (w ∈ fromL xs v ∧ dg xs (R ++ [v]) w = 0) := fun w => by
    unfold fI
    rw [List.take_length, List.mem_append, List.mem_filter]
    simp only [hcl, decide_eq_true_eq]
    constructor
    · rintro (h1 | ⟨h1, h2⟩)
      · exact .inl h1
      · exact .inr ⟨h1, by omega⟩
    · rintro (h1 | ⟨h1, h2⟩)
      · exact .inl h1
      · exact .inr ⟨h1, by omega⟩
  refine ⟨?_, fun w => ?_, fun i w hi x hx => ?_⟩
  · have hn1 : (R ++ [v] ++ F).Nodup := by
      have h1 := h.nd
      have hp : (R ++ (F ++ [v])).Perm (R ++ [v] ++ F) := by
        rw [List.append_assoc]
        exact List.Perm.append_left R List.perm_append_comm
      exact hp.nodup_iff.1 h1
    unfold fI
    rw [List.take_length, ← List.append_assoc]
    refine List.nodup_append.2 ⟨hn1, List.Pairwise.sublist List.filter_sublist (from_nodup v), fun a ha b hb e => ?_⟩
    subst e
    obtain ⟨h1, h2⟩ := List.mem_filter.1 hb
    have h3 : a ∈ R ++ (F ++ [v]) := by
      simp only [List.mem_append, List.mem_singleton] at ha ⊢
      rcases ha with (h4 | h4) | h4
      · exact .inl h4
      · exact .inr (.inr h4)
      · exact .inr (.inl h4)
    have h4 := ((h.mem a).1 h3).2
    have h5 := dg_snoc hc (w := a) hvR
    rw [if_pos h1] at h5
    omega
  · have h5 := dg_snoc hc (w := w) hvR
    rw [List.mem_append, hmem]
    constructor
    · rintro (h1 | h1 | ⟨h1, h2⟩)
      · rcases List.mem_append.1 h1 with h1 | h1
        · have := (h.mem w).1 (List.mem_append_left _ h1); exact ⟨this.1, by omega⟩
        · simp at h1; subst h1
          have := (h.mem w).1 (by simp); exact ⟨this.1, by omega⟩
      · have := (h.mem w).1 (by simp [h1]); exact ⟨this.1, by omega⟩
      · exact ⟨from_isV h1, h2⟩
    · rintro ⟨h1, h2⟩
      by_cases hw : w ∈ fromL xs v
      · exact .inr (.inr ⟨hw, h2⟩)
      · rw [if_neg hw] at h5
        have := (h.mem w).2 ⟨h1, by omega⟩
        simp only [List.mem_append, List.mem_singleton] at this ⊢
        rcases this with h3 | h3 | h3
        · exact .inl (.inl h3)
        · exact .inr (.inl h3)
        · exact .inl (.inr h3)
  · rcases Nat.lt_or_ge i R.length with h1 | h1
    · rw [List.getElem?_append_left h1] at hi
      rw [List.take_append_of_le_length (by omega)]
      exact h.rank i w hi x hx
    · rw [List.getElem?_append_right h1] at hi
      have hi0 : i = R.length := by have := (List.getElem?_eq_some_iff.1 hi).1; simp at this; omega
      subst hi0
      simp at hi; subst hi
      have h2 := ((h.mem v).1 (by simp)).2
      have := (dg_zero hc).1 h2 x hx
      rw [List.take_append_of_le_length (Nat.le_refl _), List.take_length]; exact this
def roundR (xs : List Lk) : Bool := chainB xs && xs.any (fun y => leadsR xs y.1 y.1)
/-- Where all are taken away there is no ring. -/
theorem KI.free {xs : List Lk} (hc : chainB xs = true) {R : List Int} (h : KI xs R []) (hall : ∀ w, isV xs w → w ∈ R) : roundR xs = false := by
  unfold roundR
  rw [hc, Bool.true_and, List.any_eq_false]
  intro y hy hl
  obtain ⟨v, hv, p, hp⟩ := leads_iff.1 hl
  -- along a way the places fall
  have hto : ∀ a b, b ∈ toL xs a → isV xs b := fun a b hb => by
    unfold toL at hb
    rw [if_pos hc] at hb
    obtain ⟨z, hz, rfl⟩ := List.mem_map.1 hb
    exact ⟨z, (List.mem_filter.1 hz).1, .inr rfl⟩
  have key : ∀ (n : Nat) (p : List Int) (a z : Int) (i : Nat), p.length = n → Wy (toL xs) a z p → a ∈ R.take i → z ∈ R.take i := by
    intro n
    induction n with
    | zero => intro p a z i hl hp; exact absurd (List.length_eq_zero_iff.1 hl) hp.1.ne
    | succ n ih =>
      intro p a z i hl hp ha
      rcases hp.un with ⟨_, rfl⟩ | ⟨b, r, rfl, hb, hr⟩
      · exact ha
      · obtain ⟨j, hj⟩ := List.mem_iff_getElem?.1 ha
        have hji : j < i := by have := (List.getElem?_eq_some_iff.1 hj).1; simp at this; omega
        rw [List.getElem?_take_of_lt hji] at hj
        have h1 := h.rank j a hj b hb
        have h2 := ih (b :: r) b z j (by simpa using hl) hr h1
        have h3 : (R.take j) <+: (R.take i) := List.take_prefix_take_left (by omega)
        exact h3.subset h2
  have hyR := hall y.1 ⟨y, hy, .inl rfl⟩
  obtain ⟨i, hi⟩ := List.mem_iff_getElem?.1 hyR
  have h1 := h.rank i y.1 hi v hv
  have h2 := key _ p v y.1 i rfl hp h1
  have hnd : R.Nodup := by have := h.nd; simpa using this
  exact not_take hnd hi h2
/-- Where some are left there is one. -/
theorem KI.ring {xs : List Lk} (hc : chainB xs = true) {R : List Int} (h : KI xs R []) {w : Int} (hw : isV xs w) (hn : w ∉ R) : roundR xs = true := by
  -- each that is left leads to one that is left
  have hstep : ∀ a, isV xs a → a ∉ R → ∃ b, b ∈ toL xs a ∧ isV xs b ∧ b ∉ R := fun a ha hna => by
    have h1 : ¬ dg xs R a = 0 := fun e => hna (by have := (h.mem a).2 ⟨ha, e⟩; simpa using this)
    rw [dg_zero hc] at h1
    obtain ⟨b, hb⟩ := Classical.not_forall.1 h1
    have h2 := Classical.not_imp.1 hb
    refine ⟨b, h2.1, ?_, h2.2⟩
    have h3 := h2.1
    unfold toL at h3
    rw [if_pos hc] at h3
    obtain ⟨z, hz, rfl⟩ := List.mem_map.1 h3
    exact ⟨z, (List.mem_filter.1 hz).1, .inr rfl⟩
  -- ways of whatever length among them
  have hlong : ∀ n : Nat, ∃ p z, p.length = n + 1 ∧ Wy (toL xs) w z p ∧ (∀ x ∈ p, isV xs x ∧ x ∉ R) := by
    intro n
    induction n with
    | zero => exact ⟨[w], w, rfl, Wy.one _ _, fun x hx => by simp at hx; subst hx; exact ⟨hw, hn⟩⟩
    | succ n ih =>
      obtain ⟨p, z, hl, hp, hall⟩ := ih
      have hz : z ∈ p := by
        have h1 := hp.2.2
        have hne := hp.1.ne
        have : p.getLast? = some z := by rw [List.getLast?_eq_some_getLast hne]; unfold lastI at h1; rw [List.getLast?_eq_some_getLast hne] at h1; simpa using h1
        exact List.mem_of_getLast? this
      obtain ⟨b, hb, hb2, hb3⟩ := hstep z (hall z hz).1 (hall z hz).2
      exact ⟨p ++ [b], b, by simp [hl], hp.snoc hb, fun x hx => by
        rcases List.mem_append.1 hx with hx | hx
        · exact hall x hx
        · simp at hx; subst hx; exact ⟨hb2, hb3⟩⟩
  obtain ⟨p, z, hl, hp, hall⟩ := hlong (2 * xs.length)
  -- one of them comes twice
  have hdup : ¬ p.Nodup := fun hnd => by
    have := nodup_len (u := xs.map (·.1) ++ xs.map (·.2)) hnd (fun x hx => by
      obtain ⟨y, hy, h1⟩ := (hall x hx).1
      rcases h1 with rfl | rfl
      · exact List.mem_append_left _ (List.mem_map.2 ⟨y, hy, rfl⟩)
      · exact List.mem_append_right _ (List.mem_map.2 ⟨y, hy, rfl⟩))
    simp at this; omega
  have hsplit : ∀ (p : List Int), ¬ p.Nodup → ∃ a q r s, p = q ++ a :: (r ++ a :: s) := by
    intro p
    induction p with
    | nil => intro h; exact absurd List.nodup_nil h
    | cons x p ih =>
      intro h
      by_cases hx : x ∈ p
      · obtain ⟨r, s, rfl⟩ := List.append_of_mem hx
        exact ⟨x, [], r, s, rfl⟩
      · obtain ⟨a, q, r, s, rfl⟩ := ih (fun hnd => h (List.nodup_cons.2 ⟨hx, hnd⟩))
        exact ⟨a, x :: q, r, s, rfl⟩
  obtain ⟨a, q, r, s, rfl⟩ := hsplit p hdup
  have h1 := hp.suf
  have e : a :: (r ++ a :: s) = (a :: r) ++ a :: s := rfl
  rw [e] at h1
  have h2 := h1.pre
  rcases h2.un with ⟨e2, _⟩ | ⟨b, t, e2, hb, ht⟩
  · simp at e2
  · have hl2 : leadsR xs a a = true := leads_iff.2 ⟨b, hb, _, ht⟩
    have hlink : ∃ y ∈ xs, y.1 = a := by
      unfold toL at hb
      rw [if_pos hc] at hb
      obtain ⟨y, hy, _⟩ := List.mem_map.1 hb
      exact ⟨y, (List.mem_filter.1 hy).1, of_decide_eq_true (List.mem_filter.1 hy).2⟩
    obtain ⟨y, hy, rfl⟩ := hlink
    unfold roundR
    rw [hc, Bool.true_and, List.any_eq_true]
    exact ⟨y, hy, hl2⟩
theorem KI.start {xs : List Lk} {F : List Int} (hn : F.Nodup) (hF : ∀ w, w ∈ F ↔ isV xs w ∧ dg xs [] w = 0) : KI xs [] F := ⟨by simpa using hn, fun w => by rw [List.nil_append]; exact hF w, fun i w h => by simp at h⟩
/-- What is left, told by numbers. -/
theorem round_end {xs : List Lk} (hc : chainB xs = true) {R : List Int} {m : MapL} {c : Int → Int} (h : KI xs R []) (hm : CntIs m c (isV xs)) : decide (((m.length : Int) - R.length) > 0) = roundR xs := by
  have hnd : R.Nodup := by have := h.nd; simpa using this
  have hsub : ∀ w ∈ R, w ∈ m.map Prod.fst := fun w hw => (hm.2.1 w).2 ((h.mem w).1 (by simpa using hw)).1
  have hle := nodup_len hnd hsub
  simp only [List.length_map] at hle
  by_cases hall : ∀ w, isV xs w → w ∈ R
  · rw [h.free hc hall]
    have := nodup_len (u := R) hm.1 (fun w hw => hall w ((hm.2.1 w).1 hw))
    simp only [List.length_map] at this
    exact decide_eq_false (by omega)
  · obtain ⟨w, hw⟩ := Classical.not_forall.1 hall
    have h1 := Classical.not_imp.1 hw
    rw [h.ring hc h1.1 h1.2]
    refine decide_eq_true ?_
    have h2 : w ∈ m.map Prod.fst := (hm.2.1 w).2 h1.1
    have := nodup_len (l := w :: R) (u := m.map Prod.fst) (List.nodup_cons.2 ⟨h1.2, hnd⟩) (fun x hx => by
      rcases List.mem_cons.1 hx with rfl | hx
      · exact h2
      · exact hsub x hx)
    simp only [List.length_map, List.length_cons] at this
    omega
end Go.SX
namespace Go.SX
open Go
theorem map_size {ik : IntKind} {es : Array MapEntry} {m : MapL} (h : MapIs ik es m) : es.size = m.length := by have := congrArg List.length h; simpa using this
theorem mput_len : ∀ (m : MapL) (k : Int) (v : Value), k ∈ m.map Prod.fst → (mput m k v).length = m.length
  | [], k, v, h => by simp at h
  | q :: m, k, v, h => by
    unfold mput
    by_cases hq : q.1 = k
    · rw [if_pos hq]; simp
    · rw [if_neg hq, List.length_cons, List.length_cons]
      rw [List.map_cons, List.mem_cons] at h
      rw [mput_len m k v (h.resolve_left (fun e => hq e.symm))]
theorem isV_take (xs : List Lk) (k : Int) : isV (xs.take xs.length) k ↔ isV xs k := by rw [List.take_length]
theorem cnt_full {xs : List Lk} {m : MapL} (h : CntIs m (cntN xs xs.length) (isV (xs.take xs.length))) : CntIs m (fun w => (dg xs [] w : Int)) (isV xs) := h.congr (fun k => cnt_all xs k) (isV_take xs)
theorem cnt_len {xs : List Lk} {m : MapL} {c : Int → Int} (h : CntIs m c (isV xs)) : m.length ≤ 2 * xs.length := by
  have := nodup_len (u := xs.map (·.1) ++ xs.map (·.2)) h.1 (fun x hx => by
    obtain ⟨y, hy, h1⟩ := (h.2.1 x).1 hx
    rcases h1 with rfl | rfl
    · exact List.mem_append_left _ (List.mem_map.2 ⟨y, hy, rfl⟩)
    · exact List.mem_append_right _ (List.mem_map.2 ⟨y, hy, rfl⟩))
  simp at this; omega
theorem KI.len {xs : List Lk} {R F : List Int} {m : MapL} {c : Int → Int} (h : KI xs R F) (hm : CntIs m c (isV xs)) : R.length + F.length ≤ m.length := by
  have := nodup_len (u := m.map Prod.fst) h.nd (fun x hx => (hm.2.1 x).2 ((h.mem x).1 hx).1)
  simpa using this
theorem dg_le (xs : List Lk) (R : List Int) (w : Int) : dg xs R w ≤ xs.length := List.countP_le_length
theorem cI_bnd (xs : List Lk) (R : List Int) (v : Int) (i : Nat) (w : Int) : -1 ≤ cI xs R v i w ∧ cI xs R v i w ≤ xs.length := by
  have := dg_le xs R w
  unfold cI; split <;> omega
theorem fI_len (xs : List Lk) (R F : List Int) (v : Int) (i : Nat) : (fI xs R F v i).length ≤ F.length + xs.length := by
  unfold fI
  rw [List.length_append]
  have h1 := List.length_filter_le (fun w => decide (cI xs R v (fromL xs v).length w = 0)) ((fromL xs v).take i)
  have h2 : (fromL xs v).length ≤ xs.length := by
    unfold fromL; split
    · rw [List.length_map]; exact List.length_filter_le _ _
    · simp
  simp only [List.length_take] at h1
  omega
theorem free_start {xs : List Lk} {vk : List Int} (hn : vk.Nodup) (hv : ∀ k, k ∈ vk ↔ isV xs k) : KI xs [] (vk.filter (fun k => decide ((dg xs [] k : Int) = 0))) :=
  KI.start (List.Pairwise.sublist List.filter_sublist hn) (fun w => by rw [List.mem_filter, hv, decide_eq_true_eq]; exact and_congr_right (fun _ => by omega))
theorem fI_zero (xs : List Lk) (R F : List Int) (v : Int) : fI xs R F v 0 = F := by unfold fI; simp
theorem perm4 {a b c : Chunk} : ([a, b, c] : Own).flatten.Perm ([b, a, c] : Own).flatten := by
  simp only [List.flatten_cons, List.flatten_nil, List.append_nil]
  exact List.perm_append_comm_assoc a b c
theorem last_split {l : List Int} (h : l ≠ []) : ∃ F v, l = F ++ [v] := ⟨l.dropLast, l.getLast h, (List.dropLast_concat_getLast h).symm⟩
theorem round_bad {xs : List Lk} (h : chainB xs = false) : roundR xs = false := by unfold roundR; rw [h]; rfl
def leadsQ (xs : List Lk) (a z : Int) : Bool := (toL xs a).any (fun v => (wavesL false xs v).any (fun w => w.any (fun y => decide (y = z))))
theorem leadsQ_eq (xs : List Lk) (a z : Int) : leadsQ xs a z = leadsR xs a z := by
  rw [Bool.eq_iff_iff, leads_iff]
  unfold leadsQ
  rw [List.any_eq_true]
  constructor
  · rintro ⟨v, hv, h⟩
    obtain ⟨w, hw, h2⟩ := List.any_eq_true.1 h
    exact ⟨v, hv, ((waves_flat xs v).2 z).1 (List.mem_flatten.2 ⟨w, hw, any_mem.1 h2⟩)⟩
  · rintro ⟨v, hv, hp⟩
    obtain ⟨w, hw, hz⟩ := List.mem_flatten.1 (((waves_flat xs v).2 z).2 hp)
    exact ⟨v, hv, List.any_eq_true.2 ⟨w, hw, any_mem.2 hz⟩⟩
end Go.SX
namespace Go.SX
theorem filt1_yes {p : Int → Bool} {l : List Int} {k : Int} (h : p k = true) : (l ++ [k]).filter p = l.filter p ++ [k] := by rw [List.filter_append]; simp [h]
theorem filt1_no {p : Int → Bool} {l : List Int} {k : Int} (h : p k = false) : (l ++ [k]).filter p = l.filter p := by rw [List.filter_append]; simp [h]
end Go.SX
