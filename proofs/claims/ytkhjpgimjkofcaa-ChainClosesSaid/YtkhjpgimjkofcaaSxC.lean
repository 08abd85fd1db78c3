/- SX: rows of one's own that have slid; rows in a map. -/
import Derived.Test.YtkhjpgimjkofcaaSxB
set_option linter.unusedVariables false
set_option linter.unusedSimpArgs false
namespace Go.SX
open Go
attribute [local semireducible] T TL

/-- v is a slice of one's own, from somewhere in its array on. -/
def OwnO {α : Type} (E : ER α) (e : TypeId) (H : Heap) (v : Value) (xs : List α) (c : Chunk) : Prop :=
  (v = .slice none 0 0 ∧ xs = [] ∧ c = []) ∨
  ∃ b off cap cs, v = .slice (some ⟨b, off, none⟩) xs.length cap ∧ c = [(b, .cells cs e)] ∧ xs.length ≤ cap ∧ cap ≤ maxLen ∧ off + cap * E.size ≤ cs.size ∧
    ∀ i x, xs[i]? = some x → ∃ l, E.R H l x ∧ ∀ j u, l[j]? = some u → cs[off + i * E.size + j]? = some u
theorem OwnS.slid {α : Type} {E : ER α} {e : TypeId} {H : Heap} {v : Value} {xs : List α} {c : Chunk} (h : OwnS E e H v xs c) : OwnO E e H v xs c := by
  rcases h with h | ⟨b, cap, cs, h1, h2, h3, h4, h5, h6⟩
  · exact .inl h
  · exact .inr ⟨b, 0, cap, cs, h1, h2, h3, h4, by rw [h5]; omega, fun i x hx => by
      obtain ⟨l, h7, h8⟩ := h6 i x hx
      exact ⟨l, h7, fun j u hj => by rw [Nat.zero_add]; exact h8 j u hj⟩⟩
theorem OwnO.mono {α : Type} {E : ER α} {e : TypeId} {H H' : Heap} {v : Value} {xs : List α} {c : Chunk} (h : OwnO E e H v xs c) (hl : HLe H H') : OwnO E e H' v xs c := by
  rcases h with h | ⟨b, off, cap, cs, h1, h2, h3, h4, h5, h6⟩
  · exact .inl h
  · exact .inr ⟨b, off, cap, cs, h1, h2, h3, h4, h5, fun i x hx => by
      obtain ⟨l, h7, h8⟩ := h6 i x hx
      exact ⟨l, E.mono hl h7, h8⟩⟩
theorem OwnO.shape {α : Type} {E : ER α} {e : TypeId} {H : Heap} {v : Value} {xs : List α} {c : Chunk} (h : OwnO E e H v xs c) : ∃ A cap, v = .slice A xs.length cap ∧ xs.length ≤ cap ∧ cap ≤ 9223372036854775807 := by
  rcases h with ⟨rfl, rfl, _⟩ | ⟨b, off, cap, cs, h1, h2, h3, h4, h5, h6⟩
  · exact ⟨none, 0, rfl, Nat.le_refl _, by omega⟩
  · exact ⟨_, cap, h1, h3, by unfold maxLen at h4; omega⟩
theorem OwnO.elem {α : Type} {E : ER α} {e : TypeId} {H : Heap} {v : Value} {xs : List α} {c : Chunk} (h : OwnO E e H v xs c) {i : Nat} {y : α} (hy : xs[i]? = some y) : ∃ b off cap cs l, c = [(b, .cells cs e)] ∧ v = .slice (some ⟨b, off, none⟩) xs.length cap ∧ xs.length ≤ cap ∧ IxAt v E.size i b (off + i * E.size) ∧ E.R H l y ∧ ∀ j u, l[j]? = some u → cs[off + i * E.size + j]? = some u := by
  rcases h with ⟨_, rfl, _⟩ | ⟨b, off, cap, cs, h1, h2, h3, h4, h5, h6⟩
  · simp at hy
  · obtain ⟨l, h7, h8⟩ := h6 i y hy
    exact ⟨b, off, cap, cs, l, h2, h1, h3, ⟨off, xs.length, cap, h1, (List.getElem?_eq_some_iff.1 hy).1, rfl⟩, h7, h8⟩
/-- v[1:]. -/
theorem OwnO.slide {α : Type} {E : ER α} {e : TypeId} {H : Heap} {A : Option Addr} {cap : Nat} {x : α} {xs : List α} {c : Chunk} (h : OwnO E e H (.slice A (xs.length + 1) cap) (x :: xs) c) :
    OwnO E e H (slcV (.slice A (xs.length + 1) cap) 1 (xs.length + 1) cap E.size) xs c := by
  rcases h with ⟨_, h, _⟩ | ⟨b, off, cap', cs, h1, h2, h3, h4, h5, h6⟩
  · cases h
  · cases h1
    simp only [List.length_cons] at h3
    by_cases h0 : cap = 1
    · subst h0
      obtain rfl : xs = [] := by cases xs with | nil => rfl | cons _ _ => simp at h3
      exact .inr ⟨b, off, 0, cs, by simp [slcV], h2, by simp, by omega, by omega, fun i x hx => by simp at hx⟩
    · refine .inr ⟨b, off + E.size, cap - 1, cs, by simp [slcV, h0, Addr.add_lit], h2, by omega, by omega, ?_, fun i y hy => ?_⟩
      · have : (1 + (cap - 1)) * E.size = cap * E.size := by congr 1; omega
        rw [Nat.add_mul, Nat.one_mul] at this
        omega
      · obtain ⟨l, h7, h8⟩ := h6 (i + 1) y (by simpa using hy)
        exact ⟨l, h7, fun j u hj => by
          have := h8 j u hj
          rwa [Nat.add_mul, Nat.one_mul, show off + (i * E.size + E.size) + j = off + E.size + i * E.size + j by omega] at this⟩
theorem CellsOf.app {α : Type} {E : ER α} {H : Heap} : ∀ {xs ys : List α} {a b : List Value}, CellsOf E H a xs → CellsOf E H b ys → CellsOf E H (a ++ b) (xs ++ ys)
  | [], ys, a, b, h, k => by have : a = [] := h; subst this; exact k
  | x :: xs, ys, a, b, h, k => by
    obtain ⟨p, q, rfl, h1, h2⟩ := h
    exact ⟨p, q ++ b, by rw [List.append_assoc], h1, CellsOf.app h2 k⟩
section
variable {fr : Fr} {x : Cx} {Q : Post} {σ : Env} {H : Heap} {L : Own} {ds : List Nat} {ol rest : List Oper}
variable {d : Nat} {ty : TypeId} {p : String} {af : Array Edge} {g : Option (Nat × Bool)}
/-- append to a row that has slid. -/
theorem R.appO {α : Type} {E : ER α} {t e : TypeId} {bytes : Nat} {S X : Operand} {v xv : Value} {xs ys : List α} {c : Chunk} {R : Own} {cells : List Value} (hty : TyE fr.P t e E bytes) (hw : wan fr.N ol σ d g = true)
    (hs : ev σ S = v) (hx : ev σ X = xv) (hown : OwnO E e H v xs c) (hdel : Del L c R) (hsrc : Src H L xv ys.length cells) (hys : CellsOf E H cells ys)
    (hy0 : ys ≠ []) (h63 : xs.length + ys.length ≤ 4611686018427387904) (hby : (xs.length + ys.length) * bytes ≤ 140737488355328)
    (h : ∀ v' c', OwnO E e H v' (xs ++ ys) c' → TL fr x ol rest Q (upd σ d v') H (c' :: R) ds) :
    TL fr x ol (⟨some d, .call { callee := .builtin .append, args := #[S, X], argTypes := #[t, t] }, ty, p, af, g⟩ :: rest) Q σ H L ds := by
  obtain ⟨ht, ⟨i, z, hi, hz, hsize, hbytes, hzs⟩, hpos⟩ := hty
  refine TL.value hw rfl (fun w hst => ?_)
  have hex : (execOp (ev σ) ⟨some d, .call { callee := .builtin .append, args := #[S, X], argTypes := #[t, t] }, ty, p, af, g⟩) = (do pure (Next.value (← Builtin.append_ #[t, t] ty #[v, xv]))) := by
    simp [execOp, resolve, invoke, builtin, hs, hx]
  rw [hex]
  have hst1 : St x H (c ++ (R.flatten ++ hid fr.rd ds)) w := hst.perm (by rw [← List.append_assoc]; exact hdel.perm.append_right _)
  obtain ⟨A, cx, rfl, hA, hcell⟩ := hsrc
  have hlen := hys.length
  have hmax : xs.length + ys.length ≤ maxLen := by unfold maxLen; omega
  have hylen : 0 < ys.length := by cases ys with | nil => exact absurd rfl hy0 | cons _ _ => simp
  have hne : cells ≠ [] := by
    intro e
    rw [e] at hlen
    simp only [List.length_nil] at hlen
    have := Nat.mul_pos hylen hpos
    omega
  obtain ⟨sb, so, rfl⟩ := hA.resolve_left hne
  have hnews : ∀ j u, cells[j]? = some u → w.cell? ((⟨sb, so, none⟩ : Addr).add j) = some u := fun j u hj => by rw [Addr.add_lit]; exact hcell sb so rfl _ w hst.sat j u hj
  have hnl : cells.length = ys.length * i.size := by rw [hsize]; exact hlen
  rcases hown with ⟨rfl, rfl, rfl⟩ | ⟨b, off, cap, cs, rfl, rfl, h3, h4, h5, h6⟩
  · -- a nil slice: a new row
    have hrun := run_append_nil (P := fr.P) w t ty e i z ht hi hz ⟨sb, so, none⟩ ys.length cx cells hnl hnews hylen (by simp at h63; omega) (by rw [hbytes]; simp at hby; omega)
    have hge := grownCap_ge w ys.length 0 e
    have hcm := grownCap_le_maxLen w ys.length 0 e (by simpa using hmax)
    refine ⟨_, _, H, [(w.heap.size, .cells (cells.toArray ++ Builtin.zeroCells z.cells (grownCap w ys.length 0 e - ys.length)) e)] :: R, run_value hrun, ?_, h _ _ ?_⟩
    · have := (hst1.drew).alloc (.cells (cells.toArray ++ Builtin.zeroCells z.cells (grownCap w ys.length 0 e - ys.length)) e)
      simpa using this
    · have := own_after (E := E) (e := e) (H := H) (xs := []) (ys := ys) (old := []) (new := cells) (ar := cells.toArray ++ Builtin.zeroCells z.cells (grownCap w ys.length 0 e - ys.length)) rfl hys
        (fun j u hj => by
          have hj' : cells[j]? = some u := by simpa using hj
          have hlt := (List.getElem?_eq_some_iff.1 hj').1
          rw [Array.getElem?_append_left (by simpa using hlt)]
          simpa using hj') w.heap.size (grownCap w ys.length 0 e) (by simpa using hge) hcm (by
          simp only [Array.size_append, List.size_toArray, zeroCells_size, hzs, hlen, ← Nat.add_mul]
          congr 1
          omega)
      have h9 := this.slid
      simpa using h9
  · obtain ⟨old, ho, hold⟩ := cells_of_get (H := H) xs (fun j => cs[off + j]?) (fun k y hy => by
      obtain ⟨l, h7, h8⟩ := h6 k y hy
      exact ⟨l, h7, fun j u hj => by rw [← Nat.add_assoc]; exact h8 j u hj⟩)
    have hb := hst1.sat.l (b, .cells cs e) (List.mem_append_left _ (List.mem_singleton.2 rfl))
    simp only at hb
    have hol := ho.length
    by_cases hroom : xs.length + ys.length ≤ cap
    · -- there is room
      have hfit0 : off + xs.length * E.size + cells.length ≤ cs.size := by
        rw [hlen, Nat.add_assoc, ← Nat.add_mul]
        have := Nat.mul_le_mul_right E.size hroom
        omega
      have hst2 := run_storeCells_at fr.P b (off + xs.length * i.size) e cells 0 cs w hb (by rw [hsize]; omega) hys.one
      rw [Nat.add_zero] at hst2
      have hfc := run_firstCells_some (P := fr.P) w i.size ys.length ⟨sb, so, none⟩ ys.length cx cells hnl hnews
      have hrun : (Builtin.append_ #[t, t] ty #[.slice (some ⟨b, off, none⟩) xs.length cap, .slice (some ⟨sb, so, none⟩) ys.length cx]).run fr.P w =
          .ok (.slice (some ⟨b, off, none⟩) (xs.length + ys.length) cap) (w.setRow b (cs.toList.take (off + xs.length * i.size) ++ cells ++ cs.toList.drop (off + xs.length * i.size + cells.length)).toArray) := by
        simp [Builtin.append_, run_underlying ht, sizeOf, typeInfo, hi, Builtin.lenOf, hroom, hfc, Addr.add_lit, hst2]
      rw [hsize] at hrun
      have hsetsz : (cs.toList.take (off + xs.length * E.size) ++ cells ++ cs.toList.drop (off + xs.length * E.size + cells.length)).length = cs.size := by
        simp only [List.length_append, List.length_take, List.length_drop, Array.length_toList]; omega
      refine ⟨_, _, H, [(b, .cells (cs.toList.take (off + xs.length * E.size) ++ cells ++ cs.toList.drop (off + xs.length * E.size + cells.length)).toArray e)] :: R, run_value hrun, ?_, h _ _ ?_⟩
      · have h2 := hst1.turn (x := x) (w' := w.setRow b (cs.toList.take (off + xs.length * E.size) ++ cells ++ cs.toList.drop (off + xs.length * E.size + cells.length)).toArray)
          (o' := .cells (cs.toList.take (off + xs.length * E.size) ++ cells ++ cs.toList.drop (off + xs.length * E.size + cells.length)).toArray e) rfl rfl rfl (by simp [World.setRow]) (by simp only [World.setRow]; rw [Array.getElem?_modify, if_pos rfl, hb]; rfl) (fun c hc => by
            simp only [World.setRow, Array.getElem?_modify]
            rw [if_neg (fun e => hc e.symm)])
        simpa using h2
      · have hall : ∀ (j : Nat) (u : Value), (old ++ cells)[j]? = some u → (cs.toList.take (off + xs.length * E.size) ++ cells ++ cs.toList.drop (off + xs.length * E.size + cells.length))[off + j]? = some u := by
          intro j u hj
          have htl : (cs.toList.take (off + xs.length * E.size)).length = off + xs.length * E.size := by
            have hcl : cs.toList.length = cs.size := Array.length_toList
            rw [List.length_take, hcl]; omega
          by_cases hjo : j < old.length
          · rw [List.getElem?_append_left hjo] at hj
            have := hold j u hj
            rw [List.append_assoc, List.getElem?_append_left (by rw [htl, ← hol]; omega), List.getElem?_take_of_lt (by rw [← hol]; omega)]
            simpa using this
          · rw [List.getElem?_append_right (Nat.le_of_not_lt hjo)] at hj
            have hlt2 := (List.getElem?_eq_some_iff.1 hj).1
            rw [List.append_assoc, List.getElem?_append_right (by rw [htl, ← hol]; omega), htl, ← hol, List.getElem?_append_left (by omega)]
            rw [show off + j - (off + old.length) = j - old.length by omega]
            exact hj
        have hca : CellsOf E H (old ++ cells) (xs ++ ys) := ho.app hys
        refine .inr ⟨b, off, cap, _, by rw [List.length_append], rfl, by rw [List.length_append]; exact hroom, h4, by rw [List.size_toArray, hsetsz]; exact h5, fun k y hy => ?_⟩
        obtain ⟨l, h7, h8⟩ := hca.get k y hy
        exact ⟨l, h7, fun j u hj => by
          have h9 := hall (k * E.size + j) u (h8 j u hj)
          rw [show off + (k * E.size + j) = off + k * E.size + j from (Nat.add_assoc _ _ _).symm] at h9
          rw [List.getElem?_toArray]
          exact h9⟩
    · -- a new row
      have holds : ∀ j u, old[j]? = some u → w.cell? ((⟨b, off, none⟩ : Addr).add j) = some u := fun j u hj => by
        rw [Addr.add_lit]; exact cell_of_heap hb (hold j u hj)
      have hns : Builtin.nextslicecap (xs.length + ys.length) cap * i.bytes ≤ 281474976710656 := by
        have h1 : Builtin.nextslicecap (xs.length + ys.length) cap ≤ 2 * (xs.length + ys.length) := nextslicecap_le (by omega)
        rw [hbytes]
        calc Builtin.nextslicecap (xs.length + ys.length) cap * bytes ≤ 2 * (xs.length + ys.length) * bytes := Nat.mul_le_mul_right _ h1
          _ ≤ 281474976710656 := by rw [Nat.mul_assoc]; omega
      have hrun := run_append_grow (P := fr.P) w t ty e i z ht hi hz ⟨b, off, none⟩ xs.length cap old (by rw [hsize]; exact hol) holds ⟨sb, so, none⟩ ys.length cx cells hnl hnews (by omega) (by omega) hns
      have hge := grownCap_ge w (xs.length + ys.length) cap e
      have hcm := grownCap_le_maxLen w (xs.length + ys.length) cap e hmax
      refine ⟨_, _, H, [(w.heap.size, .cells (old.toArray ++ cells.toArray ++ Builtin.zeroCells z.cells (grownCap w (xs.length + ys.length) cap e - (xs.length + ys.length))) e)] :: R, run_value hrun, ?_, h _ _ ?_⟩
      · have h1 := (hst1.sub (List.sublist_append_right _ _)).drew.alloc (.cells (old.toArray ++ cells.toArray ++ Builtin.zeroCells z.cells (grownCap w (xs.length + ys.length) cap e - (xs.length + ys.length))) e)
        simpa using h1
      · refine (own_after ho hys (fun j u hj => ?_) _ _ hge hcm (by
          simp only [Array.size_append, List.size_toArray, zeroCells_size, hzs, hlen, hol, ← Nat.add_mul]
          congr 1
          omega)).slid
        have hlt := (List.getElem?_eq_some_iff.1 hj).1
        rw [Array.getElem?_append_left (by simpa using hlt)]
        simpa using hj
end
/-- A map's rows, each of one's own: entry by entry a chunk. -/
def F2 {α : Type} (E : ER α) (e : TypeId) (H : Heap) (f : Int → List α) : MapL → Own → Prop
  | [], [] => True
  | q :: m, c :: r => OwnS E e H q.2 (f q.1) c ∧ F2 E e H f m r
  | _, _ => False
theorem F2.mono {α : Type} {E : ER α} {e : TypeId} {H H' : Heap} {f : Int → List α} (hl : HLe H H') : ∀ {m : MapL} {r : Own}, F2 E e H f m r → F2 E e H' f m r
  | [], [], _ => trivial
  | _ :: _, _ :: _, h => ⟨h.1.mono hl, F2.mono hl h.2⟩
  | [], _ :: _, h => h.elim
  | _ :: _, [], h => h.elim
theorem F2.congr {α : Type} {E : ER α} {e : TypeId} {H : Heap} {f g : Int → List α} : ∀ {m : MapL} {r : Own}, F2 E e H f m r → (∀ k ∈ m.map Prod.fst, f k = g k) → F2 E e H g m r
  | [], [], _, _ => trivial
  | q :: _, _ :: _, h, hk => ⟨hk q.1 (by simp) ▸ h.1, F2.congr h.2 (fun k hm => hk k (by simp only [List.map_cons, List.mem_cons]; exact .inr hm))⟩
  | [], _ :: _, h, _ => h.elim
  | _ :: _, [], h, _ => h.elim
theorem mput_keys : ∀ (m : MapL) (k : Int) (v : Value) (j : Int), j ∈ (mput m k v).map Prod.fst ↔ j = k ∨ j ∈ m.map Prod.fst
  | [], k, v, j => by simp [mput]
  | q :: m, k, v, j => by
    unfold mput
    by_cases h : q.1 = k
    · rw [if_pos h]; simp [h]
    · rw [if_neg h]
      simp only [List.map_cons, List.mem_cons, mput_keys m k v j]
      constructor
      · rintro (h | h | h)
        · exact .inr (.inl h)
        · exact .inl h
        · exact .inr (.inr h)
      · rintro (h | h | h)
        · exact .inr (.inl h)
        · exact .inl h
        · exact .inr (.inr h)
theorem mput_nodup : ∀ (m : MapL) (k : Int) (v : Value), (m.map Prod.fst).Nodup → ((mput m k v).map Prod.fst).Nodup
  | [], k, v, _ => by simp [mput]
  | q :: m, k, v, h => by
    unfold mput
    rw [List.map_cons, List.nodup_cons] at h
    by_cases hk : q.1 = k
    · rw [if_pos hk, List.map_cons, List.nodup_cons]; exact ⟨by rw [← hk]; exact h.1, h.2⟩
    · rw [if_neg hk, List.map_cons, List.nodup_cons]
      exact ⟨fun hm => (((mput_keys m k v q.1).1 hm).elim hk h.1), mput_nodup m k v h.2⟩
theorem mget_cons_eq {q : Int × Value} {m : MapL} {k : Int} (h : q.1 = k) : mget (q :: m) k = some q.2 := by simp [mget, h]
theorem mget_cons_ne {q : Int × Value} {m : MapL} {k : Int} (h : q.1 ≠ k) : mget (q :: m) k = mget m k := by
  have : (q.1 == k) = false := by simpa using h
  simp [mget, List.find?_cons, this]
theorem mget_mput : ∀ (m : MapL) (k : Int) (v : Value) (j : Int), mget (mput m k v) j = if j = k then some v else mget m j
  | [], k, v, j => by
    unfold mput
    by_cases h : j = k
    · subst h; simp [mget]
    · have : (k == j) = false := by simpa using fun e => h e.symm
      simp [mget, List.find?_cons, this, h]
  | q :: m, k, v, j => by
    unfold mput
    by_cases hq : q.1 = k
    · rw [if_pos hq]
      by_cases h : j = k
      · subst h; rw [if_pos rfl, mget_cons_eq rfl]
      · rw [if_neg h, mget_cons_ne (fun e => h e.symm), mget_cons_ne (fun e => h (by rw [← e, hq]))]
    · rw [if_neg hq]
      by_cases hj : q.1 = j
      · rw [mget_cons_eq hj, mget_cons_eq hj, if_neg (fun e => hq (by rw [hj, e]))]
      · rw [mget_cons_ne hj, mget_cons_ne hj, mget_mput m k v j]
/-- One row is taken out, turned, and put back. -/
theorem F2.take {α : Type} {E : ER α} {e : TypeId} {H : Heap} {f : Int → List α} : ∀ {m : MapL} {rows : Own} (k : Int), F2 E e H f m rows → (m.map Prod.fst).Nodup → (k ∉ m.map Prod.fst → f k = []) →
    ∃ c R, rows.flatten.Perm (c :: R).flatten ∧ OwnS E e H ((mget m k).getD (.slice none 0 0)) (f k) c ∧
      ∀ H' v' c' l, HLe H H' → OwnS E e H' v' l c' → ∃ rows', F2 E e H' (fun j => if j = k then l else f j) (mput m k v') rows' ∧ (c' :: R).flatten.Perm rows'.flatten
  | [], [], k, _, _, h0 => ⟨[], [], List.Perm.refl _, by rw [h0 (by simp)]; exact OwnS.nil, fun H' v' c' l hl ho => ⟨[c'], ⟨by simp; exact ho, trivial⟩, List.Perm.refl _⟩⟩
  | q :: m, c0 :: r, k, h, hn, h0 => by
    rw [List.map_cons, List.nodup_cons] at hn
    by_cases hk : q.1 = k
    · subst hk
      refine ⟨c0, r, List.Perm.refl _, by rw [mget_cons_eq rfl]; exact h.1, fun H' v' c' l hl ho => ⟨c' :: r, ?_, List.Perm.refl _⟩⟩
      unfold mput
      rw [if_pos rfl]
      refine ⟨by simp; exact ho, (h.2.mono hl).congr (fun j hj => ?_)⟩
      rw [if_neg]
      intro e
      subst e
      exact hn.1 hj
    · obtain ⟨c, R, h1, h2, h3⟩ := F2.take k h.2 hn.2 (fun hx => h0 (by simp only [List.map_cons, List.mem_cons, not_or]; exact ⟨fun e => hk e.symm, hx⟩))
      refine ⟨c, c0 :: R, ?_, by rw [mget_cons_ne hk]; exact h2, fun H' v' c' l hl ho => ?_⟩
      · simp only [List.flatten_cons] at h1 ⊢
        refine (h1.append_left c0).trans ?_
        rw [← List.append_assoc, ← List.append_assoc]
        exact List.perm_append_comm.append_right _
      · obtain ⟨rows', h4, h5⟩ := h3 H' v' c' l hl ho
        refine ⟨c0 :: rows', ?_, ?_⟩
        · unfold mput
          rw [if_neg hk]
          exact ⟨by simp only [if_neg hk]; exact h.1.mono hl, h4⟩
        · simp only [List.flatten_cons] at h5 ⊢
          refine List.Perm.trans ?_ (h5.append_left c0)
          rw [← List.append_assoc, ← List.append_assoc]
          exact List.perm_append_comm.append_right _
  | [], _ :: _, _, h, _, _ => h.elim
  | _ :: _, [], _, h, _, _ => h.elim
/-- Behind the freeze all rows can be read. -/
theorem F2.read {α : Type} {E : ER α} {e : TypeId} {H H' : Heap} {f : Int → List α} : ∀ {m : MapL} {rows : Own} (k : Int), F2 E e H f m rows → HLe H H' → (∀ q ∈ rows.flatten, H' q.1 = some q.2) → (k ∉ m.map Prod.fst → f k = []) →
    RdS E H' ((mget m k).getD (.slice none 0 0)) (f k)
  | [], [], k, _, _, _, h0 => by rw [h0 (by simp)]; exact RdS.nil
  | q :: m, c0 :: r, k, h, hl, hr, h0 => by
    by_cases hk : q.1 = k
    · subst hk
      rw [mget_cons_eq rfl]
      exact h.1.read hl (fun q hq => hr q (by simp only [List.flatten_cons]; exact List.mem_append_left _ hq))
    · rw [mget_cons_ne hk]
      exact F2.read k h.2 hl (fun q hq => hr q (by simp only [List.flatten_cons]; exact List.mem_append_right _ hq)) (fun hx => h0 (by simp only [List.map_cons, List.mem_cons, not_or]; exact ⟨fun e => hk e.symm, hx⟩))
  | [], _ :: _, _, h, _, _, _ => h.elim
  | _ :: _, [], _, h, _, _, _ => h.elim
end Go.SX
namespace Go.SX
open Go
attribute [local semireducible] T TL
theorem R.nilN {fr : Fr} {x : Cx} {Q : Post} {σ : Env} {H : Heap} {L : Own} {ds : List Nat} {ol rest : List Oper} {d : Nat} {ty : TypeId} {p : String} {af : Array Edge} {g : Option (Nat × Bool)}
    {X Y : Operand} {t e yt : TypeId} {A : Option Addr} {n c : Nat} (ht : fr.P.underlying t = some (.slice e)) (hw : wan fr.N ol σ d g = true) (hx : ev σ X = .slice A n c) (hy : ev σ Y = .slice none 0 0)
    (h : TL fr x ol rest Q (upd σ d (.bool (!A.isNone))) H L ds) : TL fr x ol (⟨some d, .binOp .neq t X Y yt, ty, p, af, g⟩ :: rest) Q σ H L ds :=
  TL.pureE hw rfl (fun w => by simp [execOp, eqGuard, hx, hy, binOp, run_equal_slice_nil w t e A n c ht]) h
end Go.SX
