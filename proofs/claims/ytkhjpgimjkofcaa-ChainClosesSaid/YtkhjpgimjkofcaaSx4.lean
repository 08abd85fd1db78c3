/- SX: slices: reading, making, appending, cutting. -/
import Derived.Test.YtkhjpgimjkofcaaSx3
import Derived.Laws.Slices
import Derived.Laws.MakeOwn
set_option linter.unusedVariables false
set_option linter.unusedSimpArgs false
namespace Go.SX
open Go
attribute [local semireducible] T TL

/-- How an element lies in cells. -/
structure ER (α : Type) where
  size : Nat
  R : Heap → List Value → α → Prop
  len : ∀ {H cs x}, R H cs x → cs.length = size
  mono : ∀ {H H' cs x}, HLe H H' → R H cs x → R H' cs x
  one : ∀ {H cs x}, R H cs x → ∀ v ∈ cs, v.oneCell' = true

def intE (k : IntKind) : ER Int where
  size := 1
  R := fun _ cs x => cs = [.int k x]
  len := fun h => by subst h; rfl
  mono := fun _ h => h
  one := fun h v hv => by subst h; simp at hv; subst hv; rfl
def boolE : ER Bool where
  size := 1
  R := fun _ cs x => cs = [.bool x]
  len := fun h => by subst h; rfl
  mono := fun _ h => h
  one := fun h v hv => by subst h; simp at hv; subst hv; rfl
/-- A struct of two ints. -/
def pairE : ER (Int × Int) where
  size := 2
  R := fun _ cs x => cs = [.int .i64 x.1, .int .i64 x.2]
  len := fun h => by subst h; rfl
  mono := fun _ h => h
  one := fun h v hv => by subst h; simp at hv; rcases hv with rfl | rfl <;> rfl

def cellAt (H : Heap) (b o : Nat) : Option Value := match H b with
  | some (.cells c _ _) => c[o]?
  | _ => none
theorem cellAt_mono {H H' : Heap} (h : HLe H H') {b o : Nat} {v : Value} (hc : cellAt H b o = some v) : cellAt H' b o = some v := by
  unfold cellAt at hc ⊢
  cases hb : H b with
  | none => rw [hb] at hc; cases hc
  | some ob => rw [hb] at hc; rw [h b ob hb]; exact hc
theorem cellAt_world {H : Heap} {L : Chunk} {w : World} (h : Sat H L w) {b o : Nat} {v : Value} (hc : cellAt H b o = some v) : w.cell? ⟨b, o, none⟩ = some v := by
  unfold cellAt at hc
  cases hb : H b with
  | none => rw [hb] at hc; cases hc
  | some ob =>
    rw [hb] at hc
    cases ob <;> simp only at hc <;> first | cases hc | (exact cell_of_heap (h.h b _ hb) hc)

def ElemAt {α : Type} (E : ER α) (H : Heap) (b o : Nat) (x : α) : Prop := ∃ cs, E.R H cs x ∧ ∀ j v, cs[j]? = some v → cellAt H b (o + j) = some v
theorem ElemAt.mono {α : Type} {E : ER α} {H H' : Heap} {b o : Nat} {x : α} (h : ElemAt E H b o x) (hl : HLe H H') : ElemAt E H' b o x := by
  obtain ⟨cs, h1, h2⟩ := h
  exact ⟨cs, E.mono hl h1, fun j v hj => cellAt_mono hl (h2 j v hj)⟩

/-- v reads as the list xs. -/
def RdS {α : Type} (E : ER α) (H : Heap) (v : Value) (xs : List α) : Prop :=
  ∃ A c, v = .slice A xs.length c ∧ xs.length ≤ c ∧ c ≤ maxLen ∧ ∀ i x, xs[i]? = some x → ∃ b o, A = some ⟨b, o, none⟩ ∧ ElemAt E H b (o + i * E.size) x
theorem RdS.mono {α : Type} {E : ER α} {H H' : Heap} {v : Value} {xs : List α} (h : RdS E H v xs) (hl : HLe H H') : RdS E H' v xs := by
  obtain ⟨A, c, h1, h2, h3, h4⟩ := h
  refine ⟨A, c, h1, h2, h3, fun i x hx => ?_⟩
  obtain ⟨b, o, h5, h6⟩ := h4 i x hx
  exact ⟨b, o, h5, h6.mono hl⟩
theorem RdS.nil {α : Type} {E : ER α} {H : Heap} : RdS E H (.slice none 0 0) ([] : List α) := ⟨none, 0, rfl, Nat.le_refl _, by unfold maxLen; omega, fun i x h => by simp at h⟩
theorem RdS.shape {α : Type} {E : ER α} {H : Heap} {v : Value} {xs : List α} (h : RdS E H v xs) : ∃ A c, v = .slice A xs.length c ∧ xs.length ≤ c ∧ c ≤ 9223372036854775807 ∧ RdS E H (.slice A xs.length c) xs := by
  obtain ⟨A, c, h1, h2, h3, h4⟩ := h
  exact ⟨A, c, h1, h2, by simpa [maxLen] using h3, A, c, rfl, h2, h3, h4⟩

def slE {α : Type} (E : ER α) : ER (List α) where
  size := 1
  R := fun H cs xs => ∃ v, cs = [v] ∧ RdS E H v xs
  len := fun h => by obtain ⟨v, rfl, _⟩ := h; rfl
  mono := fun hl h => by obtain ⟨v, rfl, h⟩ := h; exact ⟨v, rfl, h.mono hl⟩
  one := fun h v hv => by obtain ⟨u, rfl, A, c, rfl, _⟩ := h; simp at hv; subst hv; rfl

/-- v is a slice of one's own: chunk c bears its array. -/
def OwnS {α : Type} (E : ER α) (e : TypeId) (H : Heap) (v : Value) (xs : List α) (c : Chunk) : Prop :=
  (v = .slice none 0 0 ∧ xs = [] ∧ c = []) ∨
  ∃ b cap cs, v = .slice (some ⟨b, 0, none⟩) xs.length cap ∧ c = [(b, .cells cs e)] ∧ xs.length ≤ cap ∧ cap ≤ maxLen ∧ cs.size = cap * E.size ∧
    ∀ i x, xs[i]? = some x → ∃ l, E.R H l x ∧ ∀ j u, l[j]? = some u → cs[i * E.size + j]? = some u
theorem OwnS.mono {α : Type} {E : ER α} {e : TypeId} {H H' : Heap} {v : Value} {xs : List α} {c : Chunk} (h : OwnS E e H v xs c) (hl : HLe H H') : OwnS E e H' v xs c := by
  rcases h with h | ⟨b, cap, cs, h1, h2, h3, h4, h5, h6⟩
  · exact .inl h
  · refine .inr ⟨b, cap, cs, h1, h2, h3, h4, h5, fun i x hx => ?_⟩
    obtain ⟨l, h7, h8⟩ := h6 i x hx
    exact ⟨l, E.mono hl h7, h8⟩
theorem OwnS.nil {α : Type} {E : ER α} {e : TypeId} {H : Heap} : OwnS E e H (.slice none 0 0) ([] : List α) [] := .inl ⟨rfl, rfl, rfl⟩
theorem OwnS.shape {α : Type} {E : ER α} {e : TypeId} {H : Heap} {v : Value} {xs : List α} {c : Chunk} (h : OwnS E e H v xs c) : ∃ A cap, v = .slice A xs.length cap ∧ xs.length ≤ cap ∧ cap ≤ 9223372036854775807 := by
  rcases h with ⟨rfl, rfl, _⟩ | ⟨b, cap, cs, h1, _, h3, h4, _⟩
  · exact ⟨none, 0, rfl, Nat.le_refl _, by omega⟩
  · exact ⟨_, cap, h1, h3, by simpa [maxLen] using h4⟩
/-- What is shut for good can be read. -/
theorem OwnS.read {α : Type} {E : ER α} {e : TypeId} {H H' : Heap} {v : Value} {xs : List α} {c : Chunk} (h : OwnS E e H v xs c) (hl : HLe H H') (hc : ∀ q ∈ c, H' q.1 = some q.2) : RdS E H' v xs := by
  rcases h with ⟨rfl, rfl, _⟩ | ⟨b, cap, cs, rfl, rfl, h3, h4, _, h6⟩
  · exact RdS.nil
  · refine ⟨_, cap, rfl, h3, h4, fun i x hx => ⟨b, 0, rfl, ?_⟩⟩
    obtain ⟨l, h7, h8⟩ := h6 i x hx
    refine ⟨l, E.mono hl h7, fun j u hj => ?_⟩
    have := hc (b, .cells cs e) (List.mem_singleton.2 rfl)
    unfold cellAt
    rw [this]
    rw [Nat.zero_add]
    exact h8 j u hj

/-- The cells of a row of elements. -/
def CellsOf {α : Type} (E : ER α) (H : Heap) : List Value → List α → Prop
  | cs, [] => cs = []
  | cs, x :: xs => ∃ a r, cs = a ++ r ∧ E.R H a x ∧ CellsOf E H r xs
theorem CellsOf.length {α : Type} {E : ER α} {H : Heap} : ∀ {xs : List α} {cs : List Value}, CellsOf E H cs xs → cs.length = xs.length * E.size
  | [], cs, h => by have : cs = [] := h; simp [this]
  | x :: xs, cs, h => by
    obtain ⟨a, r, rfl, h1, h2⟩ := h
    rw [List.length_append, E.len h1, CellsOf.length h2, List.length_cons, Nat.add_mul]
    omega
theorem CellsOf.get {α : Type} {E : ER α} {H : Heap} : ∀ {xs : List α} {cs : List Value}, CellsOf E H cs xs → ∀ i x, xs[i]? = some x → ∃ l, E.R H l x ∧ ∀ j u, l[j]? = some u → cs[i * E.size + j]? = some u
  | [], cs, h, i, x, hx => by simp at hx
  | y :: xs, cs, h, i, x, hx => by
    obtain ⟨a, r, rfl, h1, h2⟩ := h
    cases i with
    | zero =>
      simp only [List.getElem?_cons_zero, Option.some.injEq] at hx
      subst hx
      refine ⟨a, h1, fun j u hj => ?_⟩
      rw [Nat.zero_mul, Nat.zero_add, List.getElem?_append_left (List.getElem?_eq_some_iff.1 hj).1]
      exact hj
    | succ i =>
      simp only [List.getElem?_cons_succ] at hx
      obtain ⟨l, h3, h4⟩ := CellsOf.get h2 i x hx
      refine ⟨l, h3, fun j u hj => ?_⟩
      have hal := E.len h1
      rw [List.getElem?_append_right (by rw [hal, Nat.add_mul]; omega), hal, show (i + 1) * E.size + j - E.size = i * E.size + j by rw [Nat.add_mul]; omega]
      exact h4 j u hj
theorem CellsOf.one {α : Type} {E : ER α} {H : Heap} : ∀ {xs : List α} {cs : List Value}, CellsOf E H cs xs → ∀ v ∈ cs, v.oneCell' = true
  | [], cs, h, v, hv => by have : cs = [] := h; simp [this] at hv
  | x :: xs, cs, h, v, hv => by
    obtain ⟨a, r, rfl, h1, h2⟩ := h
    rcases List.mem_append.1 hv with hv | hv
    · exact E.one h1 v hv
    · exact CellsOf.one h2 v hv
/-- Of a row that can be read: the list of its cells. -/
theorem cells_of_get {α : Type} {E : ER α} {H : Heap} : ∀ (xs : List α) (f : Nat → Option Value), (∀ i x, xs[i]? = some x → ∃ l, E.R H l x ∧ ∀ j u, l[j]? = some u → f (i * E.size + j) = some u) →
    ∃ cs, CellsOf E H cs xs ∧ ∀ j u, cs[j]? = some u → f j = some u
  | [], f, _ => ⟨[], rfl, fun j u h => by simp at h⟩
  | x :: xs, f, h => by
    obtain ⟨a, h1, h2⟩ := h 0 x rfl
    have hal := E.len h1
    obtain ⟨r, h3, h4⟩ := cells_of_get xs (fun j => f (E.size + j)) (fun i y hy => by
      obtain ⟨l, h5, h6⟩ := h (i + 1) y (by simpa using hy)
      exact ⟨l, h5, fun j u hj => by have := h6 j u hj; rw [Nat.add_mul, Nat.one_mul] at this; rw [← Nat.add_assoc, Nat.add_comm E.size]; exact this⟩)
    refine ⟨a ++ r, ⟨a, r, rfl, h1, h3⟩, fun j u hj => ?_⟩
    by_cases hja : j < a.length
    · rw [List.getElem?_append_left hja] at hj
      have := h2 j u hj
      rwa [Nat.zero_mul, Nat.zero_add] at this
    · rw [List.getElem?_append_right (Nat.le_of_not_lt hja)] at hj
      have := h4 _ u hj
      rwa [hal, show E.size + (j - E.size) = j by omega] at this

/-- v is a slice of m elements whose cells are cs, in whatever world fits. -/
def Src (H : Heap) (L : Own) (v : Value) (m : Nat) (cs : List Value) : Prop :=
  ∃ A c, v = .slice A m c ∧ (cs = [] ∨ ∃ b o, A = some ⟨b, o, none⟩) ∧ ∀ b o, A = some ⟨b, o, none⟩ → ∀ hd w, Sat H (L.flatten ++ hd) w → ∀ j u, cs[j]? = some u → w.cell? ⟨b, o + j, none⟩ = some u
theorem Src.rd {α : Type} {E : ER α} {H : Heap} {L : Own} {v : Value} {xs : List α} (h : RdS E H v xs) : ∃ cs, CellsOf E H cs xs ∧ Src H L v xs.length cs := by
  obtain ⟨A, c, rfl, h2, h3, h4⟩ := h
  cases xs with
  | nil => exact ⟨[], rfl, A, c, rfl, .inl rfl, fun b o _ hd w _ j u hj => by simp at hj⟩
  | cons y ys =>
    obtain ⟨b, o, rfl, _⟩ := h4 0 y rfl
    obtain ⟨cs, h5, h6⟩ := cells_of_get (H := H) (y :: ys) (fun j => cellAt H b (o + j)) (fun i x hx => by
      obtain ⟨b', o', e, l, h7, h8⟩ := h4 i x hx
      cases e
      exact ⟨l, h7, fun j u hj => by have := h8 j u hj; rwa [Nat.add_assoc] at this⟩)
    refine ⟨cs, h5, _, c, rfl, .inr ⟨b, o, rfl⟩, fun b' o' e hd w hs j u hj => ?_⟩
    cases e
    exact cellAt_world hs (h6 j u hj)
theorem Src.own {α : Type} {E : ER α} {e : TypeId} {H : Heap} {L : Own} {v : Value} {xs : List α} {c : Chunk} (h : OwnS E e H v xs c) (hin : In L c) : ∃ cs, CellsOf E H cs xs ∧ Src H L v xs.length cs := by
  rcases h with ⟨rfl, rfl, rfl⟩ | ⟨b, cap, ar, rfl, rfl, h3, h4, h5, h6⟩
  · exact ⟨[], rfl, none, 0, rfl, .inl rfl, fun b o e => by cases e⟩
  · obtain ⟨cs, h7, h8⟩ := cells_of_get (H := H) xs (fun j => ar[j]?) h6
    refine ⟨cs, h7, _, cap, rfl, .inr ⟨b, 0, rfl⟩, fun b' o' e' hd w hs j u hj => ?_⟩
    cases e'
    have hb := hs.l (b, .cells ar e) (List.mem_append_left _ (hin.mem (List.mem_singleton.2 rfl)))
    rw [Nat.zero_add]
    exact cell_of_heap hb (h8 j u hj)
/-- A literal's row: '[]T{..}' of cells vs. -/
theorem Src.lit {H : Heap} {L : Own} {b n cap : Nat} {vs : List Value} {et : TypeId} (hin : In L [(b, .cells vs.toArray et)]) : Src H L (.slice (some ⟨b, 0, none⟩) n cap) n vs :=
  ⟨_, cap, rfl, .inr ⟨b, 0, rfl⟩, fun b' o' e' hd w hs j u hj => by
    cases e'
    have hb := hs.l (b, .cells vs.toArray et) (List.mem_append_left _ (hin.mem (List.mem_singleton.2 rfl)))
    rw [Nat.zero_add]
    exact cell_of_heap hb (by simpa using hj)⟩

/-- What a type's row of the table says of an element. -/
structure TyE {α : Type} (P : Program) (t e : TypeId) (E : ER α) (bytes : Nat) : Prop where
  sl : P.underlying t = some (.slice e)
  info : ∃ i z, P.info? e = some i ∧ i.zero = some z ∧ i.size = E.size ∧ i.bytes = bytes ∧ z.cells.size = E.size
  pos : 0 < E.size
theorem TyE.mk' {α : Type} {P : Program} {t e : TypeId} {E : ER α} {bytes : Nat} {z : Value} (h1 : P.underlying t = some (.slice e)) (h2 : (P.info? e).map (fun i => (i.zero, i.size, i.bytes)) = some (some z, E.size, bytes)) (h3 : z.cells.size = E.size) (h4 : 0 < E.size) : TyE P t e E bytes := by
  refine ⟨h1, ?_, h4⟩
  cases hi : P.info? e with
  | none => rw [hi] at h2; cases h2
  | some i =>
    rw [hi] at h2
    simp only [Option.map_some, Option.some.injEq, Prod.mk.injEq] at h2
    exact ⟨i, z, rfl, h2.1, h2.2.1, h2.2.2, h3⟩

theorem own_after {α : Type} {E : ER α} {e : TypeId} {H : Heap} {xs ys : List α} {old new : List Value} {ar : Array Value} (ho : CellsOf E H old xs) (hn : CellsOf E H new ys)
    (h1 : ∀ (j : Nat) (u : Value), (old ++ new)[j]? = some u → ar[j]? = some u) (b cap : Nat) (h3 : xs.length + ys.length ≤ cap) (h4 : cap ≤ maxLen) (h5 : ar.size = cap * E.size) :
    OwnS E e H (.slice (some ⟨b, 0, none⟩) (xs.length + ys.length) cap) (xs ++ ys) [(b, .cells ar e)] := by
  refine .inr ⟨b, cap, ar, by rw [List.length_append], rfl, by rw [List.length_append]; exact h3, h4, h5, fun i x hx => ?_⟩
  by_cases hi : i < xs.length
  · rw [List.getElem?_append_left hi] at hx
    obtain ⟨l, h6, h7⟩ := ho.get i x hx
    exact ⟨l, h6, fun j u hj => h1 _ u (by have := h7 j u hj; rw [List.getElem?_append_left (List.getElem?_eq_some_iff.1 this).1]; exact this)⟩
  · rw [List.getElem?_append_right (Nat.le_of_not_lt hi)] at hx
    obtain ⟨l, h6, h7⟩ := hn.get _ x hx
    refine ⟨l, h6, fun j u hj => h1 _ u ?_⟩
    have h8 := h7 j u hj
    have hle : xs.length * E.size ≤ i * E.size := Nat.mul_le_mul_right _ (Nat.le_of_not_lt hi)
    rw [List.getElem?_append_right (by rw [ho.length]; omega), ho.length]
    rw [show i * E.size + j - xs.length * E.size = (i - xs.length) * E.size + j by rw [Nat.sub_mul]; omega]
    exact h8

theorem zeroCells_size (z : Array Value) (n : Nat) : (Builtin.zeroCells z n).size = n * z.size := by simp [Builtin.zeroCells]

theorem run_value {P : Program} {s : Sem Value} {v : Value} {w w' : World} (h : s.run P w = .ok v w') : (do pure (Next.value (← s)) : Sem Next).run P w = .ok (.value v) w' := by simp [h]

section
variable {fr : Fr} {x : Cx} {Q : Post} {σ : Env} {H : Heap} {L : Own} {ds : List Nat} {ol rest : List Oper}
variable {d : Nat} {ty : TypeId} {p : String} {af : Array Edge} {g : Option (Nat × Bool)}

/-- An element's address. -/
theorem R.ixa {α : Type} {E : ER α} {t e : TypeId} {X I : Operand} {v : Value} {xs : List α} {k : IntKind} {i : Int} {y : α} (ht : fr.P.underlying t = some (.slice e)) (hsz : ∀ w, (sizeOf e).run fr.P w = .ok E.size w)
    (hw : wan fr.N ol σ d g = true) (hv : ev σ X = v) (hr : RdS E H v xs) (hi : ev σ I = .int k i) (h0 : 0 ≤ i) (hy : xs[i.toNat]? = some y)
    (h : ∀ b o, ElemAt E H b o y → TL fr x ol rest Q (upd σ d (.pointer (some ⟨b, o, none⟩))) H L ds) : TL fr x ol (⟨some d, .indexAddr t X I, ty, p, af, g⟩ :: rest) Q σ H L ds := by
  obtain ⟨A, c, rfl, h2, h3, h4⟩ := hr
  obtain ⟨b, o, rfl, he⟩ := h4 _ y hy
  have hlt := (List.getElem?_eq_some_iff.1 hy).1
  have hlt' : i < (xs.length : Int) := by omega
  refine TL.pureE hw rfl (fun w => ?_) (h b _ he)
  simp [execOp, Instr.indexAt, hv, hi, asIntOf, run_underlying ht, h0, hlt', hsz, Addr.add_lit]
/-- Where an element lies. -/
def IxAt (v : Value) (sz i b o : Nat) : Prop := ∃ o0 n c, v = .slice (some ⟨b, o0, none⟩) n c ∧ i < n ∧ o = o0 + i * sz
theorem RdS.elem {α : Type} {E : ER α} {v : Value} {xs : List α} (hr : RdS E H v xs) {i : Nat} {y : α} (hy : xs[i]? = some y) : ∃ b o, IxAt v E.size i b o ∧ ElemAt E H b o y := by
  obtain ⟨A, c, rfl, h2, h3, h4⟩ := hr
  obtain ⟨b, o, rfl, he⟩ := h4 _ y hy
  exact ⟨b, _, ⟨o, _, c, rfl, (List.getElem?_eq_some_iff.1 hy).1, rfl⟩, he⟩
theorem OwnS.elem {α : Type} {E : ER α} {e : TypeId} {v : Value} {xs : List α} {c : Chunk} (h : OwnS E e H v xs c) {i : Nat} {y : α} (hy : xs[i]? = some y) : ∃ b cap cs l, c = [(b, .cells cs e)] ∧ v = .slice (some ⟨b, 0, none⟩) xs.length cap ∧ IxAt v E.size i b (i * E.size) ∧ E.R H l y ∧ ∀ j u, l[j]? = some u → cs[i * E.size + j]? = some u := by
  rcases h with ⟨rfl, rfl, rfl⟩ | ⟨b, cap, cs, rfl, rfl, h3, h4, h5, h6⟩
  · simp at hy
  · obtain ⟨l, h7, h8⟩ := h6 i y hy
    exact ⟨b, cap, cs, l, rfl, rfl, ⟨0, _, cap, rfl, (List.getElem?_eq_some_iff.1 hy).1, by rw [Nat.zero_add]⟩, h7, h8⟩
theorem R.ixp {t e : TypeId} {X I : Operand} {v : Value} {k : IntKind} {i : Int} {sz b o : Nat} (ht : fr.P.underlying t = some (.slice e)) (hsz : ∀ w, (sizeOf e).run fr.P w = .ok sz w)
    (hw : wan fr.N ol σ d g = true) (hv : ev σ X = v) (hi : ev σ I = .int k i) (h0 : 0 ≤ i) (hx : IxAt v sz i.toNat b o)
    (h : TL fr x ol rest Q (upd σ d (.pointer (some ⟨b, o, none⟩))) H L ds) : TL fr x ol (⟨some d, .indexAddr t X I, ty, p, af, g⟩ :: rest) Q σ H L ds := by
  obtain ⟨o0, n, c, rfl, h1, rfl⟩ := hx
  refine TL.pureE hw rfl (fun w => ?_) h
  have hlt : i < (n : Int) := by omega
  simp [execOp, Instr.indexAt, hv, hi, asIntOf, run_underlying ht, h0, hlt, hsz, Addr.add_lit]
theorem ElemAt.sl {α : Type} {E : ER α} {b o : Nat} {ys : List α} (he : ElemAt (slE E) H b o ys) : ∃ v, cellAt H b o = some v ∧ RdS E H v ys := by
  obtain ⟨cs, ⟨v, rfl, h1⟩, h2⟩ := he
  exact ⟨v, h2 0 _ rfl, h1⟩
theorem ElemAt.int {k : IntKind} {b o : Nat} {y : Int} (he : ElemAt (intE k) H b o y) : cellAt H b o = some (.int k y) := by
  obtain ⟨cs, h1, h2⟩ := he
  have h1' : cs = [.int k y] := h1
  subst h1'
  exact h2 0 _ rfl
/-- An element's address, of a row of one's own: the load follows. -/
theorem R.ixaO {t e : TypeId} {X I : Operand} {b n cap sz : Nat} {k : IntKind} {i : Int} (ht : fr.P.underlying t = some (.slice e)) (hsz : ∀ w, (sizeOf e).run fr.P w = .ok sz w)
    (hw : wan fr.N ol σ d g = true) (hv : ev σ X = .slice (some ⟨b, 0, none⟩) n cap) (hi : ev σ I = .int k i) (h0 : 0 ≤ i) (hlt : i < n)
    (h : TL fr x ol rest Q (upd σ d (.pointer (some ⟨b, i.toNat * sz, none⟩))) H L ds) : TL fr x ol (⟨some d, .indexAddr t X I, ty, p, af, g⟩ :: rest) Q σ H L ds := by
  refine TL.pureE hw rfl (fun w => ?_) h
  simp [execOp, Instr.indexAt, hv, hi, asIntOf, run_underlying ht, h0, hlt, hsz, Addr.add_lit]

theorem R.ldC {t : TypeId} {A : Operand} {b o : Nat} {v : Value} (hagg : ∀ w, (isAgg t).run fr.P w = .ok false w) (hw : wan fr.N ol σ d g = true) (ha : ev σ A = .pointer (some ⟨b, o, none⟩))
    (hc : cellAt H b o = some v) (h : TL fr x ol rest Q (upd σ d v) H L ds) : TL fr x ol (⟨some d, .load t A, ty, p, af, g⟩ :: rest) Q σ H L ds :=
  TL.value hw rfl (fun w hst => by
    have hc := cellAt_world hst.sat hc
    exact ⟨v, w, H, L, by simp [execOp, Instr.loadAt, Instr.sureAddr, loadVar, ha, hagg, hc], hst, h⟩)
theorem R.ldI {t : TypeId} {A : Operand} {b o : Nat} {k : IntKind} {y : Int} (hagg : ∀ w, (isAgg t).run fr.P w = .ok false w) (hw : wan fr.N ol σ d g = true) (ha : ev σ A = .pointer (some ⟨b, o, none⟩))
    (he : ElemAt (intE k) H b o y) (h : TL fr x ol rest Q (upd σ d (.int k y)) H L ds) : TL fr x ol (⟨some d, .load t A, ty, p, af, g⟩ :: rest) Q σ H L ds := by
  obtain ⟨cs, h1, h2⟩ := he
  have h1' : cs = [.int k y] := h1
  subst h1'
  exact R.ldC hagg hw ha (h2 0 _ rfl) h
theorem R.ldS {α : Type} {E : ER α} {t : TypeId} {A : Operand} {b o : Nat} {ys : List α} (hagg : ∀ w, (isAgg t).run fr.P w = .ok false w) (hw : wan fr.N ol σ d g = true) (ha : ev σ A = .pointer (some ⟨b, o, none⟩))
    (he : ElemAt (slE E) H b o ys) (h : ∀ v, RdS E H v ys → TL fr x ol rest Q (upd σ d v) H L ds) : TL fr x ol (⟨some d, .load t A, ty, p, af, g⟩ :: rest) Q σ H L ds := by
  obtain ⟨cs, ⟨v, rfl, h1⟩, h2⟩ := he
  exact R.ldC hagg hw ha (h2 0 _ rfl) (h v h1)
/-- A struct is loaded whole. -/
theorem R.ldA {α : Type} {E : ER α} {t : TypeId} {A : Operand} {b o : Nat} {y : α} (hagg : ∀ w, (isAgg t).run fr.P w = .ok true w) (hsz : ∀ w, (sizeOf t).run fr.P w = .ok E.size w) (hw : wan fr.N ol σ d g = true) (ha : ev σ A = .pointer (some ⟨b, o, none⟩))
    (he : ElemAt E H b o y) (h : ∀ cs, E.R H cs y → TL fr x ol rest Q (upd σ d (.agg cs.toArray)) H L ds) : TL fr x ol (⟨some d, .load t A, ty, p, af, g⟩ :: rest) Q σ H L ds := by
  obtain ⟨cs, h1, h2⟩ := he
  refine TL.value hw rfl (fun w hst => ⟨.agg cs.toArray, w, H, L, ?_, hst, h cs h1⟩)
  have hl := run_loadCells_list (P := fr.P) w ⟨b, o, none⟩ cs (fun j u hj => by rw [Addr.add_lit]; exact cellAt_world hst.sat (h2 j u hj))
  rw [E.len h1] at hl
  simp [execOp, Instr.loadAt, Instr.sureAddr, loadVar, ha, hagg, hsz, hl]

/-- A literal's row of one-cell elements. -/
theorem R.bs {t e : TypeId} {n : Nat} {ps : List (Nat × Operand)} {cs : List Value} (hw : wan fr.N ol σ d g = true)
    (hrun : ∀ w, (Instr.buildSlice t n ((ps.map (fun q => (q.1, ev σ q.2))).toArray)).run fr.P w = .ok (.slice (some ⟨w.heap.size, 0, none⟩) n n) (w.alloc (.cells cs.toArray e)))
    (h : ∀ b, TL fr x ol rest Q (upd σ d (.slice (some ⟨b, 0, none⟩) n n)) H ([(b, .cells cs.toArray e)] :: L) ds) : TL fr x ol (⟨some d, .buildSlice t n ps.toArray, ty, p, af, g⟩ :: rest) Q σ H L ds := by
  refine TL.value hw rfl (fun w hst => ⟨_, w.alloc (.cells cs.toArray e), H, _, ?_, hst.new _, h w.heap.size⟩)
  simp only [execOp, List.map_toArray]
  simp [hrun]
theorem run_buildSlice1 {P : Program} {t e : TypeId} {z v : Value} (ht : P.underlying t = some (.slice e)) (hsz : ∀ w, (sizeOf e).run P w = .ok 1 w) (hz : ∀ w, (zeroValue e).run P w = .ok z w) (hz1 : z.oneCell' = true) (hv : v.oneCell' = true) (w : World) :
    (Instr.buildSlice t 1 #[(0, v)]).run P w = .ok (.slice (some ⟨w.heap.size, 0, none⟩) 1 1) (w.alloc (.cells #[v] e)) := by
  have hcz : z.cells = #[z] := by cases z <;> first | rfl | cases hz1
  have hcv : v.cells = #[v] := by cases v <;> first | rfl | cases hv
  simp [Instr.buildSlice, run_underlying ht, hsz, hz, hcz, Instr.fill, hcv, newRow]
  congr 2
  refine Array.ext (by simp) (fun i h1 h2 => ?_)
  have : i = 0 := by simpa using h2
  subst this
  simp

/-- append, whatever is put on. -/
theorem R.app {α : Type} {E : ER α} {t e : TypeId} {bytes : Nat} {S X : Operand} {v xv : Value} {xs ys : List α} {c : Chunk} {R : Own} {cells : List Value} (hty : TyE fr.P t e E bytes) (hw : wan fr.N ol σ d g = true)
    (hs : ev σ S = v) (hx : ev σ X = xv) (hown : OwnS E e H v xs c) (hdel : Del L c R) (hsrc : Src H L xv ys.length cells) (hys : CellsOf E H cells ys)
    (h63 : xs.length + ys.length ≤ 4611686018427387904) (hby : (xs.length + ys.length) * bytes ≤ 140737488355328)
    (h : ∀ v' c', OwnS E e H v' (xs ++ ys) c' → TL fr x ol rest Q (upd σ d v') H (c' :: R) ds) :
    TL fr x ol (⟨some d, .call { callee := .builtin .append, args := #[S, X], argTypes := #[t, t] }, ty, p, af, g⟩ :: rest) Q σ H L ds := by
  obtain ⟨ht, ⟨i, z, hi, hz, hsize, hbytes, hzs⟩, hpos⟩ := hty
  refine TL.value hw rfl (fun w hst => ?_)
  have hex : (execOp (ev σ) ⟨some d, .call { callee := .builtin .append, args := #[S, X], argTypes := #[t, t] }, ty, p, af, g⟩) = (do pure (Next.value (← Builtin.append_ #[t, t] ty #[v, xv]))) := by
    simp [execOp, resolve, invoke, builtin, hs, hx]
  rw [hex]
  have hst1 : St x H (c ++ (R.flatten ++ hid fr.rd ds)) w := hst.perm (by rw [← List.append_assoc]; exact hdel.perm.append_right _)
  obtain ⟨A, cx, rfl, hA, hcell⟩ := hsrc
  have hlen := hys.length
  have hmax : xs.length + ys.length ≤ maxLen := by unfold maxLen; omega
  -- nothing is put on, or something
  by_cases hy0 : ys = []
  · subst hy0
    have hc0 : cells = [] := hys
    subst hc0
    have key : (Builtin.append_ #[t, t] ty #[v, .slice A 0 cx]).run fr.P w = .ok v w := by
      rcases hown with ⟨rfl, rfl, rfl⟩ | ⟨b, cap, cs, rfl, rfl, h3, h4, h5, h6⟩
      · cases A <;> simp [Builtin.append_, run_underlying ht, sizeOf, typeInfo, hi, Builtin.lenOf, Builtin.firstCells, loadCells, loadCellsFrom]
      · cases A <;> simp [Builtin.append_, run_underlying ht, sizeOf, typeInfo, hi, Builtin.lenOf, Builtin.firstCells, loadCells, loadCellsFrom, h3, storeCells]
    refine ⟨v, w, H, c :: R, run_value key, ?_, h v c (by rw [List.append_nil]; exact hown)⟩
    simpa using hst1
  · have hylen : 0 < ys.length := by cases ys with | nil => exact absurd rfl hy0 | cons _ _ => simp
    have hne : cells ≠ [] := by
      intro e
      rw [e] at hlen
      simp only [List.length_nil] at hlen
      have := Nat.mul_pos hylen hpos
      omega
    obtain ⟨sb, so, rfl⟩ := hA.resolve_left hne
    have hnews : ∀ j u, cells[j]? = some u → w.cell? ((⟨sb, so, none⟩ : Addr).add j) = some u := fun j u hj => by rw [Addr.add_lit]; exact hcell sb so rfl _ w hst.sat j u hj
    have hnl : cells.length = ys.length * i.size := by rw [hsize]; exact hlen
    rcases hown with ⟨rfl, rfl, rfl⟩ | ⟨b, cap, cs, rfl, rfl, h3, h4, h5, h6⟩
    · -- a nil slice: a new row
      have hrun := run_append_nil (P := fr.P) w t ty e i z ht hi hz ⟨sb, so, none⟩ ys.length cx cells hnl hnews hylen (by simp at h63; omega) (by rw [hbytes]; simp at hby; omega)
      have hge := grownCap_ge w ys.length 0 e
      have hcm := grownCap_le_maxLen w ys.length 0 e (by simpa using hmax)
      refine ⟨_, _, H, [(w.heap.size, .cells (cells.toArray ++ Builtin.zeroCells z.cells (grownCap w ys.length 0 e - ys.length)) e)] :: R, run_value hrun, ?_, h _ _ ?_⟩
      · have := (hst1.drew).alloc (.cells (cells.toArray ++ Builtin.zeroCells z.cells (grownCap w ys.length 0 e - ys.length)) e)
        simpa using this
      · have := own_after (E := E) (e := e) (H := H) (xs := []) (ys := ys) (old := []) (new := cells) (ar := cells.toArray ++ Builtin.zeroCells z.cells (grownCap w ys.length 0 e - ys.length)) rfl hys
          (fun j u hj => by
            have hj' : cells[j]? = some u := by simpa using hj
            have hlt := (List.getElem?_eq_some_iff.1 hj').1
            rw [Array.getElem?_append_left (by simpa using hlt)]
            simpa using hj') w.heap.size (grownCap w ys.length 0 e) (by simpa using hge) hcm (by
            simp only [Array.size_append, List.size_toArray, zeroCells_size, hzs, hlen, ← Nat.add_mul]
            congr 1
            omega)
        simpa using this
    · obtain ⟨old, ho, hold⟩ := cells_of_get (H := H) xs (fun j => cs[j]?) h6
      have hb := hst1.sat.l (b, .cells cs e) (List.mem_append_left _ (List.mem_singleton.2 rfl))
      simp only at hb
      by_cases hroom : xs.length + ys.length ≤ cap
      · -- there is room
        have hfit : xs.length * i.size + cells.length ≤ cs.size := by
          rw [hsize, hlen, h5, ← Nat.add_mul]; exact Nat.mul_le_mul_right _ hroom
        have hrun := run_append_room (P := fr.P) w t ty e i ht hi b xs.length cap cs hb ⟨sb, so, none⟩ ys.length cx cells hnl hnews hys.one hroom hfit
        have hsetsz : (cs.toList.take (xs.length * i.size) ++ cells ++ cs.toList.drop (xs.length * i.size + cells.length)).length = cs.size := by
          simp only [List.length_append, List.length_take, List.length_drop, Array.length_toList]; omega
        refine ⟨_, _, H, [(b, .cells (cs.toList.take (xs.length * i.size) ++ cells ++ cs.toList.drop (xs.length * i.size + cells.length)).toArray e)] :: R, run_value hrun, ?_, h _ _ ?_⟩
        · have h2 := hst1.turn (x := x) (w' := w.setRow b (cs.toList.take (xs.length * i.size) ++ cells ++ cs.toList.drop (xs.length * i.size + cells.length)).toArray)
            (o' := .cells (cs.toList.take (xs.length * i.size) ++ cells ++ cs.toList.drop (xs.length * i.size + cells.length)).toArray e) rfl rfl rfl (by simp [World.setRow]) (by simp only [World.setRow]; rw [Array.getElem?_modify, if_pos rfl, hb]; rfl) (fun c hc => by
              simp only [World.setRow, Array.getElem?_modify]
              rw [if_neg (fun e => hc e.symm)])
          simpa using h2
        · refine own_after ho hys (fun j u hj => ?_) b cap hroom h4 (by rw [List.size_toArray, hsetsz]; exact h5)
          simp only [List.getElem?_toArray]
          have hol := ho.length
          have hlt := (List.getElem?_eq_some_iff.1 hj).1
          have htl : (cs.toList.take (xs.length * i.size)).length = xs.length * E.size := by
            have hcl : cs.toList.length = cap * E.size := by rw [Array.length_toList]; exact h5
            rw [List.length_take, hcl, hsize]
            have : xs.length * E.size ≤ cap * E.size := Nat.mul_le_mul_right _ h3
            omega
          by_cases hjo : j < old.length
          · rw [List.getElem?_append_left hjo] at hj
            have := hold j u hj
            rw [List.append_assoc, List.getElem?_append_left (by rw [htl, ← hol]; exact hjo), List.getElem?_take_of_lt (by rw [hsize, ← hol]; exact hjo)]
            simpa using this
          · rw [List.getElem?_append_right (Nat.le_of_not_lt hjo)] at hj
            have hlt2 := (List.getElem?_eq_some_iff.1 hj).1
            rw [List.append_assoc, List.getElem?_append_right (by rw [htl, ← hol]; exact Nat.le_of_not_lt hjo), htl, ← hol, List.getElem?_append_left hlt2]
            exact hj
      · -- a new row
        have hol := ho.length
        have holds : ∀ j u, old[j]? = some u → w.cell? ((⟨b, 0, none⟩ : Addr).add j) = some u := fun j u hj => by
          rw [Addr.add_lit, Nat.zero_add]; exact cell_of_heap hb (hold j u hj)
        have hns : Builtin.nextslicecap (xs.length + ys.length) cap * i.bytes ≤ 281474976710656 := by
          have h1 : Builtin.nextslicecap (xs.length + ys.length) cap ≤ 2 * (xs.length + ys.length) := nextslicecap_le (by omega)
          rw [hbytes]
          calc Builtin.nextslicecap (xs.length + ys.length) cap * bytes ≤ 2 * (xs.length + ys.length) * bytes := Nat.mul_le_mul_right _ h1
            _ ≤ 281474976710656 := by rw [Nat.mul_assoc]; omega
        have hrun := run_append_grow (P := fr.P) w t ty e i z ht hi hz ⟨b, 0, none⟩ xs.length cap old (by rw [hsize]; exact hol) holds ⟨sb, so, none⟩ ys.length cx cells hnl hnews (by omega) (by omega) hns
        have hge := grownCap_ge w (xs.length + ys.length) cap e
        have hcm := grownCap_le_maxLen w (xs.length + ys.length) cap e hmax
        refine ⟨_, _, H, [(w.heap.size, .cells (old.toArray ++ cells.toArray ++ Builtin.zeroCells z.cells (grownCap w (xs.length + ys.length) cap e - (xs.length + ys.length))) e)] :: R, run_value hrun, ?_, h _ _ ?_⟩
        · have h1 := (hst1.sub (List.sublist_append_right _ _)).drew.alloc (.cells (old.toArray ++ cells.toArray ++ Builtin.zeroCells z.cells (grownCap w (xs.length + ys.length) cap e - (xs.length + ys.length))) e)
          simpa using h1
        · refine own_after ho hys (fun j u hj => ?_) _ _ hge hcm (by
            simp only [Array.size_append, List.size_toArray, zeroCells_size, hzs, hlen, hol, ← Nat.add_mul]
            congr 1
            omega)
          have hlt := (List.getElem?_eq_some_iff.1 hj).1
          rw [Array.getElem?_append_left (by simpa using hlt)]
          simpa using hj
end
end Go.SX
