/- The core of SX: states of a walk as slots, a persistent heap and owned chunks; the rules of control. -/
import Derived.RangeFuncNested
import Derived.RangeFuncBound
import Derived.RangeFuncCalls
import Derived.RangeFuncLeaves
import Derived.Shelf.Abstract
import Derived.Laws.AppendOwn
import Derived.Laws.OwnMore
import Derived.KernelRfl
set_option linter.unusedVariables false
set_option linter.unusedSimpArgs false
namespace Go.SX
open Go

abbrev Env := Nat → Value
def upd (σ : Env) (d : Nat) (v : Value) : Env := fun i => cond (Nat.beq i d) v (σ i)
abbrev Heap := Nat → Option Obj
abbrev Chunk := List (Nat × Obj)
abbrev Own := List Chunk

def keys (L : Chunk) : List Nat := L.map Prod.fst

def ev (σ : Env) : Operand → Value
  | .tmp t => σ t
  | .const v => v
  | .global g => .pointer (some ⟨g, 0, none⟩)
  | .func f => .func (.func f) #[] #[]

structure Sim (N : Nat) (σ : Env) (t : Array Value) : Prop where
  size : t.size = N
  val : ∀ i, t.getD i undef = σ i

theorem Sim.eval {N : Nat} {σ : Env} {a : Act} (h : Sim N σ a.tmps) : a.eval = ev σ := by
  funext x
  cases x <;> simp only [Act.eval, ev, h.val]

theorem nbeq {i d : Nat} (h : i ≠ d) : Nat.beq i d = false := by
  cases hb : Nat.beq i d with
  | false => rfl
  | true => exact absurd (Nat.eq_of_beq_eq_true hb) h
theorem upd_same (σ : Env) (d : Nat) (v : Value) : upd σ d v d = v := by simp [upd]
theorem upd_other (σ : Env) (d i : Nat) (v : Value) (h : i ≠ d) : upd σ d v i = σ i := by
  have : Nat.beq i d = false := nbeq h
  simp [upd, this]
theorem upd_self (σ : Env) (d : Nat) (v : Value) (h : σ d = v) : upd σ d v = σ := by
  funext i
  by_cases hi : i = d
  · subst hi; rw [upd_same, h]
  · rw [upd_other _ _ _ _ hi]

theorem Sim.put {N : Nat} {σ : Env} {t : Array Value} (h : Sim N σ t) (d : Nat) (v : Value) (hd : Nat.blt d N = true) :
    Sim N (upd σ d v) (t.setIfInBounds d v) := by
  have hd' : d < t.size := by rw [h.size]; exact Nat.blt_eq.mp hd
  refine ⟨by simp [h.size], fun i => ?_⟩
  by_cases hi : i = d
  · subst hi; rw [upd_same]; simp [hd']
  · rw [upd_other _ _ _ _ hi, ← h.val i]
    simp only [Array.getD_eq_getD_getElem?, Array.getElem?_setIfInBounds]
    rw [if_neg (fun e => hi e.symm)]

def HLe (H H' : Heap) : Prop := ∀ b o, H b = some o → H' b = some o
theorem HLe.refl (H : Heap) : HLe H H := fun _ _ h => h
theorem HLe.trans {A B C : Heap} (h : HLe A B) (k : HLe B C) : HLe A C := fun b o hb => k b o (h b o hb)

structure Sat (H : Heap) (L : Chunk) (w : World) : Prop where
  h : ∀ b o, H b = some o → w.heap[b]? = some o
  l : ∀ p ∈ L, w.heap[p.1]? = some p.2
  nd : (keys L).Nodup
  dj : ∀ p ∈ L, H p.1 = none

/-- The world turned at L's blocks alone; new blocks may have come. -/
structure Chg (w : World) (L : Chunk) (w' : World) : Prop where
  os : w'.os = w.os
  tape : w'.tape = w.tape
  output : w'.output = w.output
  size : w.heap.size ≤ w'.heap.size
  same : ∀ b, b < w.heap.size → b ∉ keys L → w'.heap[b]? = w.heap[b]?
  drawn : w.drawn ≤ w'.drawn

structure Cx where
  w : World
  H : Heap
  L : Chunk

structure St (x : Cx) (H : Heap) (L : Chunk) (w : World) : Prop where
  sat : Sat H L w
  chg : Chg x.w x.L w
  le : HLe x.H H
  hn : ∀ b o, H b = some o → x.H b = none → b ∈ keys x.L ∨ x.w.heap.size ≤ b
  ln : ∀ b ∈ keys L, b ∈ keys x.L ∨ x.w.heap.size ≤ b

theorem St.init {H : Heap} {L : Chunk} {w : World} (h : Sat H L w) : St ⟨w, H, L⟩ H L w :=
  ⟨h, ⟨rfl, rfl, rfl, Nat.le_refl _, fun _ _ _ => rfl, Nat.le_refl _⟩, HLe.refl _, (fun b o h1 h2 => by have h3 : H b = none := h2; rw [h3] at h1; cases h1), fun _ h => .inl h⟩

theorem heap_lt {w : World} {b : Nat} {o : Obj} (h : w.heap[b]? = some o) : b < w.heap.size := (Array.getElem?_eq_some_iff.1 h).1

theorem mem_keys {L : Chunk} {p : Nat × Obj} (h : p ∈ L) : p.1 ∈ keys L := List.mem_map.2 ⟨p, h, rfl⟩
theorem keys_append (A B : Chunk) : keys (A ++ B) = keys A ++ keys B := by simp [keys]

theorem Sat.lt {H : Heap} {L : Chunk} {w : World} (h : Sat H L w) {b : Nat} (hb : b ∈ keys L) : b < w.heap.size := by
  obtain ⟨p, hp, rfl⟩ := List.mem_map.1 hb
  exact heap_lt (h.l p hp)

theorem Sat.perm {H : Heap} {L L' : Chunk} {w : World} (h : Sat H L w) (hp : L.Perm L') : Sat H L' w :=
  ⟨h.h, fun p q => h.l p (hp.mem_iff.2 q), (hp.map _).nodup_iff.1 h.nd, fun p q => h.dj p (hp.mem_iff.2 q)⟩
theorem St.perm {x : Cx} {H : Heap} {L L' : Chunk} {w : World} (h : St x H L w) (hp : L.Perm L') : St x H L' w :=
  ⟨h.sat.perm hp, h.chg, h.le, h.hn, fun b hb => h.ln b ((hp.map _).mem_iff.2 hb)⟩
theorem Sat.sub {H : Heap} {L L' : Chunk} {w : World} (h : Sat H L w) (hp : L'.Sublist L) : Sat H L' w :=
  ⟨h.h, fun p q => h.l p (hp.subset q), h.nd.sublist (hp.map _), fun p q => h.dj p (hp.subset q)⟩
theorem St.sub {x : Cx} {H : Heap} {L L' : Chunk} {w : World} (h : St x H L w) (hp : L'.Sublist L) : St x H L' w :=
  ⟨h.sat.sub hp, h.chg, h.le, h.hn, fun b hb => h.ln b ((hp.map _).subset hb)⟩

/-- A smaller persistent heap. -/
theorem Sat.weak {H H' : Heap} {L : Chunk} {w : World} (h : Sat H' L w) (hl : HLe H H') : Sat H L w :=
  ⟨fun b o q => h.h b o (hl b o q), h.l, h.nd, fun p q => by
    have := h.dj p q
    cases hb : H p.1 with
    | none => rfl
    | some o => rw [hl _ _ hb] at this; cases this⟩
theorem St.weak {x : Cx} {H H' : Heap} {L : Chunk} {w : World} (h : St x H' L w) (hl : HLe H H') (h0 : HLe x.H H) : St x H L w :=
  ⟨h.sat.weak hl, h.chg, h0, fun b o q => h.hn b o (hl b o q), h.ln⟩

/-- Out of a call's own account into the caller's. -/
theorem St.join {x : Cx} {H H' : Heap} {Lp Lr L' : Chunk} {w w' : World} (h : St x H (Lp ++ Lr) w) (k : St ⟨w, H, Lp⟩ H' L' w') : St x H' (L' ++ Lr) w' := by
  have hnd := h.sat.nd
  rw [keys_append, List.nodup_append] at hnd
  have hr : ∀ b ∈ keys Lr, b < w.heap.size ∧ b ∉ keys Lp := fun b hb => ⟨h.sat.lt (by rw [keys_append]; exact List.mem_append_right _ hb), fun hc => hnd.2.2 b hc b hb rfl⟩
  have hl' : ∀ b ∈ keys L', b ∈ keys Lp ∨ w.heap.size ≤ b := k.ln
  refine ⟨⟨k.sat.h, ?_, ?_, ?_⟩, ?_, h.le.trans k.le, ?_, ?_⟩
  · intro p hp
    rcases List.mem_append.1 hp with hp | hp
    · exact k.sat.l p hp
    · have hb := hr p.1 (mem_keys hp)
      rw [k.chg.same p.1 hb.1 hb.2]
      exact h.sat.l p (List.mem_append_right _ hp)
  · rw [keys_append, List.nodup_append]
    refine ⟨k.sat.nd, hnd.2.1, fun b hb c hc e => ?_⟩
    subst e
    have h1 := hr b hc
    rcases hl' b hb with h2 | h2
    · exact h1.2 h2
    · omega
  · intro p hp
    rcases List.mem_append.1 hp with hp | hp
    · exact k.sat.dj p hp
    · have hb := hr p.1 (mem_keys hp)
      cases hH : H' p.1 with
      | none => rfl
      | some o =>
        have h0 := h.sat.dj p (List.mem_append_right _ hp)
        rcases k.hn _ _ hH h0 with h2 | h2
        · exact absurd h2 hb.2
        · have : w.heap.size ≤ p.1 := h2
          have := hb.1
          omega
  · refine ⟨k.chg.os.trans h.chg.os, k.chg.tape.trans h.chg.tape, k.chg.output.trans h.chg.output, Nat.le_trans h.chg.size k.chg.size, fun b hb hx => ?_, Nat.le_trans h.chg.drawn k.chg.drawn⟩
    have hbw : b < w.heap.size := Nat.lt_of_lt_of_le hb h.chg.size
    rw [k.chg.same b hbw ?_]
    · exact h.chg.same b hb hx
    · intro hc
      rcases h.ln b (by rw [keys_append]; exact List.mem_append_left _ hc) with h2 | h2
      · exact hx h2
      · omega
  · intro b o hb h0
    cases hH : H b with
    | some o' => exact h.hn b o' hH h0
    | none =>
      rcases k.hn b o hb hH with h2 | h2
      · exact h.ln b (by rw [keys_append]; exact List.mem_append_left _ h2)
      · exact .inr (Nat.le_trans h.chg.size h2)
  · intro b hb
    rw [keys_append] at hb
    rcases List.mem_append.1 hb with hb | hb
    · rcases hl' b hb with h2 | h2
      · exact h.ln b (by rw [keys_append]; exact List.mem_append_left _ h2)
      · exact .inr (Nat.le_trans h.chg.size h2)
    · exact h.ln b (by rw [keys_append]; exact List.mem_append_right _ hb)

/-- A new block. -/
theorem St.alloc {x : Cx} {H : Heap} {L : Chunk} {w : World} (h : St x H L w) (o : Obj) : St x H ((w.heap.size, o) :: L) (w.alloc o) := by
  have hold : ∀ b o', w.heap[b]? = some o' → (w.alloc o).heap[b]? = some o' := fun b o' hb => by
    rw [heap_alloc_old w o b (heap_lt hb)]; exact hb
  refine ⟨⟨fun b o' q => hold b o' (h.sat.h b o' q), ?_, ?_, ?_⟩, ?_, h.le, h.hn, ?_⟩
  · intro p hp
    rcases List.mem_cons.1 hp with rfl | hp
    · exact heap_alloc_new w o
    · exact hold _ _ (h.sat.l p hp)
  · refine List.nodup_cons.2 ⟨fun hc => ?_, h.sat.nd⟩
    have := h.sat.lt hc
    exact Nat.lt_irrefl _ this
  · intro p hp
    rcases List.mem_cons.1 hp with rfl | hp
    · cases hH : H w.heap.size with
      | none => rfl
      | some o' => have := heap_lt (h.sat.h _ _ hH); omega
    · exact h.sat.dj p hp
  · refine ⟨h.chg.os, h.chg.tape, h.chg.output, by have := h.chg.size; simp; omega, fun b hb hx => ?_, h.chg.drawn⟩
    rw [heap_alloc_old w o b (Nat.lt_of_lt_of_le hb h.chg.size)]
    exact h.chg.same b hb hx
  · intro b hb
    rcases List.mem_cons.1 hb with rfl | hb
    · exact .inr h.chg.size
    · exact h.ln b hb

/-- An owned block is turned. -/
theorem St.turn {x : Cx} {H : Heap} {L : Chunk} {w w' : World} {b : Nat} {o o' : Obj} (h : St x H ((b, o) :: L) w)
    (hos : w'.os = w.os) (ht : w'.tape = w.tape) (hou : w'.output = w.output) (hs : w'.heap.size = w.heap.size) (hb : w'.heap[b]? = some o')
    (hx : ∀ c, c ≠ b → w'.heap[c]? = w.heap[c]?) (hdr : w.drawn ≤ w'.drawn := by exact Nat.le_refl _) : St x H ((b, o') :: L) w' := by
  have hnd := List.nodup_cons.1 h.sat.nd
  have hH : ∀ c o'', H c = some o'' → c ≠ b := fun c o'' q e => by subst e; have := h.sat.dj (c, o) (List.mem_cons_self ..); rw [q] at this; cases this
  refine ⟨⟨fun c o'' q => by rw [hx c (hH c o'' q)]; exact h.sat.h c o'' q, ?_, h.sat.nd, ?_⟩, ?_, h.le, h.hn, h.ln⟩
  · intro p hp
    rcases List.mem_cons.1 hp with rfl | hp
    · exact hb
    · rw [hx p.1 (fun e => hnd.1 (by have := mem_keys hp; rw [e] at this; exact this))]
      exact h.sat.l p (List.mem_cons_of_mem _ hp)
  · intro p hp
    rcases List.mem_cons.1 hp with rfl | hp
    · exact h.sat.dj (b, o) (List.mem_cons_self ..)
    · exact h.sat.dj p (List.mem_cons_of_mem _ hp)
  · refine ⟨hos.trans h.chg.os, ht.trans h.chg.tape, hou.trans h.chg.output, by rw [hs]; exact h.chg.size, fun c hc hcx => ?_, Nat.le_trans h.chg.drawn hdr⟩
    have hcb : c ≠ b := fun e => by
      subst e
      rcases h.ln c (by simp [keys]) with h2 | h2
      · exact hcx h2
      · omega
    rw [hx c hcb]
    exact h.chg.same c hc hcx

/-- The same heap: a draw. -/
theorem St.drew {x : Cx} {H : Heap} {L : Chunk} {w : World} (h : St x H L w) : St x H L w.drew :=
  ⟨⟨h.sat.h, h.sat.l, h.sat.nd, h.sat.dj⟩, ⟨h.chg.os, h.chg.tape, h.chg.output, h.chg.size, h.chg.same, Nat.le_succ_of_le h.chg.drawn⟩, h.le, h.hn, h.ln⟩

def hadd (H : Heap) (L : Chunk) : Heap := fun b => match L.find? (fun p => p.1 == b) with
  | some p => some p.2
  | none => H b

theorem hadd_le {H : Heap} {L : Chunk} (hd : ∀ p ∈ L, H p.1 = none) : HLe H (hadd H L) := fun b o hb => by
  unfold hadd
  cases hf : L.find? (fun p => p.1 == b) with
  | none => exact hb
  | some p =>
    have h1 := List.mem_of_find?_eq_some hf
    have h2 := List.find?_some hf
    simp only [beq_iff_eq] at h2
    have := hd p h1
    rw [h2, hb] at this; cases this
theorem hadd_at {H : Heap} {L : Chunk} (hn : (keys L).Nodup) (p : Nat × Obj) (hp : p ∈ L) : hadd H L p.1 = some p.2 := by
  unfold hadd
  induction L with
  | nil => cases hp
  | cons q L ih =>
    rw [List.find?_cons]
    have hnd := List.nodup_cons.1 hn
    rcases List.mem_cons.1 hp with rfl | hp
    · simp
    · have hne : (q.1 == p.1) = false := by
        rw [beq_eq_false_iff_ne]; intro e; exact hnd.1 (by have := mem_keys hp; rw [← e] at this; exact this)
      rw [hne]
      exact ih hnd.2 hp

theorem hadd_inv {H : Heap} {L : Chunk} {b : Nat} {o : Obj} (h : hadd H L b = some o) : (b, o) ∈ L ∨ H b = some o := by
  unfold hadd at h
  cases hf : L.find? (fun p => p.1 == b) with
  | none => rw [hf] at h; exact .inr h
  | some p =>
    rw [hf] at h
    have h1 := List.mem_of_find?_eq_some hf
    have h2 := List.find?_some hf
    simp only [beq_iff_eq] at h2
    injection h with h
    left; rw [← h, ← h2]; exact h1

/-- What is owned is shut for good: it can be read from then on. -/
theorem St.persist {x : Cx} {H : Heap} {A L : Chunk} {w : World} (h : St x H (A ++ L) w) : St x (hadd H A) L w := by
  have hnd := h.sat.nd
  rw [keys_append, List.nodup_append] at hnd
  have hdA : ∀ p ∈ A, H p.1 = none := fun p hp => h.sat.dj p (List.mem_append_left _ hp)
  refine ⟨⟨?_, fun p hp => h.sat.l p (List.mem_append_right _ hp), hnd.2.1, ?_⟩, h.chg, h.le.trans (hadd_le hdA), ?_, fun b hb => h.ln b (by rw [keys_append]; exact List.mem_append_right _ hb)⟩
  · intro b o hb
    rcases hadd_inv hb with hb | hb
    · exact h.sat.l (b, o) (List.mem_append_left _ hb)
    · exact h.sat.h b o hb
  · intro p hp
    cases hH : hadd H A p.1 with
    | none => rfl
    | some o =>
      rcases hadd_inv hH with hb | hb
      · exact absurd rfl (hnd.2.2 p.1 (mem_keys (p := (p.1, o)) hb) p.1 (mem_keys hp))
      · have := h.sat.dj p (List.mem_append_right _ hp); rw [hb] at this; cases this
  · intro b o hb h0
    rcases hadd_inv hb with hb | hb
    · exact h.ln b (by rw [keys_append]; exact List.mem_append_left _ (mem_keys (p := (b, o)) hb))
    · exact h.hn b o hb h0

/-! ### Frames, and what is hidden in them -/
structure Fr where
  P : Program
  N : Nat
  rd : Option (Nat × Loop)

def fence (rd : Option (Nat × Loop)) : Fence := { Fence.wide with round := rd.map (·.1) }
def mk (D : Nat) : Deferred := { target := .collected D, args := #[] }
def hid (rd : Option (Nat × Loop)) (ds : List Nat) : Chunk :=
  (match rd with | none => [] | some (l, r) => [(l, Obj.loop r), (r.defers, Obj.deferred (some []))]) ++ ds.map (fun D => (D, Obj.deferred (some [])))

abbrev Post := Exit → Env → Heap → Own → List Nat → Prop

def lift (fr : Fr) (x : Cx) (Q : Post) : Exit → Act → World → Prop := fun e a w =>
  ∃ σ H L ds, Sim fr.N σ a.tmps ∧ a.defers = ds.map mk ∧ St x H (L.flatten ++ hid fr.rd ds) w ∧ Q e σ H L ds

def T (fr : Fr) (x : Cx) (c : Code) (Q : Post) (σ : Env) (H : Heap) (L : Own) (ds : List Nat) : Prop :=
  ∀ a w, Sim fr.N σ a.tmps → a.defers = ds.map mk → St x H (L.flatten ++ hid fr.rd ds) w → c.wpIn (fence fr.rd) 0 fr.P (lift fr x Q) a w

def Post.thn (K : Env → Heap → Own → List Nat → Prop) (Q : Post) : Post
  | .normal, σ, H, L, ds => K σ H L ds
  | e, σ, H, L, ds => Q e σ H L ds
def Post.blk (id : Nat) (Q : Post) : Post
  | .exit id', σ, H, L, ds => (cond (Nat.beq id' id) (Q .normal σ H L ds) (Q (.exit id') σ H L ds))
  | e, σ, H, L, ds => Q e σ H L ds
def Post.noGoto (Q : Post) : Post
  | .goto _, _, _, _, _ => False
  | e, σ, H, L, ds => Q e σ H L ds

section wraps
variable {K : Env → Heap → Own → List Nat → Prop} {Q : Post} {σ : Env} {H : Heap} {L : Own} {ds : List Nat} {i id : Nat}
theorem Post.thnN (h : K σ H L ds) : Post.thn K Q .normal σ H L ds := h
theorem Post.thnR (h : Q .ret σ H L ds) : Post.thn K Q .ret σ H L ds := h
theorem Post.thnE (h : Q (.exit i) σ H L ds) : Post.thn K Q (.exit i) σ H L ds := h
theorem Post.blkN (h : Q .normal σ H L ds) : Post.blk id Q .normal σ H L ds := h
theorem Post.blkR (h : Q .ret σ H L ds) : Post.blk id Q .ret σ H L ds := h
theorem Post.blkE (hi : Nat.beq i id = false) (h : Q (.exit i) σ H L ds) : Post.blk id Q (.exit i) σ H L ds := by simp only [Post.blk, hi]; exact h
theorem Post.blkX (h : Q .normal σ H L ds) : Post.blk id Q (.exit id) σ H L ds := by simp only [Post.blk, Nat.beq_refl]; exact h
theorem Post.ngN (h : Q .normal σ H L ds) : Post.noGoto Q .normal σ H L ds := h
theorem Post.ngR (h : Q .ret σ H L ds) : Post.noGoto Q .ret σ H L ds := h
theorem Post.ngE (h : Q (.exit i) σ H L ds) : Post.noGoto Q (.exit i) σ H L ds := h
end wraps

section rules
variable {fr : Fr} {x : Cx} {Q : Post} {σ : Env} {H : Heap} {L : Own} {ds : List Nat}

theorem lift_intro {e : Exit} {a : Act} {w : World} (hs : Sim fr.N σ a.tmps) (hd : a.defers = ds.map mk) (h : St x H (L.flatten ++ hid fr.rd ds) w) (hq : Q e σ H L ds) : lift fr x Q e a w :=
  ⟨σ, H, L, ds, hs, hd, h, hq⟩

theorem T.seq {a b : Code} (h : T fr x a (Post.thn (T fr x b Q) Q) σ H L ds) : T fr x (.seq a b) Q σ H L ds := by
  intro A w hs hd hst
  refine wpIn_seq (wpIn_mono (h A w hs hd hst) ?_)
  rintro e a' w' ⟨σ', H', L', ds', hs', hd', hst', hq⟩
  cases e with
  | normal => exact hq a' w' hs' hd' hst'
  | exit id => exact lift_intro hs' hd' hst' hq
  | goto l => exact lift_intro hs' hd' hst' hq
  | ret => exact lift_intro hs' hd' hst' hq
  | panic c => exact lift_intro hs' hd' hst' hq
  | outgrown => exact lift_intro hs' hd' hst' hq
theorem T.skip (h : Q .normal σ H L ds) : T fr x .skip Q σ H L ds := fun _ _ hs hd hst => wpIn_skip (lift_intro hs hd hst h)
theorem T.label {l : Nat} (h : Q .normal σ H L ds) : T fr x (.label l) Q σ H L ds := fun _ _ hs hd hst => wpIn_label (lift_intro hs hd hst h)
theorem T.exit {id : Nat} (h : Q (.exit id) σ H L ds) : T fr x (.exit id) Q σ H L ds := fun _ _ hs hd hst => wpIn_exit (lift_intro hs hd hst h)
theorem T.ret (h : Q .ret σ H L ds) : T fr x .ret Q σ H L ds := fun _ _ hs hd hst => wpIn_ret (lift_intro hs hd hst h)
theorem T.cond {c : Operand} {a b : Code} {t : Bool} (hc : ev σ c = .bool t) (h1 : t = true → T fr x a Q σ H L ds) (h2 : t = false → T fr x b Q σ H L ds) :
    T fr x (.cond c a b) Q σ H L ds := by
  intro A w hs hd hst
  have hc' : A.eval c = .bool t := by rw [hs.eval]; exact hc
  refine wpIn_cond_split hc' (fun ht => h1 ht A w hs hd hst) (fun ht => h2 ht A w hs hd hst)
theorem T.condD {c : Operand} {a b : Code} {p : Prop} [Decidable p] (hc : ev σ c = .bool (decide p)) (h1 : p → T fr x a Q σ H L ds) (h2 : ¬p → T fr x b Q σ H L ds) :
    T fr x (.cond c a b) Q σ H L ds := T.cond hc (fun h => h1 (of_decide_eq_true h)) (fun h => h2 (of_decide_eq_false h))
theorem T.condY {c : Operand} {a b : Code} (hc : ev σ c = .bool true) (h1 : T fr x a Q σ H L ds) : T fr x (.cond c a b) Q σ H L ds := T.cond hc (fun _ => h1) (fun h => by cases h)
theorem T.condN {c : Operand} {a b : Code} (hc : ev σ c = .bool false) (h1 : T fr x b Q σ H L ds) : T fr x (.cond c a b) Q σ H L ds := T.cond hc (fun h => by cases h) (fun _ => h1)
theorem T.mono {c : Code} {Q' : Post} (h : T fr x c Q σ H L ds) (hq : ∀ e σ H L ds, Q e σ H L ds → Q' e σ H L ds) : T fr x c Q' σ H L ds := fun a w hs hd hst =>
  wpIn_mono (h a w hs hd hst) (fun _ _ _ ⟨σ', H', L', ds', h1, h2, h3, h4⟩ => ⟨σ', H', L', ds', h1, h2, h3, hq _ _ _ _ _ h4⟩)
theorem T.block {id : Nat} {c : Code} (h : T fr x c (Post.blk id Q) σ H L ds) : T fr x (.block id c) Q σ H L ds := by
  intro A w hs hd hst
  refine wpIn_block (wpIn_mono (h A w hs hd hst) ?_)
  rintro e a' w' ⟨σ', H', L', ds', hs', hd', hst', hq⟩
  cases e with
  | exit id' =>
    simp only [Post.blk] at hq
    by_cases hid : id' = id
    · have hb : Nat.beq id' id = true := by rw [hid]; exact Nat.beq_refl id
      rw [hb] at hq
      simp only [Exit.inBlock, hid, if_true]
      exact lift_intro hs' hd' hst' hq
    · have hb : Nat.beq id' id = false := nbeq hid
      rw [hb] at hq
      simp only [Exit.inBlock, hid, if_false]
      exact lift_intro hs' hd' hst' hq
  | normal => exact lift_intro hs' hd' hst' hq
  | goto l => exact lift_intro hs' hd' hst' hq
  | ret => exact lift_intro hs' hd' hst' hq
  | panic c => exact lift_intro hs' hd' hst' hq
  | outgrown => exact lift_intro hs' hd' hst' hq

theorem stepR_scope {P : Program} {b : Frame} {a : Act} {k : List Item} {cs : List Frame} {w : World} {c : Code} : step P (lone (b.atR a (.code (.scope c) :: k)) cs w) = .next (lone (b.atR a (.code c :: .inScope c :: k)) cs w) :=
  step_lone_go (by simp [stepG, stepG.exec, Frame.atR])
theorem stepR_inScope {P : Program} {b : Frame} {a : Act} {k : List Item} {cs : List Frame} {w : World} {c : Code} : step P (lone (b.atR a (.inScope c :: k)) cs w) = .next (lone (b.atR a k) cs w) :=
  step_lone_go (by simp [stepG, stepG.exec, Frame.atR])

theorem wpIn_scope {F : Fence} {n : Nat} {P : Program} {c : Code} {Q : Exit → Act → World → Prop} {a : Act} {w : World} (h : c.wpIn F n P Q a w) (hg : ∀ l a w, ¬ Q (.goto l) a w) : (Code.scope c).wpIn F n P Q a w := by
  intro b k cs hro hb hr
  obtain ⟨e, a₁, w₁, hq, harr⟩ := h b (.inScope c :: k) cs hro hb hr
  have s0 : StepsIn (Machine.fenced P F) P (lone (b.atR a (.code (.scope c) :: k)) cs w) (lone (b.atR a (.code c :: .inScope c :: k)) cs w) := .one (fenced_calm hb hr rfl) stepR_scope
  cases e with
  | normal => exact ⟨.normal, a₁, w₁, hq, StepsIn.trans s0 (StepsIn.trans harr (.one (fenced_calm hb hr rfl) stepR_inScope))⟩
  | exit id => exact ⟨.exit id, a₁, w₁, hq, fun k' hk => s0.trans (harr.1 k' (by simp [exitTo, hk])), fun h1 h2 => by
      obtain ⟨k₁, h3, h4⟩ := harr.2 h1 (by simp [exitTo, h2])
      exact ⟨k₁, h3, s0.trans h4⟩⟩
  | goto l => exact absurd hq (hg l _ _)
  | ret => exact ⟨_, a₁, w₁, hq, .of_steps s0 harr⟩
  | panic ch => exact ⟨_, a₁, w₁, hq, .of_steps s0 harr⟩
  | outgrown => exact ⟨_, a₁, w₁, hq, .of_steps s0 harr⟩
theorem T.scope {c : Code} (h : T fr x c (Post.noGoto Q) σ H L ds) : T fr x (.scope c) Q σ H L ds := by
  intro A w hs hd hst
  refine wpIn_mono (wpIn_scope (h A w hs hd hst) ?_) ?_
  · rintro l a w ⟨_, _, _, _, _, _, _, hq⟩; exact hq
  · rintro e a' w' ⟨σ', H', L', ds', hs', hd', hst', hq⟩
    cases e with
    | goto l => exact hq.elim
    | _ => exact lift_intro hs' hd' hst' hq

/-- A loop: at each round's head the named slots hold what the ghost i says; the other slots are forgotten. -/
def Slots (σ : Env) : List (Nat × Value) → Prop
  | [] => True
  | (d, v) :: r => σ d = v ∧ Slots σ r
def chain (σ : Env) : List (Nat × Value) → Env
  | [] => σ
  | (d, v) :: r => upd (chain σ r) d v
theorem Slots.chain {σ : Env} : ∀ {l : List (Nat × Value)}, Slots σ l → SX.chain σ l = σ
  | [], _ => rfl
  | (d, v) :: r, h => by rw [SX.chain, Slots.chain h.2]; exact upd_self _ _ _ h.1

theorem least {p : Nat → Prop} (h : ∃ n, p n) : ∃ n, p n ∧ ∀ m, p m → n ≤ m := by
  obtain ⟨n, hn⟩ := h
  induction n using Nat.strongRecOn with
  | _ n ih =>
    by_cases hm : ∃ m, m < n ∧ p m
    · obtain ⟨m, h1, h2⟩ := hm; exact ih m h1 h2
    · exact ⟨n, hn, fun m h => by
        rcases Nat.lt_or_ge m n with h1 | h1
        · exact absurd ⟨m, h1, h⟩ hm
        · exact h1⟩
theorem T.loop {ι : Type} {c : Code} (I : ι → Heap → Own → List Nat → Prop) (sl : ι → List (Nat × Value)) (μ : ι → Nat) (i0 : ι)
    (h0 : I i0 H L ds) (hs0 : Slots σ (sl i0))
    (hr : ∀ i σb H' L' ds', HLe H H' → I i H' L' ds' → T fr x c (Post.thn (fun σ'' H'' L'' ds'' => ∃ j, HLe H H'' ∧ I j H'' L'' ds'' ∧ μ j < μ i ∧ Slots σ'' (sl j)) Q) (chain σb (sl i)) H' L' ds') :
    T fr x (.loop c) Q σ H L ds := by
  intro A w hs hd hst
  let J : Act → World → Nat → Prop := fun a w n => ∃ i σ' H' L' ds', μ i = n ∧ HLe H H' ∧ I i H' L' ds' ∧ Slots σ' (sl i) ∧ Sim fr.N σ' a.tmps ∧ a.defers = ds'.map mk ∧ St x H' (L'.flatten ++ hid fr.rd ds') w
  have key := wpIn_loop (F := fence fr.rd) (n := 0) (P := fr.P) (Q := lift fr x Q) (c := c) (a := A) (w := w) (fun a w => ∃ n, J a w n) (fun a w => by classical exact if h : ∃ n, J a w n then Classical.choose (least h) else 0)
    ⟨μ i0, i0, σ, H, L, ds, rfl, HLe.refl _, h0, hs0, hs, hd, hst⟩ ?_
  · exact key
  · rintro a w hJ
    have hfind : J a w (Classical.choose (least hJ)) := (Classical.choose_spec (least hJ)).1
    obtain ⟨i, σ', H', L', ds', hn, hle, hI, hsl, hs', hd', hst'⟩ := hfind
    rw [← Slots.chain hsl] at hs'
    refine wpIn_mono (hr i σ' H' L' ds' hle hI a w hs' hd' hst') ?_
    rintro e a2 w2 ⟨σ2, H2, L2, ds2, hs2, hd2, hst2, hq⟩
    cases e with
    | normal =>
      obtain ⟨j, hle2, hj, hlt, hsl2⟩ := hq
      have hJ2 : J a2 w2 (μ j) := ⟨j, σ2, H2, L2, ds2, rfl, hle2, hj, hsl2, hs2, hd2, hst2⟩
      refine ⟨⟨_, hJ2⟩, ?_⟩
      rw [dif_pos ⟨_, hJ2⟩, dif_pos hJ, ← hn]
      exact Nat.lt_of_le_of_lt ((Classical.choose_spec (least ⟨_, hJ2⟩)).2 _ hJ2) hlt
    | exit id => exact lift_intro hs2 hd2 hst2 hq
    | goto l => exact lift_intro hs2 hd2 hst2 hq
    | ret => exact lift_intro hs2 hd2 hst2 hq
    | panic c => exact lift_intro hs2 hd2 hst2 hq
    | outgrown => exact lift_intro hs2 hd2 hst2 hq
end rules
attribute [irreducible] T
end Go.SX
