/- Lemmas. -/
import Derived.RangeFuncNested
import Derived.RangeFuncBound
import Derived.RangeFuncCalls
import Derived.RangeFuncLeaves
import Derived.Shelf.Abstract
import Derived.Laws.AppendOwn
import Derived.Laws.OwnMore
import Derived.KernelRfl
import Derived.IntWalk
import Derived.Laws.Append
import Derived.WideLaws
import Derived.Laws.Slices
import Derived.Laws.MakeOwn
import Derived.OrdersIn
import Derived.Laws.Cover3
import Derived.Test.YtflpmgehkoachaaGreatDoorProg
import Derived.Laws.StructEq
import Derived.Shelf.Sort.Plain
import Derived.Sort.OwnSortedInts
import Derived.Shelf.Slices.In.SortNone
import Derived.Maps.RangeRun
import Derived.Lib.AppendZeros
import Derived.DefersIn
import Derived.RecoverIn
import Derived.WalkSmall
import Derived.ChangeKeysEq
import Derived.Shelf.Spec.SlicesInsert
import Derived.Shelf.Spec.SlicesInsertGrow
import Derived.Lib.Overlaps
import Derived.Laws.Externs
import Derived.ProofKit
import Derived.ChangeSlices
import Derived.Carry
import Derived.LaidMore
import Derived.Deep.Slices
import Derived.OpenShut
import Derived.Test.YtflpmgehkoachaaGreatDoorCards
import Derived.Test.YtflpmgehkoachaaGreatDoorTie
import Derived.Stop.Joined
import Derived.MakeChecks
set_option maxHeartbeats 3200000
set_option linter.unusedVariables false
set_option linter.unusedSimpArgs false
namespace Go.SX
open Go
abbrev Env := Nat → Value
def upd (σ : Env) (d : Nat) (v : Value) : Env := fun i => cond (Nat.beq i d) v (σ i)
abbrev Heap := Nat → Option Obj
abbrev Chunk := List (Nat × Obj)
abbrev Own := List Chunk
def keys (L : Chunk) : List Nat := L.map Prod.fst
def ev (σ : Env) : Operand → Value
  | .tmp t => σ t
  | .const v => v
  | .global g => .pointer (some ⟨g, 0, none⟩)
  | .func f => .func (.func f) #[] #[]
structure Sim (N : Nat) (σ : Env) (t : Array Value) : Prop where
  size : t.size = N
  val : ∀ i, t.getD i undef = σ i
theorem Sim.eval {N : Nat} {σ : Env} {a : Act} (h : Sim N σ a.tmps) : a.eval = ev σ := by
  funext x
  cases x <;> simp only [Act.eval, ev, h.val]
theorem nbeq {i d : Nat} (h : i ≠ d) : Nat.beq i d = false := by
  cases hb : Nat.beq i d with
  | false => rfl
  | true => exact absurd (Nat.eq_of_beq_eq_true hb) h
theorem upd_same (σ : Env) (d : Nat) (v : Value) : upd σ d v d = v := by simp [upd]
theorem upd_other (σ : Env) (d i : Nat) (v : Value) (h : i ≠ d) : upd σ d v i = σ i := by
  have : Nat.beq i d = false := nbeq h
  simp [upd, this]
theorem upd_self (σ : Env) (d : Nat) (v : Value) (h : σ d = v) : upd σ d v = σ := by
  funext i
  by_cases hi : i = d
  · subst hi; rw [upd_same, h]
  · rw [upd_other _ _ _ _ hi]
theorem Sim.put {N : Nat} {σ : Env} {t : Array Value} (h : Sim N σ t) (d : Nat) (v : Value) (hd : Nat.blt d N = true) :
    Sim N (upd σ d v) (t.setIfInBounds d v) := by
  have hd' : d < t.size := by rw [h.size]; exact Nat.blt_eq.mp hd
  refine ⟨by simp [h.size], fun i => ?_⟩
  by_cases hi : i = d
  · subst hi; rw [upd_same]; simp [hd']
  · rw [upd_other _ _ _ _ hi, ← h.val i]
    simp only [Array.getD_eq_getD_getElem?, Array.getElem?_setIfInBounds]
    rw [if_neg (fun e => hi e.symm)]
def HLe (H H' : Heap) : Prop := ∀ b o, H b = some o → H' b = some o
theorem HLe.refl (H : Heap) : HLe H H := fun _ _ h => h
theorem HLe.trans {A B C : Heap} (h : HLe A B) (k : HLe B C) : HLe A C := fun b o hb => k b o (h b o hb)
structure Sat (H : Heap) (L : Chunk) (w : World) : Prop where
  h : ∀ b o, H b = some o → w.heap[b]? = some o
  l : ∀ p ∈ L, w.heap[p.1]? = some p.2
  nd : (keys L).Nodup
  dj : ∀ p ∈ L, H p.1 = none
structure Chg (w : World) (L : Chunk) (w' : World) : Prop where
  os : w'.os = w.os
  tape : w'.tape = w.tape
  output : w'.output = w.output
  size : w.heap.size ≤ w'.heap.size
  same : ∀ b, b < w.heap.size → b ∉ keys L → w'.heap[b]? = w.heap[b]?
  drawn : w.drawn ≤ w'.drawn
structure Cx where
  w : World
  H : Heap
  L : Chunk
structure St (x : Cx) (H : Heap) (L : Chunk) (w : World) : Prop where
  sat : Sat H L w
  chg : Chg x.w x.L w
  le : HLe x.H H
  hn : ∀ b o, H b = some o → x.H b = none → b ∈ keys x.L ∨ x.w.heap.size ≤ b
  ln : ∀ b ∈ keys L, b ∈ keys x.L ∨ x.w.heap.size ≤ b
theorem St.init {H : Heap} {L : Chunk} {w : World} (h : Sat H L w) : St ⟨w, H, L⟩ H L w :=
  ⟨h, ⟨rfl, rfl, rfl, Nat.le_refl _, fun _ _ _ => rfl, Nat.le_refl _⟩, HLe.refl _, (fun b o h1 h2 => by have h3 : H b = none := h2; rw [h3] at h1; cases h1), fun _ h => .inl h⟩
theorem heap_lt {w : World} {b : Nat} {o : Obj} (h : w.heap[b]? = some o) : b < w.heap.size := (Array.getElem?_eq_some_iff.1 h).1
theorem mem_keys {L : Chunk} {p : Nat × Obj} (h : p ∈ L) : p.1 ∈ keys L := List.mem_map.2 ⟨p, h, rfl⟩
theorem k_90 (A B : Chunk) : keys (A ++ B) = keys A ++ keys B := by simp [keys]
theorem Sat.lt {H : Heap} {L : Chunk} {w : World} (h : Sat H L w) {b : Nat} (hb : b ∈ keys L) : b < w.heap.size := by
  obtain ⟨p, hp, rfl⟩ := List.mem_map.1 hb
  exact heap_lt (h.l p hp)
theorem Sat.perm {H : Heap} {L L' : Chunk} {w : World} (h : Sat H L w) (hp : L.Perm L') : Sat H L' w :=
  ⟨h.h, fun p q => h.l p (hp.mem_iff.2 q), (hp.map _).nodup_iff.1 h.nd, fun p q => h.dj p (hp.mem_iff.2 q)⟩
theorem St.perm {x : Cx} {H : Heap} {L L' : Chunk} {w : World} (h : St x H L w) (hp : L.Perm L') : St x H L' w :=
  ⟨h.sat.perm hp, h.chg, h.le, h.hn, fun b hb => h.ln b ((hp.map _).mem_iff.2 hb)⟩
theorem Sat.sub {H : Heap} {L L' : Chunk} {w : World} (h : Sat H L w) (hp : L'.Sublist L) : Sat H L' w :=
  ⟨h.h, fun p q => h.l p (hp.subset q), h.nd.sublist (hp.map _), fun p q => h.dj p (hp.subset q)⟩
theorem St.sub {x : Cx} {H : Heap} {L L' : Chunk} {w : World} (h : St x H L w) (hp : L'.Sublist L) : St x H L' w :=
  ⟨h.sat.sub hp, h.chg, h.le, h.hn, fun b hb => h.ln b ((hp.map _).subset hb)⟩
theorem Sat.weak {H H' : Heap} {L : Chunk} {w : World} (h : Sat H' L w) (hl : HLe H H') : Sat H L w :=
  ⟨fun b o q => h.h b o (hl b o q), h.l, h.nd, fun p q => by
    have := h.dj p q
    cases hb : H p.1 with
    | none => rfl
    | some o => rw [hl _ _ hb] at this; cases this⟩
theorem St.weak {x : Cx} {H H' : Heap} {L : Chunk} {w : World} (h : St x H' L w) (hl : HLe H H') (h0 : HLe x.H H) : St x H L w :=
  ⟨h.sat.weak hl, h.chg, h0, fun b o q => h.hn b o (hl b o q), h.ln⟩
theorem St.join {x : Cx} {H H' : Heap} {Lp Lr L' : Chunk} {w w' : World} (h : St x H (Lp ++ Lr) w) (k : St ⟨w, H, Lp⟩ H' L' w') : St x H' (L' ++ Lr) w' := by
  have hnd := h.sat.nd
  rw [k_90, List.nodup_append] at hnd
  have hr : ∀ b ∈ keys Lr, b < w.heap.size ∧ b ∉ keys Lp := fun b hb => ⟨h.sat.lt (by rw [k_90]; exact List.mem_append_right _ hb), fun hc => hnd.2.2 b hc b hb rfl⟩
  have hl' : ∀ b ∈ keys L', b ∈ keys Lp ∨ w.heap.size ≤ b := k.ln
  refine ⟨⟨k.sat.h, ?_, ?_, ?_⟩, ?_, h.le.trans k.le, ?_, ?_⟩
  · intro p hp
    rcases List.mem_append.1 hp with hp | hp
    · exact k.sat.l p hp
    · have hb := hr p.1 (mem_keys hp)
      rw [k.chg.same p.1 hb.1 hb.2]
      exact h.sat.l p (List.mem_append_right _ hp)
  · rw [k_90, List.nodup_append]
    refine ⟨k.sat.nd, hnd.2.1, fun b hb c hc e => ?_⟩
    subst e
    have h1 := hr b hc
    rcases hl' b hb with h2 | h2
    · exact h1.2 h2
    · omega
  · intro p hp
    rcases List.mem_append.1 hp with hp | hp
    · exact k.sat.dj p hp
    · have hb := hr p.1 (mem_keys hp)
      cases hH : H' p.1 with
      | none => rfl
      | some o =>
        have h0 := h.sat.dj p (List.mem_append_right _ hp)
        rcases k.hn _ _ hH h0 with h2 | h2
        · exact absurd h2 hb.2
        · have : w.heap.size ≤ p.1 := h2
          have := hb.1
          omega
  · refine ⟨k.chg.os.trans h.chg.os, k.chg.tape.trans h.chg.tape, k.chg.output.trans h.chg.output, Nat.le_trans h.chg.size k.chg.size, fun b hb hx => ?_, Nat.le_trans h.chg.drawn k.chg.drawn⟩
    have hbw : b < w.heap.size := Nat.lt_of_lt_of_le hb h.chg.size
    rw [k.chg.same b hbw ?_]
    · exact h.chg.same b hb hx
    · intro hc
      rcases h.ln b (by rw [k_90]; exact List.mem_append_left _ hc) with h2 | h2
      · exact hx h2
      · omega
  · intro b o hb h0
    cases hH : H b with
    | some o' => exact h.hn b o' hH h0
    | none =>
      rcases k.hn b o hb hH with h2 | h2
      · exact h.ln b (by rw [k_90]; exact List.mem_append_left _ h2)
      · exact .inr (Nat.le_trans h.chg.size h2)
  · intro b hb
    rw [k_90] at hb
    rcases List.mem_append.1 hb with hb | hb
    · rcases hl' b hb with h2 | h2
      · exact h.ln b (by rw [k_90]; exact List.mem_append_left _ h2)
      · exact .inr (Nat.le_trans h.chg.size h2)
    · exact h.ln b (by rw [k_90]; exact List.mem_append_right _ hb)
theorem St.alloc {x : Cx} {H : Heap} {L : Chunk} {w : World} (h : St x H L w) (o : Obj) : St x H ((w.heap.size, o) :: L) (w.alloc o) := by
  have hold : ∀ b o', w.heap[b]? = some o' → (w.alloc o).heap[b]? = some o' := fun b o' hb => by
    rw [heap_alloc_old w o b (heap_lt hb)]; exact hb
  refine ⟨⟨fun b o' q => hold b o' (h.sat.h b o' q), ?_, ?_, ?_⟩, ?_, h.le, h.hn, ?_⟩
  · intro p hp
    rcases List.mem_cons.1 hp with rfl | hp
    · exact heap_alloc_new w o
    · exact hold _ _ (h.sat.l p hp)
  · refine List.nodup_cons.2 ⟨fun hc => ?_, h.sat.nd⟩
    have := h.sat.lt hc
    exact Nat.lt_irrefl _ this
  · intro p hp
    rcases List.mem_cons.1 hp with rfl | hp
    · cases hH : H w.heap.size with
      | none => rfl
      | some o' => have := heap_lt (h.sat.h _ _ hH); omega
    · exact h.sat.dj p hp
  · refine ⟨h.chg.os, h.chg.tape, h.chg.output, by have := h.chg.size; simp; omega, fun b hb hx => ?_, h.chg.drawn⟩
    rw [heap_alloc_old w o b (Nat.lt_of_lt_of_le hb h.chg.size)]
    exact h.chg.same b hb hx
  · intro b hb
    rcases List.mem_cons.1 hb with rfl | hb
    · exact .inr h.chg.size
    · exact h.ln b hb
theorem St.turn {x : Cx} {H : Heap} {L : Chunk} {w w' : World} {b : Nat} {o o' : Obj} (h : St x H ((b, o) :: L) w)
    (hos : w'.os = w.os) (ht : w'.tape = w.tape) (hou : w'.output = w.output) (hs : w'.heap.size = w.heap.size) (hb : w'.heap[b]? = some o')
    (hx : ∀ c, c ≠ b → w'.heap[c]? = w.heap[c]?) (hdr : w.drawn ≤ w'.drawn := by exact Nat.le_refl _) : St x H ((b, o') :: L) w' := by
  have hnd := List.nodup_cons.1 h.sat.nd
  have hH : ∀ c o'', H c = some o'' → c ≠ b := fun c o'' q e => by subst e; have := h.sat.dj (c, o) (List.mem_cons_self ..); rw [q] at this; cases this
  refine ⟨⟨fun c o'' q => by rw [hx c (hH c o'' q)]; exact h.sat.h c o'' q, ?_, h.sat.nd, ?_⟩, ?_, h.le, h.hn, h.ln⟩
  · intro p hp
    rcases List.mem_cons.1 hp with rfl | hp
    · exact hb
    · rw [hx p.1 (fun e => hnd.1 (by have := mem_keys hp; rw [e] at this; exact this))]
      exact h.sat.l p (List.mem_cons_of_mem _ hp)
  · intro p hp
    rcases List.mem_cons.1 hp with rfl | hp
    · exact h.sat.dj (b, o) (List.mem_cons_self ..)
    · exact h.sat.dj p (List.mem_cons_of_mem _ hp)
  · refine ⟨hos.trans h.chg.os, ht.trans h.chg.tape, hou.trans h.chg.output, by rw [hs]; exact h.chg.size, fun c hc hcx => ?_, Nat.le_trans h.chg.drawn hdr⟩
    have hcb : c ≠ b := fun e => by
      subst e
      rcases h.ln c (by simp [keys]) with h2 | h2
      · exact hcx h2
      · omega
    rw [hx c hcb]
    exact h.chg.same c hc hcx
theorem St.drew {x : Cx} {H : Heap} {L : Chunk} {w : World} (h : St x H L w) : St x H L w.drew :=
  ⟨⟨h.sat.h, h.sat.l, h.sat.nd, h.sat.dj⟩, ⟨h.chg.os, h.chg.tape, h.chg.output, h.chg.size, h.chg.same, Nat.le_succ_of_le h.chg.drawn⟩, h.le, h.hn, h.ln⟩
def hadd (H : Heap) (L : Chunk) : Heap := fun b => match L.find? (fun p => p.1 == b) with
  | some p => some p.2
  | none => H b
theorem hadd_le {H : Heap} {L : Chunk} (hd : ∀ p ∈ L, H p.1 = none) : HLe H (hadd H L) := fun b o hb => by
  unfold hadd
  cases hf : L.find? (fun p => p.1 == b) with
  | none => exact hb
  | some p =>
    have h1 := List.mem_of_find?_eq_some hf
    have h2 := List.find?_some hf
    simp only [beq_iff_eq] at h2
    have := hd p h1
    rw [h2, hb] at this; cases this
theorem hadd_at {H : Heap} {L : Chunk} (hn : (keys L).Nodup) (p : Nat × Obj) (hp : p ∈ L) : hadd H L p.1 = some p.2 := by
  unfold hadd
  induction L with
  | nil => cases hp
  | cons q L ih =>
    rw [List.find?_cons]
    have hnd := List.nodup_cons.1 hn
    rcases List.mem_cons.1 hp with rfl | hp
    · simp
    · have hne : (q.1 == p.1) = false := by
        rw [beq_eq_false_iff_ne]; intro e; exact hnd.1 (by have := mem_keys hp; rw [← e] at this; exact this)
      rw [hne]
      exact ih hnd.2 hp
theorem hadd_inv {H : Heap} {L : Chunk} {b : Nat} {o : Obj} (h : hadd H L b = some o) : (b, o) ∈ L ∨ H b = some o := by
  unfold hadd at h
  cases hf : L.find? (fun p => p.1 == b) with
  | none => rw [hf] at h; exact .inr h
  | some p =>
    rw [hf] at h
    have h1 := List.mem_of_find?_eq_some hf
    have h2 := List.find?_some hf
    simp only [beq_iff_eq] at h2
    injection h with h
    left; rw [← h, ← h2]; exact h1
theorem St.persist {x : Cx} {H : Heap} {A L : Chunk} {w : World} (h : St x H (A ++ L) w) : St x (hadd H A) L w := by
  have hnd := h.sat.nd
  rw [k_90, List.nodup_append] at hnd
  have hdA : ∀ p ∈ A, H p.1 = none := fun p hp => h.sat.dj p (List.mem_append_left _ hp)
  refine ⟨⟨?_, fun p hp => h.sat.l p (List.mem_append_right _ hp), hnd.2.1, ?_⟩, h.chg, h.le.trans (hadd_le hdA), ?_, fun b hb => h.ln b (by rw [k_90]; exact List.mem_append_right _ hb)⟩
  · intro b o hb
    rcases hadd_inv hb with hb | hb
    · exact h.sat.l (b, o) (List.mem_append_left _ hb)
    · exact h.sat.h b o hb
  · intro p hp
    cases hH : hadd H A p.1 with
    | none => rfl
    | some o =>
      rcases hadd_inv hH with hb | hb
      · exact absurd rfl (hnd.2.2 p.1 (mem_keys (p := (p.1, o)) hb) p.1 (mem_keys hp))
      · have := h.sat.dj p (List.mem_append_right _ hp); rw [hb] at this; cases this
  · intro b o hb h0
    rcases hadd_inv hb with hb | hb
    · exact h.ln b (by rw [k_90]; exact List.mem_append_left _ (mem_keys (p := (b, o)) hb))
    · exact h.hn b o hb h0
/-! ### Frames, and what is hidden in them -/
structure Fr where
  P : Program
  N : Nat
  rd : Option (Nat × Loop)
  D : List Deferred
def fence (rd : Option (Nat × Loop)) : Fence := { Fence.wide with round := rd.map (·.1) }
def mk (D : Nat) : Deferred := { target := .collected D, args := #[] }
def hid (rd : Option (Nat × Loop)) (ds : List Nat) : Chunk :=
  (match rd with | none => [] | some (l, r) => [(l, Obj.loop r), (r.defers, Obj.deferred (some []))]) ++ ds.map (fun D => (D, Obj.deferred (some [])))
abbrev Post := Exit → Env → Heap → Own → List Nat → Prop
def lift (fr : Fr) (x : Cx) (Q : Post) : Exit → Act → World → Prop := fun e a w =>
  ∃ σ H L ds, Sim fr.N σ a.tmps ∧ a.defers = ds.map mk ++ fr.D ∧ St x H (L.flatten ++ hid fr.rd ds) w ∧ Q e σ H L ds
def T (fr : Fr) (x : Cx) (c : Code) (Q : Post) (σ : Env) (H : Heap) (L : Own) (ds : List Nat) : Prop :=
  ∀ a w, Sim fr.N σ a.tmps → a.defers = ds.map mk ++ fr.D → St x H (L.flatten ++ hid fr.rd ds) w → c.wpIn (fence fr.rd) 0 fr.P (lift fr x Q) a w
def Post.thn (K : Env → Heap → Own → List Nat → Prop) (Q : Post) : Post
  | .normal, σ, H, L, ds => K σ H L ds
  | e, σ, H, L, ds => Q e σ H L ds
def Post.blk (id : Nat) (Q : Post) : Post
  | .exit id', σ, H, L, ds => (cond (Nat.beq id' id) (Q .normal σ H L ds) (Q (.exit id') σ H L ds))
  | e, σ, H, L, ds => Q e σ H L ds
def Post.noGoto (Q : Post) : Post
  | .goto _, _, _, _, _ => False
  | e, σ, H, L, ds => Q e σ H L ds
section wraps
variable {K : Env → Heap → Own → List Nat → Prop} {Q : Post} {σ : Env} {H : Heap} {L : Own} {ds : List Nat} {i id : Nat}
theorem Post.thnN (h : K σ H L ds) : Post.thn K Q .normal σ H L ds := h
theorem Post.thnR (h : Q .ret σ H L ds) : Post.thn K Q .ret σ H L ds := h
theorem Post.thnE (h : Q (.exit i) σ H L ds) : Post.thn K Q (.exit i) σ H L ds := h
theorem Post.blkN (h : Q .normal σ H L ds) : Post.blk id Q .normal σ H L ds := h
theorem Post.blkR (h : Q .ret σ H L ds) : Post.blk id Q .ret σ H L ds := h
theorem Post.blkE (hi : Nat.beq i id = false) (h : Q (.exit i) σ H L ds) : Post.blk id Q (.exit i) σ H L ds := by simp only [Post.blk, hi]; exact h
theorem Post.blkX (h : Q .normal σ H L ds) : Post.blk id Q (.exit id) σ H L ds := by simp only [Post.blk, Nat.beq_refl]; exact h
theorem Post.ngR (h : Q .ret σ H L ds) : Post.noGoto Q .ret σ H L ds := h
end wraps
section rules
variable {fr : Fr} {x : Cx} {Q : Post} {σ : Env} {H : Heap} {L : Own} {ds : List Nat}
theorem k_53 {e : Exit} {a : Act} {w : World} (hs : Sim fr.N σ a.tmps) (hd : a.defers = ds.map mk ++ fr.D) (h : St x H (L.flatten ++ hid fr.rd ds) w) (hq : Q e σ H L ds) : lift fr x Q e a w :=
  ⟨σ, H, L, ds, hs, hd, h, hq⟩
theorem T.seq {a b : Code} (h : T fr x a (Post.thn (T fr x b Q) Q) σ H L ds) : T fr x (.seq a b) Q σ H L ds := by
  intro A w hs hd hst
  refine wpIn_seq (wpIn_mono (h A w hs hd hst) ?_)
  rintro e a' w' ⟨σ', H', L', ds', hs', hd', hst', hq⟩
  cases e with
  | normal => exact hq a' w' hs' hd' hst'
  | exit id => exact k_53 hs' hd' hst' hq
  | goto l => exact k_53 hs' hd' hst' hq
  | ret => exact k_53 hs' hd' hst' hq
  | panic c => exact k_53 hs' hd' hst' hq
  | outgrown => exact k_53 hs' hd' hst' hq
theorem T.skip (h : Q .normal σ H L ds) : T fr x .skip Q σ H L ds := fun _ _ hs hd hst => wpIn_skip (k_53 hs hd hst h)
theorem T.label {l : Nat} (h : Q .normal σ H L ds) : T fr x (.label l) Q σ H L ds := fun _ _ hs hd hst => wpIn_label (k_53 hs hd hst h)
theorem T.exit {id : Nat} (h : Q (.exit id) σ H L ds) : T fr x (.exit id) Q σ H L ds := fun _ _ hs hd hst => wpIn_exit (k_53 hs hd hst h)
theorem T.ret (h : Q .ret σ H L ds) : T fr x .ret Q σ H L ds := fun _ _ hs hd hst => wpIn_ret (k_53 hs hd hst h)
theorem T.cond {c : Operand} {a b : Code} {t : Bool} (hc : ev σ c = .bool t) (h1 : t = true → T fr x a Q σ H L ds) (h2 : t = false → T fr x b Q σ H L ds) :
    T fr x (.cond c a b) Q σ H L ds := by
  intro A w hs hd hst
  have hc' : A.eval c = .bool t := by rw [hs.eval]; exact hc
  refine wpIn_cond_split hc' (fun ht => h1 ht A w hs hd hst) (fun ht => h2 ht A w hs hd hst)
theorem T.condD {c : Operand} {a b : Code} {p : Prop} [Decidable p] (hc : ev σ c = .bool (decide p)) (h1 : p → T fr x a Q σ H L ds) (h2 : ¬p → T fr x b Q σ H L ds) :
    T fr x (.cond c a b) Q σ H L ds := T.cond hc (fun h => h1 (of_decide_eq_true h)) (fun h => h2 (of_decide_eq_false h))
theorem T.condY {c : Operand} {a b : Code} (hc : ev σ c = .bool true) (h1 : T fr x a Q σ H L ds) : T fr x (.cond c a b) Q σ H L ds := T.cond hc (fun _ => h1) (fun h => by cases h)
theorem T.condN {c : Operand} {a b : Code} (hc : ev σ c = .bool false) (h1 : T fr x b Q σ H L ds) : T fr x (.cond c a b) Q σ H L ds := T.cond hc (fun h => by cases h) (fun _ => h1)
theorem T.mono {c : Code} {Q' : Post} (h : T fr x c Q σ H L ds) (hq : ∀ e σ H L ds, Q e σ H L ds → Q' e σ H L ds) : T fr x c Q' σ H L ds := fun a w hs hd hst =>
  wpIn_mono (h a w hs hd hst) (fun _ _ _ ⟨σ', H', L', ds', h1, h2, h3, h4⟩ => ⟨σ', H', L', ds', h1, h2, h3, hq _ _ _ _ _ h4⟩)
theorem T.block {id : Nat} {c : Code} (h : T fr x c (Post.blk id Q) σ H L ds) : T fr x (.block id c) Q σ H L ds := by
  intro A w hs hd hst
  refine wpIn_block (wpIn_mono (h A w hs hd hst) ?_)
  rintro e a' w' ⟨σ', H', L', ds', hs', hd', hst', hq⟩
  cases e with
  | exit id' =>
    simp only [Post.blk] at hq
    by_cases hid : id' = id
    · have hb : Nat.beq id' id = true := by rw [hid]; exact Nat.beq_refl id
      rw [hb] at hq
      simp only [Exit.inBlock, hid, if_true]
      exact k_53 hs' hd' hst' hq
    · have hb : Nat.beq id' id = false := nbeq hid
      rw [hb] at hq
      simp only [Exit.inBlock, hid, if_false]
      exact k_53 hs' hd' hst' hq
  | normal => exact k_53 hs' hd' hst' hq
  | goto l => exact k_53 hs' hd' hst' hq
  | ret => exact k_53 hs' hd' hst' hq
  | panic c => exact k_53 hs' hd' hst' hq
  | outgrown => exact k_53 hs' hd' hst' hq
theorem stepR_scope {P : Program} {b : Frame} {a : Act} {k : List Item} {cs : List Frame} {w : World} {c : Code} : step P (lone (b.atR a (.code (.scope c) :: k)) cs w) = .next (lone (b.atR a (.code c :: .inScope c :: k)) cs w) :=
  step_lone_go (by simp [stepG, stepG.exec, Frame.atR])
theorem stepR_inScope {P : Program} {b : Frame} {a : Act} {k : List Item} {cs : List Frame} {w : World} {c : Code} : step P (lone (b.atR a (.inScope c :: k)) cs w) = .next (lone (b.atR a k) cs w) :=
  step_lone_go (by simp [stepG, stepG.exec, Frame.atR])
theorem wpIn_scope {F : Fence} {n : Nat} {P : Program} {c : Code} {Q : Exit → Act → World → Prop} {a : Act} {w : World} (h : c.wpIn F n P Q a w) (hg : ∀ l a w, ¬ Q (.goto l) a w) : (Code.scope c).wpIn F n P Q a w := by
  intro b k cs hro hb hr
  obtain ⟨e, a₁, w₁, hq, harr⟩ := h b (.inScope c :: k) cs hro hb hr
  have s0 : StepsIn (Machine.fenced P F) P (lone (b.atR a (.code (.scope c) :: k)) cs w) (lone (b.atR a (.code c :: .inScope c :: k)) cs w) := .one (fenced_calm hb hr rfl) stepR_scope
  cases e with
  | normal => exact ⟨.normal, a₁, w₁, hq, StepsIn.trans s0 (StepsIn.trans harr (.one (fenced_calm hb hr rfl) stepR_inScope))⟩
  | exit id => exact ⟨.exit id, a₁, w₁, hq, fun k' hk => s0.trans (harr.1 k' (by simp [exitTo, hk])), fun h1 h2 => by
      obtain ⟨k₁, h3, h4⟩ := harr.2 h1 (by simp [exitTo, h2])
      exact ⟨k₁, h3, s0.trans h4⟩⟩
  | goto l => exact absurd hq (hg l _ _)
  | ret => exact ⟨_, a₁, w₁, hq, .of_steps s0 harr⟩
  | panic ch => exact ⟨_, a₁, w₁, hq, .of_steps s0 harr⟩
  | outgrown => exact ⟨_, a₁, w₁, hq, .of_steps s0 harr⟩
theorem T.scope {c : Code} (h : T fr x c (Post.noGoto Q) σ H L ds) : T fr x (.scope c) Q σ H L ds := by
  intro A w hs hd hst
  refine wpIn_mono (wpIn_scope (h A w hs hd hst) ?_) ?_
  · rintro l a w ⟨_, _, _, _, _, _, _, hq⟩; exact hq
  · rintro e a' w' ⟨σ', H', L', ds', hs', hd', hst', hq⟩
    cases e with
    | goto l => exact hq.elim
    | _ => exact k_53 hs' hd' hst' hq
def Slots (σ : Env) : List (Nat × Value) → Prop
  | [] => True
  | (d, v) :: r => σ d = v ∧ Slots σ r
def chain (σ : Env) : List (Nat × Value) → Env
  | [] => σ
  | (d, v) :: r => upd (chain σ r) d v
theorem Slots.chain {σ : Env} : ∀ {l : List (Nat × Value)}, Slots σ l → SX.chain σ l = σ
  | [], _ => rfl
  | (d, v) :: r, h => by rw [SX.chain, Slots.chain h.2]; exact upd_self _ _ _ h.1
theorem least {p : Nat → Prop} (h : ∃ n, p n) : ∃ n, p n ∧ ∀ m, p m → n ≤ m := by
  obtain ⟨n, hn⟩ := h
  induction n using Nat.strongRecOn with
  | _ n ih =>
    by_cases hm : ∃ m, m < n ∧ p m
    · obtain ⟨m, h1, h2⟩ := hm; exact ih m h1 h2
    · exact ⟨n, hn, fun m h => by
        rcases Nat.lt_or_ge m n with h1 | h1
        · exact absurd ⟨m, h1, h⟩ hm
        · exact h1⟩
theorem T.loop {ι : Type} {c : Code} (I : ι → Heap → Own → List Nat → Prop) (sl : ι → List (Nat × Value)) (μ : ι → Nat) (i0 : ι)
    (h0 : I i0 H L ds) (hs0 : Slots σ (sl i0))
    (hr : ∀ i σb H' L' ds', HLe H H' → I i H' L' ds' → T fr x c (Post.thn (fun σ'' H'' L'' ds'' => ∃ j, HLe H H'' ∧ I j H'' L'' ds'' ∧ μ j < μ i ∧ Slots σ'' (sl j)) Q) (chain σb (sl i)) H' L' ds') :
    T fr x (.loop c) Q σ H L ds := by
  intro A w hs hd hst
  let J : Act → World → Nat → Prop := fun a w n => ∃ i σ' H' L' ds', μ i = n ∧ HLe H H' ∧ I i H' L' ds' ∧ Slots σ' (sl i) ∧ Sim fr.N σ' a.tmps ∧ a.defers = ds'.map mk ++ fr.D ∧ St x H' (L'.flatten ++ hid fr.rd ds') w
  have key := wpIn_loop (F := fence fr.rd) (n := 0) (P := fr.P) (Q := lift fr x Q) (c := c) (a := A) (w := w) (fun a w => ∃ n, J a w n) (fun a w => by classical exact if h : ∃ n, J a w n then Classical.choose (least h) else 0)
    ⟨μ i0, i0, σ, H, L, ds, rfl, HLe.refl _, h0, hs0, hs, hd, hst⟩ ?_
  · exact key
  · rintro a w hJ
    have hfind : J a w (Classical.choose (least hJ)) := (Classical.choose_spec (least hJ)).1
    obtain ⟨i, σ', H', L', ds', hn, hle, hI, hsl, hs', hd', hst'⟩ := hfind
    rw [← Slots.chain hsl] at hs'
    refine wpIn_mono (hr i σ' H' L' ds' hle hI a w hs' hd' hst') ?_
    rintro e a2 w2 ⟨σ2, H2, L2, ds2, hs2, hd2, hst2, hq⟩
    cases e with
    | normal =>
      obtain ⟨j, hle2, hj, hlt, hsl2⟩ := hq
      have hJ2 : J a2 w2 (μ j) := ⟨j, σ2, H2, L2, ds2, rfl, hle2, hj, hsl2, hs2, hd2, hst2⟩
      refine ⟨⟨_, hJ2⟩, ?_⟩
      rw [dif_pos ⟨_, hJ2⟩, dif_pos hJ, ← hn]
      exact Nat.lt_of_le_of_lt ((Classical.choose_spec (least ⟨_, hJ2⟩)).2 _ hJ2) hlt
    | exit id => exact k_53 hs2 hd2 hst2 hq
    | goto l => exact k_53 hs2 hd2 hst2 hq
    | ret => exact k_53 hs2 hd2 hst2 hq
    | panic c => exact k_53 hs2 hd2 hst2 hq
    | outgrown => exact k_53 hs2 hd2 hst2 hq
end rules
attribute [irreducible] T
end Go.SX
namespace Go.SX
open Go
attribute [local semireducible] T
def nth {α : Type} : List α → Nat → Option α
  | [], _ => none
  | a :: _, 0 => some a
  | _ :: r, n + 1 => nth r n
theorem nth_eq {α : Type} : ∀ (l : List α) (n : Nat), nth l n = l[n]?
  | [], n => by simp [nth]
  | a :: r, 0 => by simp [nth]
  | a :: r, n + 1 => by simp [nth, nth_eq r n]
def yl (ol : List Oper) (σ : Env) (j : Nat) : Option Bool :=
  match nth ol j with
  | some o => match o.dst with
    | some t => match σ t with
      | .bool b => some b
      | _ => none
    | none => none
  | none => none
def beqB : Bool → Bool → Bool
  | true, true => true
  | false, false => true
  | _, _ => false
def wants (ol : List Oper) (σ : Env) : Option (Nat × Bool) → Bool
  | none => true
  | some (j, b) => match yl ol σ j with
    | some c => beqB c b
    | none => false
def wan (N : Nat) (ol : List Oper) (σ : Env) (d : Nat) (g : Option (Nat × Bool)) : Bool := Nat.blt d N && wants ol σ g
def wpLo (F : Fence) (P : Program) (ops : Array Oper) (Q : Exit → Act → World → Prop) : List Oper → Act → World → Prop
  | [], a, w => Q .normal a w
  | o :: r, a, w => if Region.wanted o (yielded ops a.tmps) then o.wpIn F 0 P a w (wpLo F P ops Q r) Q
      else (∀ f, o.about P w a.eval = some f → F.fn f) ∧ wpLo F P ops Q r (a.put o.dst undef) w
theorem k_6e {F : Fence} {P : Program} {ops : Array Oper} {Q : Exit → Act → World → Prop} : ∀ (is : List Nat) (a : Act) (w : World),
    wpLo F P ops Q (is.filterMap (fun i => ops[i]?)) a w → wpOpsIn F 0 P ops Q is a w
  | [], _, _, h => h
  | i :: is, a, w, h => by
    simp only [wpOpsIn]
    cases ho : ops[i]? with
    | none =>
      rw [List.filterMap_cons_none ho] at h
      exact k_6e is a w h
    | some o =>
      rw [List.filterMap_cons_some ho] at h
      simp only [wpLo] at h
      simp only
      have e : wpLo F P ops Q (is.filterMap fun i => ops[i]?) = fun a w => wpLo F P ops Q (is.filterMap fun i => ops[i]?) a w := rfl
      split at h
      · rename_i hw
        rw [if_pos hw]
        obtain ⟨h1, h2⟩ := h
        refine ⟨h1, ?_⟩
        unfold Oper.uponIn at h2 ⊢
        split at h2
        · exact k_6e is _ _ h2
        · exact k_6e is _ _ h2
        · exact k_6e is _ _ h2
        · exact ⟨h2.1, h2.2.mono fun e w' h3 => by cases e <;> first | exact k_6e is _ _ h3 | exact h3⟩
        · exact ⟨h2.1, h2.2.mono fun v w' h3 => k_6e is _ _ h3⟩
        · exact ⟨h2.1, h2.2.mono fun e w' h3 => by cases e <;> first | exact k_6e is _ _ h3 | exact h3⟩
        · exact h2
        · exact h2
      · rename_i hw
        rw [if_neg hw]
        exact ⟨h.1, k_6e is _ _ h.2⟩
theorem range_filterMap (l : List Oper) : (List.range l.length).filterMap (fun i => l.toArray[i]?) = l := by
  have : ∀ (l : List Oper) (k : Nat) (f : Nat → Option Oper), (∀ i, f (k + i) = l[i]?) → (List.range' k l.length).filterMap f = l := by
    intro l
    induction l with
    | nil => intro k f _; simp
    | cons a l ih =>
      intro k f h
      rw [List.length_cons, List.range'_succ, List.filterMap_cons_some (by have := h 0; simpa using this)]
      rw [ih (k + 1) f (fun i => by have := h (i + 1); rw [show k + 1 + i = k + (i + 1) by omega, this]; simp)]
  rw [List.range_eq_range']
  exact this l 0 _ (fun i => by simp)
def TL (fr : Fr) (x : Cx) (ol : List Oper) (l : List Oper) (Q : Post) (σ : Env) (H : Heap) (L : Own) (ds : List Nat) : Prop :=
  ∀ a w, Sim fr.N σ a.tmps → a.defers = ds.map mk ++ fr.D → St x H (L.flatten ++ hid fr.rd ds) w → wpLo (fence fr.rd) fr.P ol.toArray (lift fr x Q) l a w
section
variable {fr : Fr} {x : Cx} {Q : Post} {σ : Env} {H : Heap} {L : Own} {ds : List Nat} {ol rest : List Oper}
theorem T.region {id : Nat} {l : List Oper} (h : TL fr x l l Q σ H L ds) : T fr x (.region id l.toArray false) Q σ H L ds := by
  intro a w hs hd hst
  refine wpIn_region (k_6e _ a w ?_)
  have := range_filterMap l
  rw [show (List.range l.toArray.size) = List.range l.length by simp, this]
  exact h a w hs hd hst
theorem TL.nil (h : Q .normal σ H L ds) : TL fr x ol [] Q σ H L ds := fun _ _ hs hd hst => k_53 hs hd hst h
theorem yl_eq {a : Act} {N : Nat} (hs : Sim N σ a.tmps) (j : Nat) (b : Bool) (h : yl ol σ j = some b) : yielded ol.toArray a.tmps j = some b := by
  unfold yl at h
  rw [nth_eq] at h
  unfold yielded
  simp only [List.getElem?_toArray]
  cases ho : ol[j]? with
  | none => rw [ho] at h; cases h
  | some o =>
    rw [ho] at h
    simp only at h
    simp only [Option.bind_some]
    cases hd : o.dst with
    | none => rw [hd] at h; cases h
    | some t =>
      rw [hd] at h
      simp only at h
      simp only [Option.bind_some]
      have hv := hs.val t
      rw [← hv] at h
      cases ht : a.tmps[t]? with
      | none =>
        rw [Array.getD_eq_getD_getElem?, ht] at h
        simp [undef] at h
      | some v =>
        rw [Array.getD_eq_getD_getElem?, ht] at h
        simp only [Option.getD_some] at h
        cases v <;> simp_all
theorem k_a9 {a : Act} {N : Nat} (hs : Sim N σ a.tmps) {o : Oper} (h : wants ol σ o.guard = true) : Region.wanted o (yielded ol.toArray a.tmps) = true := by
  unfold wants at h
  unfold Region.wanted
  cases hg : o.guard with
  | none => rfl
  | some p =>
    obtain ⟨j, b⟩ := p
    rw [hg] at h
    simp only at h
    cases hy : yl ol σ j with
    | none => rw [hy] at h; cases h
    | some c =>
      rw [hy] at h
      simp only at h
      simp only [yl_eq hs j c hy]
      cases b <;> cases c <;> first | rfl | cases h
theorem unwanted_of {a : Act} {N : Nat} (hs : Sim N σ a.tmps) {o : Oper} {j : Nat} {b c : Bool} (hg : o.guard = some (j, b)) (h : yl ol σ j = some c) (hne : beqB c b = false) : Region.wanted o (yielded ol.toArray a.tmps) = false := by
  unfold Region.wanted
  rw [hg]
  simp only [yl_eq hs j c h]
  cases b <;> cases c <;> first | rfl | cases hne
theorem wan_lt {N d : Nat} {g : Option (Nat × Bool)} (h : wan N ol σ d g = true) : Nat.blt d N = true ∧ wants ol σ g = true := by
  unfold wan at h; simpa using h
theorem fenceFn (rd : Option (Nat × Loop)) (f : FuncId) : (fence rd).fn f := trivial
def isDefer : Op → Bool
  | .defer _ => true
  | _ => false
theorem k_b0 {rd : Option Nat} {ρ : Operand → Value} {o : Oper} (h : isDefer o.op = false) : o.semAt rd ρ = execOp ρ o :=
  Oper.semAt_eq rd ρ o (fun c hc => by rw [hc] at h; cases h)
theorem Sim.putA {N : Nat} {a : Act} (h : Sim N σ a.tmps) (d : Nat) (v : Value) (hd : Nat.blt d N = true) : Sim N (upd σ d v) (a.put (some d) v).tmps := h.put d v hd
theorem TL.value {d : Nat} {op : Op} {ty : TypeId} {p : String} {af : Array Edge} {g : Option (Nat × Bool)} (hw : wan fr.N ol σ d g = true) (hnd : isDefer op = false)
    (h : ∀ w, St x H (L.flatten ++ hid fr.rd ds) w → ∃ v w' H' L', (execOp (ev σ) ⟨some d, op, ty, p, af, g⟩).run fr.P w = .ok (.value v) w' ∧
      St x H' (L'.flatten ++ hid fr.rd ds) w' ∧ TL fr x ol rest Q (upd σ d v) H' L' ds) :
    TL fr x ol (⟨some d, op, ty, p, af, g⟩ :: rest) Q σ H L ds := by
  intro a w hs hd hst
  obtain ⟨hdN, hwn⟩ := wan_lt hw
  obtain ⟨v, w', H', L', hrun, hst', hT⟩ := h w hst
  unfold wpLo
  rw [if_pos (k_a9 hs hwn)]
  refine ⟨fun f _ => fenceFn _ f, ?_⟩
  rw [k_b0 hnd, hs.eval, hrun]
  exact hT _ w' (hs.putA d v hdN) hd hst'
theorem TL.pureE {d : Nat} {op : Op} {ty : TypeId} {p : String} {af : Array Edge} {g : Option (Nat × Bool)} {v : Value} (hw : wan fr.N ol σ d g = true) (hnd : isDefer op = false)
    (hop : ∀ w, (execOp (ev σ) ⟨some d, op, ty, p, af, g⟩).run fr.P w = .ok (.value v) w) (h : TL fr x ol rest Q (upd σ d v) H L ds) :
    TL fr x ol (⟨some d, op, ty, p, af, g⟩ :: rest) Q σ H L ds :=
  TL.value hw hnd (fun w hst => ⟨v, w, H, L, hop w, hst, h⟩)
theorem TL.off {d : Nat} {op : Op} {ty : TypeId} {p : String} {af : Array Edge} {j : Nat} {b c : Bool} (hdN : Nat.blt d fr.N = true) (hy : yl ol σ j = some c) (hne : beqB c b = false)
    (h : TL fr x ol rest Q (upd σ d undef) H L ds) : TL fr x ol (⟨some d, op, ty, p, af, some (j, b)⟩ :: rest) Q σ H L ds := by
  intro a w hs hd hst
  unfold wpLo
  rw [if_neg (by rw [unwanted_of hs rfl hy hne]; simp)]
  exact ⟨fun f _ => fenceFn _ f, h _ w (hs.putA d undef hdN) hd hst⟩
theorem TL.gsplit (t : Nat) {b : Bool} (hb : σ t = .bool b) {l : List Oper} (h1 : b = true → TL fr x ol l Q (upd σ t (.bool true)) H L ds) (h2 : b = false → TL fr x ol l Q (upd σ t (.bool false)) H L ds) : TL fr x ol l Q σ H L ds := by
  cases b with
  | true => have := h1 rfl; rwa [upd_self _ _ _ hb] at this
  | false => have := h2 rfl; rwa [upd_self _ _ _ hb] at this
theorem TL.gsplitD (t : Nat) {p : Prop} [Decidable p] (hb : σ t = .bool (decide p)) {l : List Oper} (h1 : p → TL fr x ol l Q (upd σ t (.bool true)) H L ds) (h2 : ¬p → TL fr x ol l Q (upd σ t (.bool false)) H L ds) : TL fr x ol l Q σ H L ds :=
  TL.gsplit t hb (fun h => h1 (of_decide_eq_true h)) (fun h => h2 (of_decide_eq_false h))
theorem TL.set (t : Nat) (v : Value) (hb : σ t = v) {l : List Oper} (h : TL fr x ol l Q (upd σ t v) H L ds) : TL fr x ol l Q σ H L ds := by
  rwa [upd_self _ _ _ hb] at h
theorem T.set (t : Nat) (v : Value) (hb : σ t = v) {c : Code} (h : T fr x c Q (upd σ t v) H L ds) : T fr x c Q σ H L ds := by
  rwa [upd_self _ _ _ hb] at h
section pure
variable {d : Nat} {ty : TypeId} {p : String} {af : Array Edge} {g : Option (Nat × Bool)}
theorem R.mv {X : Operand} (hw : wan fr.N ol σ d g = true) (h : TL fr x ol rest Q (upd σ d (ev σ X)) H L ds) : TL fr x ol (⟨some d, .move X, ty, p, af, g⟩ :: rest) Q σ H L ds :=
  TL.pureE hw rfl (fun _ => rfl) h
theorem R.as {X : Operand} (hw : wan fr.N ol σ d g = true) (h : TL fr x ol rest Q (upd σ d (ev σ X)) H L ds) : TL fr x ol (⟨some d, .assign X, ty, p, af, g⟩ :: rest) Q σ H L ds :=
  TL.pureE hw rfl (fun _ => rfl) h
theorem R.pkT {c A B : Operand} (hw : wan fr.N ol σ d g = true) (hc : ev σ c = .bool true) (h : TL fr x ol rest Q (upd σ d (ev σ A)) H L ds) : TL fr x ol (⟨some d, .pick c A B, ty, p, af, g⟩ :: rest) Q σ H L ds :=
  TL.pureE hw rfl (fun w => by simp [execOp, hc, asBool]) h
theorem R.pkF {c A B : Operand} (hw : wan fr.N ol σ d g = true) (hc : ev σ c = .bool false) (h : TL fr x ol rest Q (upd σ d (ev σ B)) H L ds) : TL fr x ol (⟨some d, .pick c A B, ty, p, af, g⟩ :: rest) Q σ H L ds :=
  TL.pureE hw rfl (fun w => by simp [execOp, hc, asBool]) h
variable {X Y : Operand} {a b : Int} {k : IntKind} {xt yt : TypeId}
theorem R.add (hw : wan fr.N ol σ d g = true) (hx : ev σ X = .int k a) (hy : ev σ Y = .int k b) (h : TL fr x ol rest Q (upd σ d (.int k (k.wrap (a + b)))) H L ds) : TL fr x ol (⟨some d, .binOp .add xt X Y yt, ty, p, af, g⟩ :: rest) Q σ H L ds :=
  TL.pureE hw rfl (fun w => by simp [execOp, eqGuard, binOp, Op.intArith, hx, hy]) h
theorem R.sub (hw : wan fr.N ol σ d g = true) (hx : ev σ X = .int k a) (hy : ev σ Y = .int k b) (h : TL fr x ol rest Q (upd σ d (.int k (k.wrap (a - b)))) H L ds) : TL fr x ol (⟨some d, .binOp .sub xt X Y yt, ty, p, af, g⟩ :: rest) Q σ H L ds :=
  TL.pureE hw rfl (fun w => by simp [execOp, eqGuard, binOp, Op.intArith, hx, hy]) h
theorem R.mul (hw : wan fr.N ol σ d g = true) (hx : ev σ X = .int k a) (hy : ev σ Y = .int k b) (h : TL fr x ol rest Q (upd σ d (.int k (k.wrap (a * b)))) H L ds) : TL fr x ol (⟨some d, .binOp .mul xt X Y yt, ty, p, af, g⟩ :: rest) Q σ H L ds :=
  TL.pureE hw rfl (fun w => by simp [execOp, eqGuard, binOp, Op.intArith, hx, hy]) h
theorem R.addI (hw : wan fr.N ol σ d g = true) (hx : ev σ X = .int .i64 a) (hy : ev σ Y = .int .i64 b) (hb : -9223372036854775808 ≤ a + b ∧ a + b ≤ 9223372036854775807) (h : TL fr x ol rest Q (upd σ d (.int .i64 (a + b))) H L ds) : TL fr x ol (⟨some d, .binOp .add xt X Y yt, ty, p, af, g⟩ :: rest) Q σ H L ds :=
  R.add hw hx hy (by rw [IntWalk.i64_in _ hb]; exact h)
theorem R.subI (hw : wan fr.N ol σ d g = true) (hx : ev σ X = .int .i64 a) (hy : ev σ Y = .int .i64 b) (hb : -9223372036854775808 ≤ a - b ∧ a - b ≤ 9223372036854775807) (h : TL fr x ol rest Q (upd σ d (.int .i64 (a - b))) H L ds) : TL fr x ol (⟨some d, .binOp .sub xt X Y yt, ty, p, af, g⟩ :: rest) Q σ H L ds :=
  R.sub hw hx hy (by rw [IntWalk.i64_in _ hb]; exact h)
theorem R.eql (hw : wan fr.N ol σ d g = true) (hx : ev σ X = .int k a) (hy : ev σ Y = .int k b) (h : TL fr x ol rest Q (upd σ d (.bool (decide (a = b)))) H L ds) : TL fr x ol (⟨some d, .binOp .eql xt X Y yt, ty, p, af, g⟩ :: rest) Q σ H L ds :=
  TL.pureE hw rfl (fun w => by simp [execOp, eqGuard, binOp, Op.intCmp, hx, hy]; rfl) h
theorem R.neq (hw : wan fr.N ol σ d g = true) (hx : ev σ X = .int k a) (hy : ev σ Y = .int k b) (h : TL fr x ol rest Q (upd σ d (.bool (decide (a ≠ b)))) H L ds) : TL fr x ol (⟨some d, .binOp .neq xt X Y yt, ty, p, af, g⟩ :: rest) Q σ H L ds :=
  TL.pureE hw rfl (fun w => by
    have : (a != b) = decide (a ≠ b) := by by_cases e : a = b <;> simp [e]
    simp [execOp, eqGuard, binOp, Op.intCmp, hx, hy, this]) h
theorem R.lss (hw : wan fr.N ol σ d g = true) (hx : ev σ X = .int k a) (hy : ev σ Y = .int k b) (h : TL fr x ol rest Q (upd σ d (.bool (decide (a < b)))) H L ds) : TL fr x ol (⟨some d, .binOp .lss xt X Y yt, ty, p, af, g⟩ :: rest) Q σ H L ds :=
  TL.pureE hw rfl (fun w => by simp [execOp, eqGuard, binOp, Op.intCmp, hx, hy]) h
theorem R.leq (hw : wan fr.N ol σ d g = true) (hx : ev σ X = .int k a) (hy : ev σ Y = .int k b) (h : TL fr x ol rest Q (upd σ d (.bool (decide (a ≤ b)))) H L ds) : TL fr x ol (⟨some d, .binOp .leq xt X Y yt, ty, p, af, g⟩ :: rest) Q σ H L ds :=
  TL.pureE hw rfl (fun w => by simp [execOp, eqGuard, binOp, Op.intCmp, hx, hy]) h
theorem R.gtr (hw : wan fr.N ol σ d g = true) (hx : ev σ X = .int k a) (hy : ev σ Y = .int k b) (h : TL fr x ol rest Q (upd σ d (.bool (decide (b < a)))) H L ds) : TL fr x ol (⟨some d, .binOp .gtr xt X Y yt, ty, p, af, g⟩ :: rest) Q σ H L ds :=
  TL.pureE hw rfl (fun w => by simp [execOp, eqGuard, binOp, Op.intCmp, hx, hy]) h
theorem R.geq (hw : wan fr.N ol σ d g = true) (hx : ev σ X = .int k a) (hy : ev σ Y = .int k b) (h : TL fr x ol rest Q (upd σ d (.bool (decide (b ≤ a)))) H L ds) : TL fr x ol (⟨some d, .binOp .geq xt X Y yt, ty, p, af, g⟩ :: rest) Q σ H L ds :=
  TL.pureE hw rfl (fun w => by simp [execOp, eqGuard, binOp, Op.intCmp, hx, hy]) h
end pure
end
def band (k : IntKind) (a b : Int) : Int := k.wrap ((BitVec.ofInt k.bits a &&& BitVec.ofInt k.bits b).toNat)
def bor (k : IntKind) (a b : Int) : Int := k.wrap ((BitVec.ofInt k.bits a ||| BitVec.ofInt k.bits b).toNat)
def bshl (k : IntKind) (a y : Int) : Int := k.wrap (a * 2 ^ (min y.toNat k.bits))
def bshr (k : IntKind) (a y : Int) : Int := a.fdiv (2 ^ (min y.toNat k.bits))
section
variable {fr : Fr} {x : Cx} {Q : Post} {σ : Env} {H : Heap} {L : Own} {ds : List Nat} {ol rest : List Oper}
variable {d : Nat} {ty : TypeId} {p : String} {af : Array Edge} {g : Option (Nat × Bool)}
variable {X Y : Operand} {a b : Int} {k k' : IntKind} {xt yt : TypeId}
theorem R.and (hw : wan fr.N ol σ d g = true) (hx : ev σ X = .int k a) (hy : ev σ Y = .int k b) (h : TL fr x ol rest Q (upd σ d (.int k (band k a b))) H L ds) : TL fr x ol (⟨some d, .binOp .and xt X Y yt, ty, p, af, g⟩ :: rest) Q σ H L ds :=
  TL.pureE hw rfl (fun w => by simp [execOp, eqGuard, binOp, Op.intBits, hx, hy, band]) h
theorem R.or (hw : wan fr.N ol σ d g = true) (hx : ev σ X = .int k a) (hy : ev σ Y = .int k b) (h : TL fr x ol rest Q (upd σ d (.int k (bor k a b))) H L ds) : TL fr x ol (⟨some d, .binOp .or xt X Y yt, ty, p, af, g⟩ :: rest) Q σ H L ds :=
  TL.pureE hw rfl (fun w => by simp [execOp, eqGuard, binOp, Op.intBits, hx, hy, bor]) h
theorem R.shl (hw : wan fr.N ol σ d g = true) (hx : ev σ X = .int k a) (hy : ev σ Y = .int k' b) (hb : 0 ≤ b) (h : TL fr x ol rest Q (upd σ d (.int k (bshl k a b))) H L ds) : TL fr x ol (⟨some d, .binOp .shl xt X Y yt, ty, p, af, g⟩ :: rest) Q σ H L ds :=
  TL.pureE hw rfl (fun w => by simp [execOp, eqGuard, binOp, Op.shift, hx, hy, bshl, show ¬ b < 0 by omega]) h
theorem R.shr (hw : wan fr.N ol σ d g = true) (hx : ev σ X = .int k a) (hy : ev σ Y = .int k' b) (hb : 0 ≤ b) (h : TL fr x ol rest Q (upd σ d (.int k (bshr k a b))) H L ds) : TL fr x ol (⟨some d, .binOp .shr xt X Y yt, ty, p, af, g⟩ :: rest) Q σ H L ds :=
  TL.pureE hw rfl (fun w => by simp [execOp, eqGuard, binOp, Op.shift, hx, hy, bshr, show ¬ b < 0 by omega]) h
theorem R.not {t : Bool} (hw : wan fr.N ol σ d g = true) (hx : ev σ X = .bool t) (h : TL fr x ol rest Q (upd σ d (.bool (!t))) H L ds) : TL fr x ol (⟨some d, .unOp .not xt X, ty, p, af, g⟩ :: rest) Q σ H L ds :=
  TL.pureE hw rfl (fun w => by simp [execOp, Op.unary, hx]) h
theorem R.notD {q : Prop} [Decidable q] (hw : wan fr.N ol σ d g = true) (hx : ev σ X = .bool (decide q)) (h : TL fr x ol rest Q (upd σ d (.bool (decide (¬ q)))) H L ds) : TL fr x ol (⟨some d, .unOp .not xt X, ty, p, af, g⟩ :: rest) Q σ H L ds :=
  R.not hw hx (by rw [← decide_not]; exact h)
theorem run_equalIn_bool {P : Program} {t : TypeId} (hu : P.underlying t = some .bool) (m : Nat) (s u : Bool) (w : World) : (Op.equalIn (m + 1) t (.bool s) (.bool u)).run P w = .ok (s == u) w := by
  simp only [Op.equalIn, Sem.run_bind, run_underlying hu, Result.andThen]
  rfl
theorem R.conv {ks kd : IntKind} {src dst : TypeId} (hs : fr.P.underlying src = some (.int ks)) (hd : fr.P.underlying dst = some (.int kd)) (hw : wan fr.N ol σ d g = true) (hx : ev σ X = .int k a) (h : TL fr x ol rest Q (upd σ d (.int kd (kd.wrap a))) H L ds) :
    TL fr x ol (⟨some d, .convert src dst X, ty, p, af, g⟩ :: rest) Q σ H L ds :=
  TL.pureE hw rfl (fun w => by simp [execOp, convert, run_underlying hs, run_underlying hd, hx, Conv.intToInt]) h
theorem R.ext {l : List Value} {i : Nat} {v : Value} (hw : wan fr.N ol σ d g = true) (hx : ev σ X = .tuple l.toArray) (hi : nth l i = some v) (h : TL fr x ol rest Q (upd σ d v) H L ds) : TL fr x ol (⟨some d, .extract X i, ty, p, af, g⟩ :: rest) Q σ H L ds :=
  TL.pureE hw rfl (fun w => by rw [nth_eq] at hi; simp [execOp, Instr.extract, hx, hi]) h
theorem R.len {A : Option Addr} {n c : Nat} {t e : TypeId} (ht : fr.P.underlying t = some (.slice e)) (hw : wan fr.N ol σ d g = true) (hx : ev σ X = .slice A n c) (h : TL fr x ol rest Q (upd σ d (.int .i64 n)) H L ds) :
    TL fr x ol (⟨some d, .call { callee := .builtin .len, args := #[X], argTypes := #[t] }, ty, p, af, g⟩ :: rest) Q σ H L ds :=
  TL.pureE hw rfl (fun w => by simp [execOp, resolve, invoke, builtin, Builtin.len_, hx, run_underlying ht, goInt]) h
theorem R.cap {A : Option Addr} {n c : Nat} {t e : TypeId} (ht : fr.P.underlying t = some (.slice e)) (hw : wan fr.N ol σ d g = true) (hx : ev σ X = .slice A n c) (h : TL fr x ol rest Q (upd σ d (.int .i64 c)) H L ds) :
    TL fr x ol (⟨some d, .call { callee := .builtin .cap, args := #[X], argTypes := #[t] }, ty, p, af, g⟩ :: rest) Q σ H L ds :=
  TL.pureE hw rfl (fun w => by simp [execOp, resolve, invoke, builtin, Builtin.cap_, hx, run_underlying ht, goInt]) h
theorem R.min2 {at_ : Array TypeId} (hw : wan fr.N ol σ d g = true) (hx : ev σ X = .int k a) (hy : ev σ Y = .int k' b) (h : TL fr x ol rest Q (upd σ d (.int k (if b < a then b else a))) H L ds) :
    TL fr x ol (⟨some d, .call { callee := .builtin .min, args := #[X, Y], argTypes := at_ }, ty, p, af, g⟩ :: rest) Q σ H L ds :=
  TL.pureE hw rfl (fun w => by simp [execOp, resolve, invoke, builtin, Builtin.min_, Builtin.min2, hx, hy]) h
theorem R.max2 {at_ : Array TypeId} (hw : wan fr.N ol σ d g = true) (hx : ev σ X = .int k a) (hy : ev σ Y = .int k' b) (h : TL fr x ol rest Q (upd σ d (.int k (if a < b then b else a))) H L ds) :
    TL fr x ol (⟨some d, .call { callee := .builtin .max, args := #[X, Y], argTypes := at_ }, ty, p, af, g⟩ :: rest) Q σ H L ds :=
  TL.pureE hw rfl (fun w => by simp [execOp, resolve, invoke, builtin, Builtin.max_, Builtin.max2, hx, hy]) h
theorem R.mkf {fn : Fn} {caps : List Operand} {cs : List Value} (hw : wan fr.N ol σ d g = true) (hc : caps.map (ev σ) = cs) (h : TL fr x ol rest Q (upd σ d (.func fn #[] cs.toArray)) H L ds) :
    TL fr x ol (⟨some d, .makeFunc fn #[] caps.toArray, ty, p, af, g⟩ :: rest) Q σ H L ds :=
  TL.pureE hw rfl (fun w => by simp [execOp, Instr.makeFunc, ← hc]) h
theorem R.nilck {ad : Addr} (hw : wan fr.N ol σ d g = true) (hx : ev σ X = .pointer (some ad)) (h : TL fr x ol rest Q (upd σ d (.pointer (some ad))) H L ds) : TL fr x ol (⟨some d, .nilCheck X, ty, p, af, g⟩ :: rest) Q σ H L ds :=
  TL.pureE hw rfl (fun w => by simp [execOp, hx]) h
end
attribute [irreducible] TL
end Go.SX
namespace Go.SX
open Go
attribute [local semireducible] T TL
def CallV (P : Program) (fv : Value) (vs : List Value) (w : World) (R : Ending → World → Prop) : Prop :=
  ∃ nx w1, Sem.run P (do let d ← Deferred.ofValue fv vs.toArray; invoke d.target d.args) w = .ok nx w1 ∧
    match nx with
    | .enter f ag => CallsIn Fence.wide 0 P f ag w1 R
    | .round l fn tmps ag body => RoundIn Fence.wide 0 P l fn tmps ag body w1 R
    | _ => False
def Fc (P : Program) (fv : Value) (vs : List Value) (H : Heap) (L : Own) (post : Value → Heap → Own → Prop) : Prop :=
  ∀ w, Sat H L.flatten w → CallV P fv vs w (fun e w' => ∃ v H' L', e = .returned v ∧ St ⟨w, H, L.flatten⟩ H' (List.flatten L') w' ∧ post v H' L')
def Fp (P : Program) (fv : Value) (vs : List Value) (H : Heap) (post : Value → Heap → Prop) : Prop :=
  Fc P fv vs H [] (fun v H' L' => L' = [] ∧ post v H')
def Fv (P : Program) (fv : Value) (vs : List Value) (H : Heap) (v : Value) : Prop := Fp P fv vs H (fun v' _ => v' = v)
abbrev fnv (f : FuncId) : Value := .func (.func f) #[] #[]
def split : List Bool → Own → Own × Own
  | [], L => ([], L)
  | _ :: _, [] => ([], [])
  | true :: m, c :: L => let r := split m L; (c :: r.1, r.2)
  | false :: m, c :: L => let r := split m L; (r.1, c :: r.2)
theorem split_perm : ∀ (m : List Bool) (L : Own), L.flatten.Perm ((split m L).1.flatten ++ (split m L).2.flatten)
  | [], L => by simp [split]
  | b :: _, [] => by cases b <;> simp [split]
  | true :: m, c :: L => by
    simp only [split, List.flatten_cons, List.append_assoc]
    exact (split_perm m L).append_left c
  | false :: m, c :: L => by
    simp only [split, List.flatten_cons]
    refine ((split_perm m L).append_left c).trans ?_
    rw [← List.append_assoc, ← List.append_assoc]
    exact List.Perm.append_right _ List.perm_append_comm
theorem CallV.mono {P : Program} {fv : Value} {vs : List Value} {w : World} {R R' : Ending → World → Prop} (h : CallV P fv vs w R) (hr : ∀ e w', R e w' → R' e w') : CallV P fv vs w R' := by
  obtain ⟨nx, w1, h1, h2⟩ := h
  refine ⟨nx, w1, h1, ?_⟩
  cases nx with
  | enter f ag => exact CallsIn.mono h2 hr
  | round l fn tmps ag body => exact RoundIn.mono h2 hr
  | _ => exact h2
theorem Fc.mono {P : Program} {fv : Value} {vs : List Value} {H : Heap} {L : Own} {p q : Value → Heap → Own → Prop} (h : Fc P fv vs H L p) (hq : ∀ v H' L', HLe H H' → p v H' L' → q v H' L') : Fc P fv vs H L q :=
  fun w hs => (h w hs).mono fun _ _ ⟨v, H', L', h1, h2, h3⟩ => ⟨v, H', L', h1, h2, hq v H' L' h2.le h3⟩
theorem Fv.to {P : Program} {fv : Value} {vs : List Value} {H : Heap} {v v' : Value} (h : Fv P fv vs H v) (e : v = v') : Fv P fv vs H v' := e ▸ h
section
variable {fr : Fr} {x : Cx} {Q : Post} {σ : Env} {H : Heap} {L : Own} {ds : List Nat} {ol rest : List Oper}
variable {d : Nat} {ty : TypeId} {p : String} {af : Array Edge} {g : Option (Nat × Bool)}
theorem resolve_value {ρ : Operand → Value} {F : Operand} {ag : List Operand} {ats : Array TypeId} {ty : TypeId} :
    (do let d ← resolve ρ { callee := .value F, args := ag.toArray, argTypes := ats } ty; invoke d.target d.args : Sem Next) = (do let d ← Deferred.ofValue (ρ F) (ag.map ρ).toArray; invoke d.target d.args) := by
  simp [resolve]
theorem calls_fence {P : Program} {rd : Option (Nat × Loop)} {n : Nat} {f : FuncId} {args : Array Value} {w : World} {R : Ending → World → Prop} (h : CallsIn Fence.wide 0 P f args w R) : CallsIn (fence rd) n P f args w R :=
  ⟨trivial, fun cs _ => h.2 cs (room_wide _)⟩
theorem round_fence {P : Program} {rd : Option (Nat × Loop)} {n : Nat} {l : Nat} {f : FuncId} {tmps : Array Value} {ag body : Code} {w : World} {R : Ending → World → Prop} (h : RoundIn Fence.wide 0 P l f tmps ag body w R) : RoundIn (fence rd) n P l f tmps ag body w R :=
  ⟨trivial, fun c cs _ => h.2 c cs (room_wide _)⟩
theorem TL.call {F : Operand} {ag : List Operand} {ats : Array TypeId} {fv : Value} {vs : List Value} {post : Value → Heap → Own → Prop} (m : List Bool) (hw : wan fr.N ol σ d g = true)
    (hf : ev σ F = fv) (ha : ag.map (ev σ) = vs) (hc : Fc fr.P fv vs H (split m L).1 post)
    (h : ∀ v H' L', HLe H H' → post v H' L' → TL fr x ol rest Q (upd σ d v) H' (L' ++ (split m L).2) ds) :
    TL fr x ol (⟨some d, .call { callee := .value F, args := ag.toArray, argTypes := ats }, ty, p, af, g⟩ :: rest) Q σ H L ds := by
  intro a w hs hd hst
  obtain ⟨hdN, hwn⟩ := wan_lt hw
  have hst' : St x H ((split m L).1.flatten ++ ((split m L).2.flatten ++ hid fr.rd ds)) w := by
    refine hst.perm ?_
    rw [← List.append_assoc]
    exact (split_perm m L).append_right _
  have hsub : Sat H (split m L).1.flatten w := hst'.sat.sub (List.sublist_append_left _ _)
  obtain ⟨nx, w1, hrun, hnx⟩ := hc w hsub
  unfold wpLo
  rw [if_pos (k_a9 hs hwn)]
  refine ⟨fun f _ => fenceFn _ f, ?_⟩
  rw [k_b0 rfl, hs.eval]
  simp only [execOp]
  rw [resolve_value, hf, ha, hrun]
  have fin : ∀ (e : Ending) w', (∃ v H' L', e = .returned v ∧ St ⟨w, H, (split m L).1.flatten⟩ H' (List.flatten L') w' ∧ post v H' L') →
      (match e with
        | .returned v => wpLo (fence fr.rd) fr.P ol.toArray (lift fr x Q) rest (a.put (some d) v) w'
        | .panicked chain => lift fr x Q (.panic chain) a w'
        | .outgrown => LetsOut (lift fr x Q)) := by
    rintro e w' ⟨v, H', L', rfl, h2, h3⟩
    have hj := hst'.join h2
    rw [← List.append_assoc, ← List.flatten_append] at hj
    exact h v H' L' h2.le h3 _ w' (hs.putA d v hdN) hd hj
  cases nx with
  | enter f ag' => exact ⟨(fun h => by cases h), CallsIn.mono (calls_fence hnx) (fun e w' q => by have := fin e w' q; cases e <;> exact this)⟩
  | round l fn tmps ag' body => exact ⟨(fun h => by cases h), RoundIn.mono (round_fence hnx) (fun e w' q => by have := fin e w' q; cases e <;> exact this)⟩
  | _ => exact hnx.elim
theorem TL.weak {H' : Heap} {l : List Oper} (h : TL fr x ol l Q σ H L ds) (hl : HLe H H') (h0 : HLe x.H H) : TL fr x ol l Q σ H' L ds :=
  fun a w hs hd hst => h a w hs hd (hst.weak hl h0)
theorem R.callp {F : Operand} {ag : List Operand} {ats : Array TypeId} {fv : Value} {vs : List Value} {post : Value → Heap → Prop} (hw : wan fr.N ol σ d g = true)
    (hf : ev σ F = fv) (ha : ag.map (ev σ) = vs) (hc : Fp fr.P fv vs H post) (h : ∀ v H', HLe H H' → post v H' → TL fr x ol rest Q (upd σ d v) H' L ds) :
    TL fr x ol (⟨some d, .call { callee := .value F, args := ag.toArray, argTypes := ats }, ty, p, af, g⟩ :: rest) Q σ H L ds :=
  TL.call [] hw hf ha hc (fun v H' L' hl ⟨h1, h2⟩ => by subst h1; exact h v H' hl h2)
theorem R.callv {F : Operand} {ag : List Operand} {ats : Array TypeId} {fv : Value} {vs : List Value} {v : Value} (hw : wan fr.N ol σ d g = true)
    (hf : ev σ F = fv) (ha : ag.map (ev σ) = vs) (hc : Fv fr.P fv vs H v) (h : TL fr x ol rest Q (upd σ d v) H L ds) :
    TL fr x ol (⟨some d, .call { callee := .value F, args := ag.toArray, argTypes := ats }, ty, p, af, g⟩ :: rest) Q σ H L ds := by
  intro a w hs hd hst
  have h0 := hst.le
  exact R.callp hw hf ha hc (fun v' H' hl e => by subst e; exact h.weak hl h0) a w hs hd hst
/-! ### Chunks -/
inductive In : Own → Chunk → Prop
  | hd {c : Chunk} {L : Own} : In (c :: L) c
  | tl {c e : Chunk} {L : Own} : In L c → In (e :: L) c
inductive Del : Own → Chunk → Own → Prop
  | hd {c : Chunk} {L : Own} : Del (c :: L) c L
  | tl {c e : Chunk} {L R : Own} : Del L c R → Del (e :: L) c (e :: R)
inductive Rep : Own → Chunk → Chunk → Own → Prop
  | hd {c c' : Chunk} {L : Own} : Rep (c :: L) c c' (c' :: L)
  | tl {c c' e : Chunk} {L R : Own} : Rep L c c' R → Rep (e :: L) c c' (e :: R)
theorem In.mem {L : Own} {c : Chunk} (h : In L c) {q : Nat × Obj} (hq : q ∈ c) : q ∈ L.flatten := by
  induction h with
  | hd => simp [hq]
  | tl _ ih => simp only [List.flatten_cons, List.mem_append]; exact .inr (ih hq)
theorem Del.perm {L R : Own} {c : Chunk} (h : Del L c R) : L.flatten.Perm (c ++ R.flatten) := by
  induction h with
  | hd => simp
  | tl _ ih =>
    simp only [List.flatten_cons]
    refine (ih.append_left _).trans ?_
    rw [← List.append_assoc, ← List.append_assoc]
    exact List.Perm.append_right _ List.perm_append_comm
theorem Rep.perm {L L' : Own} {c c' : Chunk} (h : Rep L c c' L') : ∃ R : Chunk, L.flatten.Perm (c ++ R) ∧ L'.flatten.Perm (c' ++ R) := by
  induction h with
  | hd => exact ⟨_, by simp; rfl, by simp⟩
  | @tl c c' e L R _ ih =>
    obtain ⟨S, h1, h2⟩ := ih
    refine ⟨e ++ S, ?_, ?_⟩
    · simp only [List.flatten_cons]
      refine (h1.append_left e).trans ?_
      rw [← List.append_assoc, ← List.append_assoc]
      exact List.Perm.append_right _ List.perm_append_comm
    · simp only [List.flatten_cons]
      refine (h2.append_left e).trans ?_
      rw [← List.append_assoc, ← List.append_assoc]
      exact List.Perm.append_right _ List.perm_append_comm
theorem St.del {H : Heap} {L R : Own} {c hd : Chunk} {w : World} (h : St x H (L.flatten ++ hd) w) (hdel : Del L c R) : St x H (R.flatten ++ hd) w := by
  refine (h.perm (L' := c ++ (R.flatten ++ hd)) ?_).sub (List.sublist_append_right _ _)
  rw [← List.append_assoc]
  exact hdel.perm.append_right _
theorem TL.del {R : Own} {c : Chunk} {l : List Oper} (hdel : Del L c R) (h : TL fr x ol l Q σ H R ds) : TL fr x ol l Q σ H L ds :=
  fun a w hs hd hst => h a w hs hd (hst.del hdel)
theorem St.shut {H : Heap} {L R : Own} {c hd : Chunk} {w : World} (h : St x H (L.flatten ++ hd) w) (hdel : Del L c R) : ∃ H', HLe H H' ∧ (∀ q ∈ c, H' q.1 = some q.2) ∧ St x H' (R.flatten ++ hd) w := by
  have h1 : St x H (c ++ (R.flatten ++ hd)) w := h.perm (by rw [← List.append_assoc]; exact hdel.perm.append_right _)
  have hnd := h1.sat.nd
  rw [k_90, List.nodup_append] at hnd
  exact ⟨hadd H c, hadd_le (fun q hq => h1.sat.dj q (List.mem_append_left _ hq)), fun q hq => hadd_at hnd.1 q hq, h1.persist⟩
theorem TL.shut {R : Own} {c : Chunk} {l : List Oper} (hdel : Del L c R) (h : ∀ H', HLe H H' → (∀ q ∈ c, H' q.1 = some q.2) → TL fr x ol l Q σ H' R ds) : TL fr x ol l Q σ H L ds := by
  intro a w hs hd hst
  obtain ⟨H', h1, h2, h3⟩ := hst.shut hdel
  exact h H' h1 h2 a w hs hd h3
theorem T.shut {R : Own} {c : Chunk} {cd : Code} (hdel : Del L c R) (h : ∀ H', HLe H H' → (∀ q ∈ c, H' q.1 = some q.2) → T fr x cd Q σ H' R ds) : T fr x cd Q σ H L ds := by
  intro a w hs hd hst
  obtain ⟨H', h1, h2, h3⟩ := hst.shut hdel
  exact h H' h1 h2 a w hs hd h3
/-! ### New blocks, loads, stores -/
theorem St.new {hd : Chunk} {w : World} (h : St x H (L.flatten ++ hd) w) (o : Obj) : St x H (List.flatten ([(w.heap.size, o)] :: L) ++ hd) (w.alloc o) := by
  have := h.alloc o
  simpa using this
theorem R.alloc {t : TypeId} {z : Value} (hz : ∀ w, (zeroValue t).run fr.P w = .ok z w) (hw : wan fr.N ol σ d g = true) (h : ∀ b, TL fr x ol rest Q (upd σ d (.pointer (some ⟨b, 0, none⟩))) H ([(b, .cells z.cells t)] :: L) ds) :
    TL fr x ol (⟨some d, .alloc t, ty, p, af, g⟩ :: rest) Q σ H L ds :=
  TL.value hw rfl (fun w hst => ⟨_, w.alloc (.cells z.cells t), H, _, by simp [execOp, Instr.alloc, hz, newVar, newRow], hst.new _, h w.heap.size⟩)
theorem R.box {t : TypeId} {X : Operand} {v : Value} (hw : wan fr.N ol σ d g = true) (hx : ev σ X = v) (h : ∀ b, TL fr x ol rest Q (upd σ d (.pointer (some ⟨b, 0, none⟩))) H ([(b, .cells v.cells t)] :: L) ds) :
    TL fr x ol (⟨some d, .box t X, ty, p, af, g⟩ :: rest) Q σ H L ds :=
  TL.value hw rfl (fun w hst => ⟨_, w.alloc (.cells v.cells t), H, _, by simp [execOp, Instr.box, newVar, newRow, hx], hst.new _, h w.heap.size⟩)
theorem k_5a {w : World} {b o : Nat} {cs : Array Value} {t : TypeId} {fz : Nat × Nat} {v : Value} (hb : w.heap[b]? = some (.cells cs t fz)) (hv : cs[o]? = some v) : w.cell? ⟨b, o, none⟩ = some v := by
  simp [World.cell?, hb, hv]
theorem R.ld {t : TypeId} {A : Operand} {b o : Nat} {cs : Array Value} {et : TypeId} {fz : Nat × Nat} {v : Value} (hagg : ∀ w, (isAgg t).run fr.P w = .ok false w) (hw : wan fr.N ol σ d g = true) (ha : ev σ A = .pointer (some ⟨b, o, none⟩))
    (hin : In L [(b, .cells cs et fz)]) (hv : cs[o]? = some v) (h : TL fr x ol rest Q (upd σ d v) H L ds) : TL fr x ol (⟨some d, .load t A, ty, p, af, g⟩ :: rest) Q σ H L ds :=
  TL.value hw rfl (fun w hst => by
    have hb := hst.sat.l (b, .cells cs et fz) (List.mem_append_left _ (hin.mem (List.mem_singleton.2 rfl)))
    have hc := k_5a hb hv
    exact ⟨v, w, H, L, by simp [execOp, Instr.loadAt, Instr.sureAddr, loadVar, ha, hagg, hc], hst, h⟩)
theorem R.ldH {t : TypeId} {A : Operand} {b o : Nat} {cs : Array Value} {et : TypeId} {fz : Nat × Nat} {v : Value} (hagg : ∀ w, (isAgg t).run fr.P w = .ok false w) (hw : wan fr.N ol σ d g = true) (ha : ev σ A = .pointer (some ⟨b, o, none⟩))
    (hin : H b = some (.cells cs et fz)) (hv : cs[o]? = some v) (h : TL fr x ol rest Q (upd σ d v) H L ds) : TL fr x ol (⟨some d, .load t A, ty, p, af, g⟩ :: rest) Q σ H L ds :=
  TL.value hw rfl (fun w hst => by
    have hc := k_5a (hst.sat.h b _ hin) hv
    exact ⟨v, w, H, L, by simp [execOp, Instr.loadAt, Instr.sureAddr, loadVar, ha, hagg, hc], hst, h⟩)
theorem R.st {t : TypeId} {A X : Operand} {b : Nat} {old v : Value} {et : TypeId} {L' : Own} (hsz : ∀ w, (sizeOf t).run fr.P w = .ok 1 w) (hw : wants ol σ g = true) (ha : ev σ A = .pointer (some ⟨b, 0, none⟩)) (hx : ev σ X = v) (h1 : v.oneCell' = true)
    (hrep : Rep L [(b, .cells #[old] et)] [(b, .cells #[v] et)] L') (h : TL fr x ol rest Q σ H L' ds) :
    TL fr x ol (⟨none, .store t A X, ty, p, af, g⟩ :: rest) Q σ H L ds := by
  intro a w hs hd hst
  obtain ⟨R, hp1, hp2⟩ := hrep.perm
  have hst1 : St x H ((b, .cells #[old] et) :: (R ++ hid fr.rd ds)) w := hst.perm (by
    have := hp1.append_right (hid fr.rd ds)
    simpa using this)
  have hb := hst1.sat.l (b, .cells #[old] et) (List.mem_cons_self ..)
  have hc : w.cell? ⟨b, 0, none⟩ = some old := k_5a hb rfl
  have hfz : w.frozen? ⟨b, 0, none⟩ = false := by simp only [] at hb; simp [World.frozen?, hb]
  have hcs : v.cells = #[v] := by cases v <;> first | rfl | cases h1
  have hst2 : St x H ((b, .cells #[v] et) :: (R ++ hid fr.rd ds)) (w.setCell ⟨b, 0, none⟩ v) := hst1.turn rfl rfl rfl (by simp) (by simp only [] at hb; simp [World.setCell, Array.getElem?_modify, hb]) (fun c hc => by
    simp only [World.setCell, Array.getElem?_modify]
    rw [if_neg (fun e => hc e.symm)])
  have hst3 : St x H (L'.flatten ++ hid fr.rd ds) (w.setCell ⟨b, 0, none⟩ v) := hst2.perm (by
    have := (hp2.append_right (hid fr.rd ds)).symm
    simpa using this)
  unfold wpLo
  rw [if_pos (k_a9 hs hw)]
  refine ⟨fun f _ => fenceFn _ f, ?_⟩
  rw [k_b0 rfl, hs.eval]
  have hrun : (execOp (ev σ) ⟨none, .store t A X, ty, p, af, g⟩).run fr.P w = .ok .skip (w.setCell ⟨b, 0, none⟩ v) := by
    simp [execOp, Instr.storeAt, Instr.sureAddr, storeVar, ha, hx, hsz, hcs, storeCells, run_store _ _ _ _ _ h1, Addr.add_zero', hc, hfz]
  rw [hrun]
  exact h _ _ hs hd hst3
end
/-! ### Function entry -/
def ent (l : List Value) : Env := fun i => match nth l i with
  | some v => v
  | none => undef
def resOk (P : Program) (fn : Func) (N : Nat) (σ : Env) (H : Heap) (L : Own) (v : Value) : Prop :=
  ∀ tmps w, Sim N σ tmps → Sat H L.flatten w → (results fn tmps).run P w = .ok v w
def fnPost (P : Program) (fn : Func) (N : Nat) (post : Value → Heap → Own → Prop) : Post
  | .normal, σ, H, L, _ | .ret, σ, H, L, _ => ∃ v L', List.Sublist L' L ∧ resOk P fn N σ H L v ∧ post v H L'
  | _, _, _, _, _ => False
theorem sublist_flatten {A B : Own} (h : List.Sublist A B) : List.Sublist A.flatten B.flatten := by
  induction h with
  | slnil => exact List.Sublist.refl _
  | cons c _ ih => rw [List.flatten_cons]; exact ih.trans (List.sublist_append_right _ _)
  | cons_cons c _ ih => rw [List.flatten_cons, List.flatten_cons]; exact ih.append_left c
theorem leaves_of {P : Program} {fn : Func} {N : Nat} {tmps : Array Value} {x : Cx} {σ : Env} {H : Heap} {L : Own} {v : Value} {R : Ending → World → Prop}
    (hs : Sim N σ tmps) (hv : resOk P fn N σ H L v) (hR : ∀ w, St x H L.flatten w → R (.returned v) w) : ∀ (ds : List Nat) (w : World), St x H (L.flatten ++ ds.map (fun D => (D, Obj.deferred (some [])))) w →
    LeavesInM Fence.wide 0 P fn tmps R (ds.map mk) .returning w := by
  intro ds
  induction ds with
  | nil =>
    intro w hst
    simp only [List.map_nil, List.append_nil] at hst
    exact ⟨v, hv tmps w hs hst.sat, hR w hst⟩
  | cons D ds ih =>
    intro w hst
    have hst1 : St x H ((D, Obj.deferred (some [])) :: (L.flatten ++ ds.map (fun D => (D, Obj.deferred (some []))))) w := hst.perm (by
      simp only [List.map_cons]
      exact List.perm_middle)
    have hb := hst1.sat.l (D, Obj.deferred (some [])) (List.mem_cons_self ..)
    have hlt := heap_lt hb
    refine ⟨by simp, .inl ⟨D, w.putObj D (.deferred none), rfl, run_takeDeferred hb, ?_⟩⟩
    have hst2 : St x H ((D, Obj.deferred none) :: (L.flatten ++ ds.map (fun D => (D, Obj.deferred (some []))))) (w.putObj D (.deferred none)) :=
      hst1.turn rfl rfl rfl (by simp [World.putObj]) (World.putObj_heap_same hlt) (fun c hc => World.putObj_heap_other (fun e => hc (by first | exact e | exact e.symm)))
    exact ih _ (hst2.sub (List.sublist_cons_self _ _))
theorem Fc.of_body {P : Program} {f : FuncId} {fn : Func} {c : Code} {N : Nat} {caps vs : List Value} {H : Heap} {L : Own} {post : Value → Heap → Own → Prop}
    (hf : P.funcs[f]? = some fn) (hb : fn.body = some c) (hname : (fn.name == "runtime.NumGoroutine") = false) (hN : fn.ntmps = N) (hle : Nat.ble (vs.length + caps.length) N = true)
    (h : ∀ w, T ⟨P, N, none, []⟩ ⟨w, H, L.flatten⟩ c (fnPost P fn N post) (ent (vs ++ caps)) H L []) : Fc P (.func (.func f) #[] caps.toArray) vs H L post := by
  intro w hsat
  have hle' : vs.length + caps.length ≤ N := Nat.le_of_ble_eq_true hle
  refine ⟨.enter f (vs ++ caps).toArray, w, ?_, ?_⟩
  · have he := Go.Proofs.enters_of (P := P) hf hname hb (vs ++ caps).toArray w
    simp [Deferred.ofValue, invoke, he]
  · refine callsIn_of_wp_marks hf hb trivial ?_
    have hsim : Sim N (ent (vs ++ caps)) ((vs ++ caps).toArray ++ Array.replicate (fn.ntmps - (vs ++ caps).toArray.size) undef) := by
      rw [hN]
      refine ⟨by simp; omega, fun i => ?_⟩
      rw [Array.getD_eq_getD_getElem?]
      unfold ent
      rw [nth_eq]
      by_cases hi : i < (vs ++ caps).length
      · rw [Array.getElem?_append_left (by simpa using hi)]
        simp only [List.getElem?_toArray]
        rw [List.getElem?_eq_getElem hi]
        rfl
      · rw [Array.getElem?_append_right (by simpa using Nat.le_of_not_lt hi)]
        rw [List.getElem?_eq_none (Nat.le_of_not_lt hi)]
        simp only [Array.getElem?_replicate]
        split <;> rfl
    have hst0 : St ⟨w, H, L.flatten⟩ H (L.flatten ++ hid none []) w := by
      have := St.init hsat
      simpa [hid] using this
    refine wpIn_mono (h w _ w hsim rfl hst0) ?_
    rintro e a w' ⟨σ', H', L', ds, hs, hd, hst, hq⟩
    replace hd : a.defers = ds.map mk := hd.trans (List.append_nil _)
    have key : ∀ (v : Value) (L1 : Own), List.Sublist L1 L' → resOk P fn N σ' H' L' v → post v H' L1 →
        LeavesInM Fence.wide 0 P fn a.tmps (fun e w' => ∃ v H' L', e = .returned v ∧ St ⟨w, H, L.flatten⟩ H' (List.flatten L') w' ∧ post v H' L') a.defers .returning w' := by
      intro v L1 hsub hv hp
      rw [hd]
      exact leaves_of hs hv (fun w2 h2 => ⟨v, H', L1, rfl, h2.sub (sublist_flatten hsub), hp⟩) ds w' hst
    cases e with
    | normal => obtain ⟨v, L1, h1, h2, h3⟩ := hq; exact key v L1 h1 h2 h3
    | ret => obtain ⟨v, L1, h1, h2, h3⟩ := hq; exact key v L1 h1 h2 h3
    | _ => exact hq.elim
theorem fin1 {P : Program} {fn : Func} {N t : Nat} {post : Value → Heap → Own → Prop} {σ : Env} {H : Heap} {L : Own} {ds : List Nat} {v : Value} (hr : fn.results = #[.tmp t]) (hv : σ t = v) (h : post v H []) : fnPost P fn N post .ret σ H L ds :=
  ⟨v, [], List.nil_sublist _, fun tmps w hs _ => by rw [results_tmp hr, hs.val, hv], h⟩
theorem fin1L {P : Program} {fn : Func} {N t : Nat} {post : Value → Heap → Own → Prop} {σ : Env} {H : Heap} {L : Own} {ds : List Nat} {v : Value} (L' : Own) (hr : fn.results = #[.tmp t]) (hv : σ t = v) (hL : List.Sublist L' L) (h : post v H L') : fnPost P fn N post .ret σ H L ds :=
  ⟨v, L', hL, fun tmps w hs _ => by rw [results_tmp hr, hs.val, hv], h⟩
theorem fin0L {P : Program} {fn : Func} {N : Nat} {post : Value → Heap → Own → Prop} {σ : Env} {H : Heap} {L : Own} {ds : List Nat} (L' : Own) (hr : fn.results = #[]) (hL : List.Sublist L' L) (h : post (.tuple #[]) H L') : fnPost P fn N post .ret σ H L ds :=
  ⟨_, L', hL, fun tmps w _ _ => results_none hr tmps P w, h⟩
theorem fin0N {P : Program} {fn : Func} {N : Nat} {post : Value → Heap → Own → Prop} {σ : Env} {H : Heap} {L : Own} {ds : List Nat} (L' : Own) (hr : fn.results = #[]) (hL : List.Sublist L' L) (h : post (.tuple #[]) H L') : fnPost P fn N post .normal σ H L ds :=
  ⟨_, L', hL, fun tmps w _ _ => results_none hr tmps P w, h⟩
end Go.SX
namespace Go.SX
open Go
attribute [local semireducible] T TL
structure ER (α : Type) where
  size : Nat
  R : Heap → List Value → α → Prop
  len : ∀ {H cs x}, R H cs x → cs.length = size
  mono : ∀ {H H' cs x}, HLe H H' → R H cs x → R H' cs x
  one : ∀ {H cs x}, R H cs x → ∀ v ∈ cs, v.oneCell' = true
def intE (k : IntKind) : ER Int where
  size := 1
  R := fun _ cs x => cs = [.int k x]
  len := fun h => by subst h; rfl
  mono := fun _ h => h
  one := fun h v hv => by subst h; simp at hv; subst hv; rfl
def pairE : ER (Int × Int) where
  size := 2
  R := fun _ cs x => cs = [.int .i64 x.1, .int .i64 x.2]
  len := fun h => by subst h; rfl
  mono := fun _ h => h
  one := fun h v hv => by subst h; simp at hv; rcases hv with rfl | rfl <;> rfl
def cellAt (H : Heap) (b o : Nat) : Option Value := match H b with
  | some (.cells c _ _) => c[o]?
  | _ => none
theorem cellAt_mono {H H' : Heap} (h : HLe H H') {b o : Nat} {v : Value} (hc : cellAt H b o = some v) : cellAt H' b o = some v := by
  unfold cellAt at hc ⊢
  cases hb : H b with
  | none => rw [hb] at hc; cases hc
  | some ob => rw [hb] at hc; rw [h b ob hb]; exact hc
theorem cellAt_world {H : Heap} {L : Chunk} {w : World} (h : Sat H L w) {b o : Nat} {v : Value} (hc : cellAt H b o = some v) : w.cell? ⟨b, o, none⟩ = some v := by
  unfold cellAt at hc
  cases hb : H b with
  | none => rw [hb] at hc; cases hc
  | some ob =>
    rw [hb] at hc
    cases ob <;> simp only at hc <;> first | cases hc | (exact k_5a (h.h b _ hb) hc)
def ElemAt {α : Type} (E : ER α) (H : Heap) (b o : Nat) (x : α) : Prop := ∃ cs, E.R H cs x ∧ ∀ j v, cs[j]? = some v → cellAt H b (o + j) = some v
theorem ElemAt.mono {α : Type} {E : ER α} {H H' : Heap} {b o : Nat} {x : α} (h : ElemAt E H b o x) (hl : HLe H H') : ElemAt E H' b o x := by
  obtain ⟨cs, h1, h2⟩ := h
  exact ⟨cs, E.mono hl h1, fun j v hj => cellAt_mono hl (h2 j v hj)⟩
def RdS {α : Type} (E : ER α) (H : Heap) (v : Value) (xs : List α) : Prop :=
  ∃ A c, v = .slice A xs.length c ∧ xs.length ≤ c ∧ c ≤ maxLen ∧ ∀ i x, xs[i]? = some x → ∃ b o, A = some ⟨b, o, none⟩ ∧ ElemAt E H b (o + i * E.size) x
theorem RdS.mono {α : Type} {E : ER α} {H H' : Heap} {v : Value} {xs : List α} (h : RdS E H v xs) (hl : HLe H H') : RdS E H' v xs := by
  obtain ⟨A, c, h1, h2, h3, h4⟩ := h
  refine ⟨A, c, h1, h2, h3, fun i x hx => ?_⟩
  obtain ⟨b, o, h5, h6⟩ := h4 i x hx
  exact ⟨b, o, h5, h6.mono hl⟩
theorem RdS.nil {α : Type} {E : ER α} {H : Heap} : RdS E H (.slice none 0 0) ([] : List α) := ⟨none, 0, rfl, Nat.le_refl _, by unfold maxLen; omega, fun i x h => by simp at h⟩
theorem RdS.shape {α : Type} {E : ER α} {H : Heap} {v : Value} {xs : List α} (h : RdS E H v xs) : ∃ A c, v = .slice A xs.length c ∧ xs.length ≤ c ∧ c ≤ 9223372036854775807 ∧ RdS E H (.slice A xs.length c) xs := by
  obtain ⟨A, c, h1, h2, h3, h4⟩ := h
  exact ⟨A, c, h1, h2, by simpa [maxLen] using h3, A, c, rfl, h2, h3, h4⟩
def slE {α : Type} (E : ER α) : ER (List α) where
  size := 1
  R := fun H cs xs => ∃ v, cs = [v] ∧ RdS E H v xs
  len := fun h => by obtain ⟨v, rfl, _⟩ := h; rfl
  mono := fun hl h => by obtain ⟨v, rfl, h⟩ := h; exact ⟨v, rfl, h.mono hl⟩
  one := fun h v hv => by obtain ⟨u, rfl, A, c, rfl, _⟩ := h; simp at hv; subst hv; rfl
def OwnS {α : Type} (E : ER α) (e : TypeId) (H : Heap) (v : Value) (xs : List α) (c : Chunk) : Prop :=
  (v = .slice none 0 0 ∧ xs = [] ∧ c = []) ∨
  ∃ b cap cs, v = .slice (some ⟨b, 0, none⟩) xs.length cap ∧ c = [(b, .cells cs e)] ∧ xs.length ≤ cap ∧ cap ≤ maxLen ∧ cap * E.size ≤ cs.size ∧
    ∀ i x, xs[i]? = some x → ∃ l, E.R H l x ∧ ∀ j u, l[j]? = some u → cs[i * E.size + j]? = some u
theorem OwnS.mono {α : Type} {E : ER α} {e : TypeId} {H H' : Heap} {v : Value} {xs : List α} {c : Chunk} (h : OwnS E e H v xs c) (hl : HLe H H') : OwnS E e H' v xs c := by
  rcases h with h | ⟨b, cap, cs, h1, h2, h3, h4, h5, h6⟩
  · exact .inl h
  · refine .inr ⟨b, cap, cs, h1, h2, h3, h4, h5, fun i x hx => ?_⟩
    obtain ⟨l, h7, h8⟩ := h6 i x hx
    exact ⟨l, E.mono hl h7, h8⟩
theorem OwnS.nil {α : Type} {E : ER α} {e : TypeId} {H : Heap} : OwnS E e H (.slice none 0 0) ([] : List α) [] := .inl ⟨rfl, rfl, rfl⟩
theorem OwnS.shape {α : Type} {E : ER α} {e : TypeId} {H : Heap} {v : Value} {xs : List α} {c : Chunk} (h : OwnS E e H v xs c) : ∃ A cap, v = .slice A xs.length cap ∧ xs.length ≤ cap ∧ cap ≤ 9223372036854775807 := by
  rcases h with ⟨rfl, rfl, _⟩ | ⟨b, cap, cs, h1, _, h3, h4, _⟩
  · exact ⟨none, 0, rfl, Nat.le_refl _, by omega⟩
  · exact ⟨_, cap, h1, h3, by simpa [maxLen] using h4⟩
theorem OwnS.read {α : Type} {E : ER α} {e : TypeId} {H H' : Heap} {v : Value} {xs : List α} {c : Chunk} (h : OwnS E e H v xs c) (hl : HLe H H') (hc : ∀ q ∈ c, H' q.1 = some q.2) : RdS E H' v xs := by
  rcases h with ⟨rfl, rfl, _⟩ | ⟨b, cap, cs, rfl, rfl, h3, h4, _, h6⟩
  · exact RdS.nil
  · refine ⟨_, cap, rfl, h3, h4, fun i x hx => ⟨b, 0, rfl, ?_⟩⟩
    obtain ⟨l, h7, h8⟩ := h6 i x hx
    refine ⟨l, E.mono hl h7, fun j u hj => ?_⟩
    have := hc (b, .cells cs e) (List.mem_singleton.2 rfl)
    unfold cellAt
    rw [this]
    rw [Nat.zero_add]
    exact h8 j u hj
def CellsOf {α : Type} (E : ER α) (H : Heap) : List Value → List α → Prop
  | cs, [] => cs = []
  | cs, x :: xs => ∃ a r, cs = a ++ r ∧ E.R H a x ∧ CellsOf E H r xs
theorem CellsOf.length {α : Type} {E : ER α} {H : Heap} : ∀ {xs : List α} {cs : List Value}, CellsOf E H cs xs → cs.length = xs.length * E.size
  | [], cs, h => by have : cs = [] := h; simp [this]
  | x :: xs, cs, h => by
    obtain ⟨a, r, rfl, h1, h2⟩ := h
    rw [List.length_append, E.len h1, CellsOf.length h2, List.length_cons, Nat.add_mul]
    omega
theorem CellsOf.get {α : Type} {E : ER α} {H : Heap} : ∀ {xs : List α} {cs : List Value}, CellsOf E H cs xs → ∀ i x, xs[i]? = some x → ∃ l, E.R H l x ∧ ∀ j u, l[j]? = some u → cs[i * E.size + j]? = some u
  | [], cs, h, i, x, hx => by simp at hx
  | y :: xs, cs, h, i, x, hx => by
    obtain ⟨a, r, rfl, h1, h2⟩ := h
    cases i with
    | zero =>
      simp only [List.getElem?_cons_zero, Option.some.injEq] at hx
      subst hx
      refine ⟨a, h1, fun j u hj => ?_⟩
      rw [Nat.zero_mul, Nat.zero_add, List.getElem?_append_left (List.getElem?_eq_some_iff.1 hj).1]
      exact hj
    | succ i =>
      simp only [List.getElem?_cons_succ] at hx
      obtain ⟨l, h3, h4⟩ := CellsOf.get h2 i x hx
      refine ⟨l, h3, fun j u hj => ?_⟩
      have hal := E.len h1
      rw [List.getElem?_append_right (by rw [hal, Nat.add_mul]; omega), hal, show (i + 1) * E.size + j - E.size = i * E.size + j by rw [Nat.add_mul]; omega]
      exact h4 j u hj
theorem CellsOf.one {α : Type} {E : ER α} {H : Heap} : ∀ {xs : List α} {cs : List Value}, CellsOf E H cs xs → ∀ v ∈ cs, v.oneCell' = true
  | [], cs, h, v, hv => by have : cs = [] := h; simp [this] at hv
  | x :: xs, cs, h, v, hv => by
    obtain ⟨a, r, rfl, h1, h2⟩ := h
    rcases List.mem_append.1 hv with hv | hv
    · exact E.one h1 v hv
    · exact CellsOf.one h2 v hv
theorem cells_of_get {α : Type} {E : ER α} {H : Heap} : ∀ (xs : List α) (f : Nat → Option Value), (∀ i x, xs[i]? = some x → ∃ l, E.R H l x ∧ ∀ j u, l[j]? = some u → f (i * E.size + j) = some u) →
    ∃ cs, CellsOf E H cs xs ∧ ∀ j u, cs[j]? = some u → f j = some u
  | [], f, _ => ⟨[], rfl, fun j u h => by simp at h⟩
  | x :: xs, f, h => by
    obtain ⟨a, h1, h2⟩ := h 0 x rfl
    have hal := E.len h1
    obtain ⟨r, h3, h4⟩ := cells_of_get xs (fun j => f (E.size + j)) (fun i y hy => by
      obtain ⟨l, h5, h6⟩ := h (i + 1) y (by simpa using hy)
      exact ⟨l, h5, fun j u hj => by have := h6 j u hj; rw [Nat.add_mul, Nat.one_mul] at this; rw [← Nat.add_assoc, Nat.add_comm E.size]; exact this⟩)
    refine ⟨a ++ r, ⟨a, r, rfl, h1, h3⟩, fun j u hj => ?_⟩
    by_cases hja : j < a.length
    · rw [List.getElem?_append_left hja] at hj
      have := h2 j u hj
      rwa [Nat.zero_mul, Nat.zero_add] at this
    · rw [List.getElem?_append_right (Nat.le_of_not_lt hja)] at hj
      have := h4 _ u hj
      rwa [hal, show E.size + (j - E.size) = j by omega] at this
def Src (H : Heap) (L : Own) (v : Value) (m : Nat) (cs : List Value) : Prop :=
  ∃ A c, v = .slice A m c ∧ (cs = [] ∨ ∃ b o, A = some ⟨b, o, none⟩) ∧ ∀ b o, A = some ⟨b, o, none⟩ → ∀ hd w, Sat H (L.flatten ++ hd) w → ∀ j u, cs[j]? = some u → w.cell? ⟨b, o + j, none⟩ = some u
theorem Src.rd {α : Type} {E : ER α} {H : Heap} {L : Own} {v : Value} {xs : List α} (h : RdS E H v xs) : ∃ cs, CellsOf E H cs xs ∧ Src H L v xs.length cs := by
  obtain ⟨A, c, rfl, h2, h3, h4⟩ := h
  cases xs with
  | nil => exact ⟨[], rfl, A, c, rfl, .inl rfl, fun b o _ hd w _ j u hj => by simp at hj⟩
  | cons y ys =>
    obtain ⟨b, o, rfl, _⟩ := h4 0 y rfl
    obtain ⟨cs, h5, h6⟩ := cells_of_get (H := H) (y :: ys) (fun j => cellAt H b (o + j)) (fun i x hx => by
      obtain ⟨b', o', e, l, h7, h8⟩ := h4 i x hx
      cases e
      exact ⟨l, h7, fun j u hj => by have := h8 j u hj; rwa [Nat.add_assoc] at this⟩)
    refine ⟨cs, h5, _, c, rfl, .inr ⟨b, o, rfl⟩, fun b' o' e hd w hs j u hj => ?_⟩
    cases e
    exact cellAt_world hs (h6 j u hj)
theorem Src.lit {H : Heap} {L : Own} {b n cap : Nat} {vs : List Value} {et : TypeId} (hin : In L [(b, .cells vs.toArray et)]) : Src H L (.slice (some ⟨b, 0, none⟩) n cap) n vs :=
  ⟨_, cap, rfl, .inr ⟨b, 0, rfl⟩, fun b' o' e' hd w hs j u hj => by
    cases e'
    have hb := hs.l (b, .cells vs.toArray et) (List.mem_append_left _ (hin.mem (List.mem_singleton.2 rfl)))
    rw [Nat.zero_add]
    exact k_5a hb (by simpa using hj)⟩
structure TyE {α : Type} (P : Program) (t e : TypeId) (E : ER α) (bytes : Nat) : Prop where
  sl : P.underlying t = some (.slice e)
  info : ∃ i z, P.info? e = some i ∧ i.zero = some z ∧ i.size = E.size ∧ i.bytes = bytes ∧ z.cells.size = E.size
  pos : 0 < E.size
theorem TyE.mk' {α : Type} {P : Program} {t e : TypeId} {E : ER α} {bytes : Nat} {z : Value} (h1 : P.underlying t = some (.slice e)) (h2 : (P.info? e).map (fun i => (i.zero, i.size, i.bytes)) = some (some z, E.size, bytes)) (h3 : z.cells.size = E.size) (h4 : 0 < E.size) : TyE P t e E bytes := by
  refine ⟨h1, ?_, h4⟩
  cases hi : P.info? e with
  | none => rw [hi] at h2; cases h2
  | some i =>
    rw [hi] at h2
    simp only [Option.map_some, Option.some.injEq, Prod.mk.injEq] at h2
    exact ⟨i, z, rfl, h2.1, h2.2.1, h2.2.2, h3⟩
theorem own_after {α : Type} {E : ER α} {e : TypeId} {H : Heap} {xs ys : List α} {old new : List Value} {ar : Array Value} (ho : CellsOf E H old xs) (hn : CellsOf E H new ys)
    (h1 : ∀ (j : Nat) (u : Value), (old ++ new)[j]? = some u → ar[j]? = some u) (b cap : Nat) (h3 : xs.length + ys.length ≤ cap) (h4 : cap ≤ maxLen) (h5 : cap * E.size ≤ ar.size) :
    OwnS E e H (.slice (some ⟨b, 0, none⟩) (xs.length + ys.length) cap) (xs ++ ys) [(b, .cells ar e)] := by
  refine .inr ⟨b, cap, ar, by rw [List.length_append], rfl, by rw [List.length_append]; exact h3, h4, h5, fun i x hx => ?_⟩
  by_cases hi : i < xs.length
  · rw [List.getElem?_append_left hi] at hx
    obtain ⟨l, h6, h7⟩ := ho.get i x hx
    exact ⟨l, h6, fun j u hj => h1 _ u (by have := h7 j u hj; rw [List.getElem?_append_left (List.getElem?_eq_some_iff.1 this).1]; exact this)⟩
  · rw [List.getElem?_append_right (Nat.le_of_not_lt hi)] at hx
    obtain ⟨l, h6, h7⟩ := hn.get _ x hx
    refine ⟨l, h6, fun j u hj => h1 _ u ?_⟩
    have h8 := h7 j u hj
    have hle : xs.length * E.size ≤ i * E.size := Nat.mul_le_mul_right _ (Nat.le_of_not_lt hi)
    rw [List.getElem?_append_right (by rw [ho.length]; omega), ho.length]
    rw [show i * E.size + j - xs.length * E.size = (i - xs.length) * E.size + j by rw [Nat.sub_mul]; omega]
    exact h8
theorem k_b7 (z : Array Value) (n : Nat) : (Builtin.zeroCells z n).size = n * z.size := by simp [Builtin.zeroCells]
theorem k_af {P : Program} {s : Sem Value} {v : Value} {w w' : World} (h : s.run P w = .ok v w') : (do pure (Next.value (← s)) : Sem Next).run P w = .ok (.value v) w' := by simp [h]
section
variable {fr : Fr} {x : Cx} {Q : Post} {σ : Env} {H : Heap} {L : Own} {ds : List Nat} {ol rest : List Oper}
variable {d : Nat} {ty : TypeId} {p : String} {af : Array Edge} {g : Option (Nat × Bool)}
def IxAt (v : Value) (sz i b o : Nat) : Prop := ∃ o0 n c, v = .slice (some ⟨b, o0, none⟩) n c ∧ i < n ∧ o = o0 + i * sz
theorem RdS.elem {α : Type} {E : ER α} {v : Value} {xs : List α} (hr : RdS E H v xs) {i : Nat} {y : α} (hy : xs[i]? = some y) : ∃ b o, IxAt v E.size i b o ∧ ElemAt E H b o y := by
  obtain ⟨A, c, rfl, h2, h3, h4⟩ := hr
  obtain ⟨b, o, rfl, he⟩ := h4 _ y hy
  exact ⟨b, _, ⟨o, _, c, rfl, (List.getElem?_eq_some_iff.1 hy).1, rfl⟩, he⟩
theorem OwnS.elem {α : Type} {E : ER α} {e : TypeId} {v : Value} {xs : List α} {c : Chunk} (h : OwnS E e H v xs c) {i : Nat} {y : α} (hy : xs[i]? = some y) : ∃ b cap cs l, c = [(b, .cells cs e)] ∧ v = .slice (some ⟨b, 0, none⟩) xs.length cap ∧ IxAt v E.size i b (i * E.size) ∧ E.R H l y ∧ ∀ j u, l[j]? = some u → cs[i * E.size + j]? = some u := by
  rcases h with ⟨rfl, rfl, rfl⟩ | ⟨b, cap, cs, rfl, rfl, h3, h4, h5, h6⟩
  · simp at hy
  · obtain ⟨l, h7, h8⟩ := h6 i y hy
    exact ⟨b, cap, cs, l, rfl, rfl, ⟨0, _, cap, rfl, (List.getElem?_eq_some_iff.1 hy).1, by rw [Nat.zero_add]⟩, h7, h8⟩
theorem R.ixp {t e : TypeId} {X I : Operand} {v : Value} {k : IntKind} {i : Int} {sz b o : Nat} (ht : fr.P.underlying t = some (.slice e)) (hsz : ∀ w, (sizeOf e).run fr.P w = .ok sz w)
    (hw : wan fr.N ol σ d g = true) (hv : ev σ X = v) (hi : ev σ I = .int k i) (h0 : 0 ≤ i) (hx : IxAt v sz i.toNat b o)
    (h : TL fr x ol rest Q (upd σ d (.pointer (some ⟨b, o, none⟩))) H L ds) : TL fr x ol (⟨some d, .indexAddr t X I, ty, p, af, g⟩ :: rest) Q σ H L ds := by
  obtain ⟨o0, n, c, rfl, h1, rfl⟩ := hx
  refine TL.pureE hw rfl (fun w => ?_) h
  have hlt : i < (n : Int) := by omega
  simp [execOp, Instr.indexAt, hv, hi, asIntOf, run_underlying ht, h0, hlt, hsz, Addr.add_lit]
theorem ElemAt.int {k : IntKind} {b o : Nat} {y : Int} (he : ElemAt (intE k) H b o y) : cellAt H b o = some (.int k y) := by
  obtain ⟨cs, h1, h2⟩ := he
  have h1' : cs = [.int k y] := h1
  subst h1'
  exact h2 0 _ rfl
theorem R.ldC {t : TypeId} {A : Operand} {b o : Nat} {v : Value} (hagg : ∀ w, (isAgg t).run fr.P w = .ok false w) (hw : wan fr.N ol σ d g = true) (ha : ev σ A = .pointer (some ⟨b, o, none⟩))
    (hc : cellAt H b o = some v) (h : TL fr x ol rest Q (upd σ d v) H L ds) : TL fr x ol (⟨some d, .load t A, ty, p, af, g⟩ :: rest) Q σ H L ds :=
  TL.value hw rfl (fun w hst => by
    have hc := cellAt_world hst.sat hc
    exact ⟨v, w, H, L, by simp [execOp, Instr.loadAt, Instr.sureAddr, loadVar, ha, hagg, hc], hst, h⟩)
theorem R.ldA {α : Type} {E : ER α} {t : TypeId} {A : Operand} {b o : Nat} {y : α} (hagg : ∀ w, (isAgg t).run fr.P w = .ok true w) (hsz : ∀ w, (sizeOf t).run fr.P w = .ok E.size w) (hw : wan fr.N ol σ d g = true) (ha : ev σ A = .pointer (some ⟨b, o, none⟩))
    (he : ElemAt E H b o y) (h : ∀ cs, E.R H cs y → TL fr x ol rest Q (upd σ d (.agg cs.toArray)) H L ds) : TL fr x ol (⟨some d, .load t A, ty, p, af, g⟩ :: rest) Q σ H L ds := by
  obtain ⟨cs, h1, h2⟩ := he
  refine TL.value hw rfl (fun w hst => ⟨.agg cs.toArray, w, H, L, ?_, hst, h cs h1⟩)
  have hl := run_loadCells_list (P := fr.P) w ⟨b, o, none⟩ cs (fun j u hj => by rw [Addr.add_lit]; exact cellAt_world hst.sat (h2 j u hj))
  rw [E.len h1] at hl
  simp [execOp, Instr.loadAt, Instr.sureAddr, loadVar, ha, hagg, hsz, hl]
theorem R.bs {t e : TypeId} {n : Nat} {ps : List (Nat × Operand)} {cs : List Value} (hw : wan fr.N ol σ d g = true)
    (hrun : ∀ w, (Instr.buildSlice t n ((ps.map (fun q => (q.1, ev σ q.2))).toArray)).run fr.P w = .ok (.slice (some ⟨w.heap.size, 0, none⟩) n n) (w.alloc (.cells cs.toArray e)))
    (h : ∀ b, TL fr x ol rest Q (upd σ d (.slice (some ⟨b, 0, none⟩) n n)) H ([(b, .cells cs.toArray e)] :: L) ds) : TL fr x ol (⟨some d, .buildSlice t n ps.toArray, ty, p, af, g⟩ :: rest) Q σ H L ds := by
  refine TL.value hw rfl (fun w hst => ⟨_, w.alloc (.cells cs.toArray e), H, _, ?_, hst.new _, h w.heap.size⟩)
  simp only [execOp, List.map_toArray]
  simp [hrun]
theorem k_4 {P : Program} {t e : TypeId} {z v : Value} (ht : P.underlying t = some (.slice e)) (hsz : ∀ w, (sizeOf e).run P w = .ok 1 w) (hz : ∀ w, (zeroValue e).run P w = .ok z w) (hz1 : z.oneCell' = true) (hv : v.oneCell' = true) (w : World) :
    (Instr.buildSlice t 1 #[(0, v)]).run P w = .ok (.slice (some ⟨w.heap.size, 0, none⟩) 1 1) (w.alloc (.cells #[v] e)) := by
  have hcz : z.cells = #[z] := by cases z <;> first | rfl | cases hz1
  have hcv : v.cells = #[v] := by cases v <;> first | rfl | cases hv
  simp [Instr.buildSlice, run_underlying ht, hsz, hz, hcz, Instr.fill, hcv, newRow]
  congr 2
  refine Array.ext (by simp) (fun i h1 h2 => ?_)
  have : i = 0 := by simpa using h2
  subst this
  simp
theorem R.app {α : Type} {E : ER α} {t e : TypeId} {bytes : Nat} {S X : Operand} {v xv : Value} {xs ys : List α} {c : Chunk} {R : Own} {cells : List Value} (hty : TyE fr.P t e E bytes) (hw : wan fr.N ol σ d g = true)
    (hs : ev σ S = v) (hx : ev σ X = xv) (hown : OwnS E e H v xs c) (hdel : Del L c R) (hsrc : Src H L xv ys.length cells) (hys : CellsOf E H cells ys)
    (h63 : xs.length + ys.length ≤ 4611686018427387904) (hby : (xs.length + ys.length) * bytes ≤ 140737488355328)
    (h : ∀ v' c', OwnS E e H v' (xs ++ ys) c' → TL fr x ol rest Q (upd σ d v') H (c' :: R) ds) :
    TL fr x ol (⟨some d, .call { callee := .builtin .append, args := #[S, X], argTypes := #[t, t] }, ty, p, af, g⟩ :: rest) Q σ H L ds := by
  obtain ⟨ht, ⟨i, z, hi, hz, hsize, hbytes, hzs⟩, hpos⟩ := hty
  refine TL.value hw rfl (fun w hst => ?_)
  have hex : (execOp (ev σ) ⟨some d, .call { callee := .builtin .append, args := #[S, X], argTypes := #[t, t] }, ty, p, af, g⟩) = (do pure (Next.value (← Builtin.append_ #[t, t] ty #[v, xv]))) := by
    simp [execOp, resolve, invoke, builtin, hs, hx]
  rw [hex]
  have hst1 : St x H (c ++ (R.flatten ++ hid fr.rd ds)) w := hst.perm (by rw [← List.append_assoc]; exact hdel.perm.append_right _)
  obtain ⟨A, cx, rfl, hA, hcell⟩ := hsrc
  have hlen := hys.length
  have hmax : xs.length + ys.length ≤ maxLen := by unfold maxLen; omega
  by_cases hy0 : ys = []
  · subst hy0
    have hc0 : cells = [] := hys
    subst hc0
    have key : (Builtin.append_ #[t, t] ty #[v, .slice A 0 cx]).run fr.P w = .ok v w := by
      rcases hown with ⟨rfl, rfl, rfl⟩ | ⟨b, cap, cs, rfl, rfl, h3, h4, h5, h6⟩
      · cases A <;> simp [Builtin.append_, run_underlying ht, sizeOf, typeInfo, hi, Builtin.lenOf, Builtin.firstCells, loadCells, loadCellsFrom]
      · cases A <;> simp [Builtin.append_, run_underlying ht, sizeOf, typeInfo, hi, Builtin.lenOf, Builtin.firstCells, loadCells, loadCellsFrom, h3, storeCells]
    refine ⟨v, w, H, c :: R, k_af key, ?_, h v c (by rw [List.append_nil]; exact hown)⟩
    simpa using hst1
  · have hylen : 0 < ys.length := by cases ys with | nil => exact absurd rfl hy0 | cons _ _ => simp
    have hne : cells ≠ [] := by
      intro e
      rw [e] at hlen
      simp only [List.length_nil] at hlen
      have := Nat.mul_pos hylen hpos
      omega
    obtain ⟨sb, so, rfl⟩ := hA.resolve_left hne
    have hnews : ∀ j u, cells[j]? = some u → w.cell? ((⟨sb, so, none⟩ : Addr).add j) = some u := fun j u hj => by rw [Addr.add_lit]; exact hcell sb so rfl _ w hst.sat j u hj
    have hnl : cells.length = ys.length * i.size := by rw [hsize]; exact hlen
    rcases hown with ⟨rfl, rfl, rfl⟩ | ⟨b, cap, cs, rfl, rfl, h3, h4, h5, h6⟩
    · -- a nil slice: a new row
      have hrun := run_append_nil (P := fr.P) w t ty e i z ht hi hz ⟨sb, so, none⟩ ys.length cx cells hnl hnews hylen (by simp at h63; omega) (by rw [hbytes]; simp at hby; omega)
      have hge := grownCap_ge w ys.length 0 e
      have hcm := grownCap_le_maxLen w ys.length 0 e (by simpa using hmax)
      refine ⟨_, _, H, [(w.heap.size, .cells (cells.toArray ++ Builtin.zeroCells z.cells (grownCap w ys.length 0 e - ys.length)) e)] :: R, k_af hrun, ?_, h _ _ ?_⟩
      · have := (hst1.drew).alloc (.cells (cells.toArray ++ Builtin.zeroCells z.cells (grownCap w ys.length 0 e - ys.length)) e)
        simpa using this
      · have := own_after (E := E) (e := e) (H := H) (xs := []) (ys := ys) (old := []) (new := cells) (ar := cells.toArray ++ Builtin.zeroCells z.cells (grownCap w ys.length 0 e - ys.length)) rfl hys
          (fun j u hj => by
            have hj' : cells[j]? = some u := by simpa using hj
            have hlt := (List.getElem?_eq_some_iff.1 hj').1
            rw [Array.getElem?_append_left (by simpa using hlt)]
            simpa using hj') w.heap.size (grownCap w ys.length 0 e) (by simpa using hge) hcm (by
            simp only [Array.size_append, List.size_toArray, k_b7, hzs, hlen, ← Nat.add_mul]
            refine Nat.le_of_eq ?_
            congr 1
            omega)
        simpa using this
    · obtain ⟨old, ho, hold⟩ := cells_of_get (H := H) xs (fun j => cs[j]?) h6
      have hb := hst1.sat.l (b, .cells cs e) (List.mem_append_left _ (List.mem_singleton.2 rfl))
      simp only at hb
      by_cases hroom : xs.length + ys.length ≤ cap
      · -- there is room
        have hfit : xs.length * i.size + cells.length ≤ cs.size := by
          rw [hsize, hlen, ← Nat.add_mul]; exact Nat.le_trans (Nat.mul_le_mul_right _ hroom) h5
        have hrun := run_append_room (P := fr.P) w t ty e i ht hi b xs.length cap cs hb ⟨sb, so, none⟩ ys.length cx cells hnl hnews hys.one hroom hfit
        have hsetsz : (cs.toList.take (xs.length * i.size) ++ cells ++ cs.toList.drop (xs.length * i.size + cells.length)).length = cs.size := by
          simp only [List.length_append, List.length_take, List.length_drop, Array.length_toList]; omega
        refine ⟨_, _, H, [(b, .cells (cs.toList.take (xs.length * i.size) ++ cells ++ cs.toList.drop (xs.length * i.size + cells.length)).toArray e)] :: R, k_af hrun, ?_, h _ _ ?_⟩
        · have h2 := hst1.turn (x := x) (w' := w.setRow b (cs.toList.take (xs.length * i.size) ++ cells ++ cs.toList.drop (xs.length * i.size + cells.length)).toArray)
            (o' := .cells (cs.toList.take (xs.length * i.size) ++ cells ++ cs.toList.drop (xs.length * i.size + cells.length)).toArray e) rfl rfl rfl (by simp [World.setRow]) (by simp only [World.setRow]; rw [Array.getElem?_modify, if_pos rfl, hb]; rfl) (fun c hc => by
              simp only [World.setRow, Array.getElem?_modify]
              rw [if_neg (fun e => hc e.symm)])
          simpa using h2
        · refine own_after ho hys (fun j u hj => ?_) b cap hroom h4 (by rw [List.size_toArray, hsetsz]; exact h5)
          simp only [List.getElem?_toArray]
          have hol := ho.length
          have hlt := (List.getElem?_eq_some_iff.1 hj).1
          have htl : (cs.toList.take (xs.length * i.size)).length = xs.length * E.size := by
            have hcl : cap * E.size ≤ cs.toList.length := by rw [Array.length_toList]; exact h5
            rw [List.length_take, hsize]
            have : xs.length * E.size ≤ cap * E.size := Nat.mul_le_mul_right _ h3
            omega
          by_cases hjo : j < old.length
          · rw [List.getElem?_append_left hjo] at hj
            have := hold j u hj
            rw [List.append_assoc, List.getElem?_append_left (by rw [htl, ← hol]; exact hjo), List.getElem?_take_of_lt (by rw [hsize, ← hol]; exact hjo)]
            simpa using this
          · rw [List.getElem?_append_right (Nat.le_of_not_lt hjo)] at hj
            have hlt2 := (List.getElem?_eq_some_iff.1 hj).1
            rw [List.append_assoc, List.getElem?_append_right (by rw [htl, ← hol]; exact Nat.le_of_not_lt hjo), htl, ← hol, List.getElem?_append_left hlt2]
            exact hj
      · -- a new row
        have hol := ho.length
        have holds : ∀ j u, old[j]? = some u → w.cell? ((⟨b, 0, none⟩ : Addr).add j) = some u := fun j u hj => by
          rw [Addr.add_lit, Nat.zero_add]; exact k_5a hb (hold j u hj)
        have hns : Builtin.nextslicecap (xs.length + ys.length) cap * i.bytes ≤ 281474976710656 := by
          have h1 : Builtin.nextslicecap (xs.length + ys.length) cap ≤ 2 * (xs.length + ys.length) := nextslicecap_le (by omega)
          rw [hbytes]
          calc Builtin.nextslicecap (xs.length + ys.length) cap * bytes ≤ 2 * (xs.length + ys.length) * bytes := Nat.mul_le_mul_right _ h1
            _ ≤ 281474976710656 := by rw [Nat.mul_assoc]; omega
        have hrun := run_append_grow (P := fr.P) w t ty e i z ht hi hz ⟨b, 0, none⟩ xs.length cap old (by rw [hsize]; exact hol) holds ⟨sb, so, none⟩ ys.length cx cells hnl hnews (by omega) (by omega) hns
        have hge := grownCap_ge w (xs.length + ys.length) cap e
        have hcm := grownCap_le_maxLen w (xs.length + ys.length) cap e hmax
        refine ⟨_, _, H, [(w.heap.size, .cells (old.toArray ++ cells.toArray ++ Builtin.zeroCells z.cells (grownCap w (xs.length + ys.length) cap e - (xs.length + ys.length))) e)] :: R, k_af hrun, ?_, h _ _ ?_⟩
        · have h1 := (hst1.sub (List.sublist_append_right _ _)).drew.alloc (.cells (old.toArray ++ cells.toArray ++ Builtin.zeroCells z.cells (grownCap w (xs.length + ys.length) cap e - (xs.length + ys.length))) e)
          simpa using h1
        · refine own_after ho hys (fun j u hj => ?_) _ _ hge hcm (by
            simp only [Array.size_append, List.size_toArray, k_b7, hzs, hlen, hol, ← Nat.add_mul]
            refine Nat.le_of_eq ?_
            congr 1
            omega)
          have hlt := (List.getElem?_eq_some_iff.1 hj).1
          rw [Array.getElem?_append_left (by simpa using hlt)]
          simpa using hj
end
end Go.SX
namespace Go.SX
open Go
attribute [local semireducible] T TL
abbrev yieldv (l : Nat) : Value := .func (.yield l) #[] #[]
def Iter {α : Type} (P : Program) (v : Value) (Y : Heap → List Value → α → Prop) (H0 : Heap) (xs : List α) : Prop :=
  ∀ (l : Nat) (J Jx : List α → Heap → Own → Prop) (H : Heap) (Lc : Own), HLe H0 H →
    (∀ pre H H' L, HLe H H' → J pre H L → J pre H' L) → (∀ pre H H' L, HLe H H' → Jx pre H L → Jx pre H' L) →
    (∀ pre y vs H2 L, HLe H H2 → (pre ++ [y]) <+: xs → J pre H2 L → Y H2 vs y →
      Fc P (yieldv l) vs H2 L (fun v H' L' => (v = .bool true ∧ J (pre ++ [y]) H' L') ∨ (v = .bool false ∧ Jx (pre ++ [y]) H' L'))) →
    J [] H Lc →
    Fc P v [yieldv l] H Lc (fun _ H' L' => J xs H' L' ∨ ∃ pre y, (pre ++ [y]) <+: xs ∧ Jx (pre ++ [y]) H' L')
theorem Iter.mono {α : Type} {P : Program} {v : Value} {Y : Heap → List Value → α → Prop} {H H' : Heap} {xs : List α} (h : Iter P v Y H xs) (hl : HLe H H') : Iter P v Y H' xs :=
  fun l J Jx H1 Lc h1 h2 h3 h4 h5 => h l J Jx H1 Lc (hl.trans h1) h2 h3 h4 h5
theorem TL.callT {fr : Fr} {x : Cx} {Q : Post} {σ : Env} {H : Heap} {L : Own} {ds : List Nat} {ol rest : List Oper} {d : Nat} {ty : TypeId} {p : String} {af : Array Edge} {g : Option (Nat × Bool)}
    {F : Operand} {ag : List Operand} {ats : Array TypeId} {fv : Value} {vs : List Value} {post : Value → Heap → Own → Prop} (k : Nat) (hw : wan fr.N ol σ d g = true)
    (hf : ev σ F = fv) (ha : ag.map (ev σ) = vs) (hc : Fc fr.P fv vs H (L.drop k) post)
    (h : ∀ v H' L', HLe H H' → post v H' L' → TL fr x ol rest Q (upd σ d v) H' (L.take k ++ L') ds) :
    TL fr x ol (⟨some d, .call { callee := .value F, args := ag.toArray, argTypes := ats }, ty, p, af, g⟩ :: rest) Q σ H L ds := by
  intro a w hs hd hst
  have e : L.flatten = (L.take k).flatten ++ (L.drop k).flatten := by rw [← List.flatten_append, List.take_append_drop]
  have hp : L.flatten.Perm ((L.drop k).flatten ++ (L.take k).flatten) := by rw [e]; exact List.perm_append_comm
  have hst' : St x H ((L.drop k ++ L.take k : Own).flatten ++ hid fr.rd ds) w := hst.perm (by rw [List.flatten_append]; exact hp.append_right _)
  have hm : split (List.replicate (L.drop k).length true) (L.drop k ++ L.take k) = (L.drop k, L.take k) := by
    generalize L.drop k = A
    generalize L.take k = B
    induction A with
    | nil => simp [split]
    | cons c A ih => simp only [List.length_cons, List.replicate_succ, List.cons_append, split, ih]
  refine TL.call (L := L.drop k ++ L.take k) (List.replicate (L.drop k).length true) hw hf ha (by rw [hm]; exact hc) (fun v H' L' hl hq => ?_) a w hs hd hst'
  rw [hm]
  intro a w hs hd hst
  refine h v H' L' hl hq a w hs hd (hst.perm ?_)
  simp only [List.flatten_append]
  exact List.Perm.append_right _ List.perm_append_comm
def setps : Env → List Nat → List Value → Env
  | σ, p :: ps, v :: vs => setps (upd σ p v) ps vs
  | σ, _, _ => σ
theorem Sim.setps {N : Nat} : ∀ (ps : List Nat) (vs : List Value) {σ : Env} {t : Array Value}, Sim N σ t → ps.all (fun q => Nat.blt q N) = true →
    Sim N (SX.setps σ ps vs) ((ps.zip vs).foldl (fun t (q : Nat × Value) => t.setIfInBounds q.1 q.2) t)
  | [], vs, σ, t, h, _ => by simpa [SX.setps] using h
  | p :: ps, [], σ, t, h, _ => by simpa [SX.setps] using h
  | p :: ps, v :: vs, σ, t, h, hp => by
    simp only [List.all_cons, Bool.and_eq_true] at hp
    have := Sim.setps ps vs (h.put p v hp.1) hp.2
    simpa [SX.setps] using this
theorem foldl_zip (ps : List Nat) (vs : List Value) (t : Array Value) : (ps.toArray.zip vs.toArray).foldl (fun t (q : Nat × Value) => t.setIfInBounds q.1 q.2) t = (ps.zip vs).foldl (fun t (q : Nat × Value) => t.setIfInBounds q.1 q.2) t := by
  rw [← Array.foldl_toList]; simp
def rndPost {α : Type} (I : List α → Heap → Own → Prop) (Ix : Code → List α → Heap → Own → Prop) (xs : List α) : Post
  | .normal, _, H, L, _ => I xs H L
  | .ret, _, H, L, _ => Ix .ret xs H L
  | .exit id, _, H, L, _ => Ix (.exit id) xs H L
  | .goto t, _, H, L, _ => Ix (.goto t) xs H L
  | _, _, _, _, _ => False
def onlyN (K : Env → Heap → Own → Prop) : Post
  | .normal, σ, H, L, ds => ds = [] ∧ K σ H L
  | _, _, _, _, _ => False
theorem onlyN.mk {K : Env → Heap → Own → Prop} {σ : Env} {H : Heap} {L : Own} (h : K σ H L) : onlyN K .normal σ H L [] := ⟨rfl, h⟩
def rc (l : Nat) (r : Loop) : Chunk := [(l, .loop r), (r.defers, .deferred (some []))]
section
variable {α : Type} {P : Program} {N : Nat} {Q : Post} {σ : Env} {H : Heap} {L : Own} {ds : List Nat} {x : Cx}
theorem yield_Fc {l : Nat} {r : Loop} {ps : List Nat} {vs : List Value} {L1 : Own} {I : List α → Heap → Own → Prop} {Ix : Code → List α → Heap → Own → Prop} {pre : List α} {y : α}
    (hrs : r.state = .ready) (hrp : r.params = ps.toArray) (hlen : vs.length = ps.length) (hsim : Sim N σ r.tmps) (hps : ps.all (fun q => Nat.blt q N) = true)
    (hb : ∀ w1 : Cx, T ⟨P, N, some (l, r), []⟩ w1 r.assign (onlyN (fun σ2 H2 L2 => T ⟨P, N, some (l, { r with state := .busy }), []⟩ w1 r.body (rndPost I Ix (pre ++ [y])) σ2 H2 L2 [])) (setps σ ps vs) H L1 []) :
    Fc P (yieldv l) vs H (rc l r :: L1) (fun v H' L' =>
      (v = .bool true ∧ ∃ L2, L' = rc l { r with state := .ready, pending := none } :: L2 ∧ I (pre ++ [y]) H' L2) ∨
      (v = .bool false ∧ ∃ c L2, L' = rc l { r with state := .done, pending := some c } :: L2 ∧ Ix c (pre ++ [y]) H' L2)) := by
  intro w hsat
  have hl0 : w.heap[l]? = some (.loop r) := hsat.l (l, .loop r) (by simp [rc])
  have hy := run_yield (P := P) (args := vs.toArray) hl0 (by rw [hrp]; simpa using hlen)
  refine ⟨.round l r.fn ((r.params.zip vs.toArray).foldl (fun t (q : Nat × Value) => t.setIfInBounds q.1 q.2) r.tmps) r.assign r.body, w, ?_, ?_⟩
  · have e : (do let d ← Deferred.ofValue (yieldv l) vs.toArray; invoke d.target d.args : Sem Next) = Instr.yield l vs.toArray := by simp [Deferred.ofValue, invoke]
    rw [e]; exact hy
  simp only
  have hst0 : St ⟨w, H, (rc l r :: L1 : Own).flatten⟩ H (L1.flatten ++ hid (some (l, r)) []) w := by
    refine (St.init hsat).perm ?_
    simp only [List.flatten_cons, hid, List.map_nil, List.append_nil]
    exact List.perm_append_comm
  refine roundIn_of_wpIn (F := Fence.wide) (n := 0) trivial ?_
  have hs1 : Sim N (setps σ ps vs) ((r.params.zip vs.toArray).foldl (fun t (q : Nat × Value) => t.setIfInBounds q.1 q.2) r.tmps) := by
    rw [hrp, foldl_zip]; exact hsim.setps ps vs hps
  have hT := hb ⟨w, H, (rc l r :: L1 : Own).flatten⟩ { tmps := (r.params.zip vs.toArray).foldl (fun t (q : Nat × Value) => t.setIfInBounds q.1 q.2) r.tmps, defers := [] } w hs1 rfl hst0
  refine wpIn_mono hT ?_
  have turn : ∀ (r1 r2 : Loop) (H3 : Heap) (L3 : Own) (ds3 : List Nat) (w3 : World), r2.defers = r1.defers → St ⟨w, H, (rc l r :: L1 : Own).flatten⟩ H3 (L3.flatten ++ hid (some (l, r1)) ds3) w3 →
      w3.heap[l]? = some (.loop r1) ∧ St ⟨w, H, (rc l r :: L1 : Own).flatten⟩ H3 (L3.flatten ++ hid (some (l, r2)) []) (w3.putObj l (.loop r2)) := by
    intro r1 r2 H3 L3 ds3 w3 hd h3
    have h4 : St ⟨w, H, (rc l r :: L1 : Own).flatten⟩ H3 ((l, .loop r1) :: (L3.flatten ++ ((r1.defers, Obj.deferred (some [])) :: ds3.map (fun D => (D, Obj.deferred (some [])))))) w3 := h3.perm (by
      simp only [hid, List.cons_append, List.nil_append]
      exact List.perm_middle)
    have hl1 : w3.heap[l]? = some (.loop r1) := h4.sat.l (l, .loop r1) (List.mem_cons_self ..)
    refine ⟨hl1, ?_⟩
    have h5 := h4.turn (w' := w3.putObj l (.loop r2)) (o' := .loop r2) rfl rfl rfl (by simp [World.putObj]) (World.putObj_heap_same (heap_lt hl1)) (fun c hc => World.putObj_heap_other (by first | exact hc | exact fun e => hc e.symm))
    have h6 := h5.sub (L' := (l, .loop r2) :: (L3.flatten ++ [(r1.defers, Obj.deferred (some []))])) (List.Sublist.cons_cons _ (List.Sublist.append_left (List.Sublist.cons_cons _ (List.nil_sublist _)) _))
    refine h6.perm ?_
    simp only [hid, List.map_nil, List.append_nil, hd]
    exact List.perm_middle.symm
  rintro e a1 w1 ⟨σ2, H2, L2, ds2, hs2, hd2, hst2, hq⟩
  cases e with
  | normal =>
    obtain ⟨rfl, hq'⟩ := hq
    obtain ⟨hl1, hst3⟩ := turn r { r with state := .busy } H2 L2 [] w1 rfl hst2
    refine ⟨_, run_beginRound hl1 hrs, ?_⟩
    refine wpIn_mono (hq' a1 _ hs2 hd2 hst3) ?_
    rintro e2 a2 w2 ⟨σ4, H4, L4, ds4, hs4, hd4, hst4, hq4⟩
    have fin : ∀ (jump : Option Code), (Instr.endRound l jump).run P w2 = .ok (.bool jump.isNone) (w2.putObj l (.loop { r with state := if jump.isNone then .ready else .done, pending := jump })) ∧
        St ⟨w, H, (rc l r :: L1 : Own).flatten⟩ H4 ((rc l { r with state := if jump.isNone then .ready else .done, pending := jump } :: L4 : Own).flatten) (w2.putObj l (.loop { r with state := if jump.isNone then .ready else .done, pending := jump })) := by
      intro jump
      obtain ⟨hl2, hst5⟩ := turn { r with state := .busy } { r with state := if jump.isNone then .ready else .done, pending := jump } H4 L4 ds4 w2 rfl hst4
      refine ⟨by have := run_endRound (P := P) jump hl2; exact this, hst5.perm ?_⟩
      simp only [hid, List.map_nil, List.append_nil, List.flatten_cons, rc]
      exact List.perm_append_comm
    cases e2 with
    | normal =>
      obtain ⟨h1, h2⟩ := fin none
      exact ⟨_, _, h1, _, H4, _, rfl, h2, .inl ⟨rfl, L4, rfl, hq4⟩⟩
    | ret =>
      obtain ⟨h1, h2⟩ := fin (some .ret)
      exact ⟨_, _, h1, _, H4, _, rfl, h2, .inr ⟨rfl, _, L4, rfl, hq4⟩⟩
    | exit id =>
      obtain ⟨h1, h2⟩ := fin (some (.exit id))
      exact ⟨_, _, h1, _, H4, _, rfl, h2, .inr ⟨rfl, _, L4, rfl, hq4⟩⟩
    | goto t =>
      obtain ⟨h1, h2⟩ := fin (some (.goto t))
      exact ⟨_, _, h1, _, H4, _, rfl, h2, .inr ⟨rfl, _, L4, rfl, hq4⟩⟩
    | panic ch => exact hq4.elim
    | outgrown => exact hq4.elim
  | _ => exact hq.elim
theorem T.rangeFunc {G : Operand} {ps : List Nat} {ag body : Code} {v : Value} {gf : Nat} {lb : Array Value} {Y : Heap → List Value → α → Prop} {xs : List α} (hg : ev σ G = v) (hv : v = .func (.func gf) #[] lb) (hen : Go.Proofs.Enters P gf) (hit : Iter P v Y H xs)
    (hYl : ∀ H vs y, Y H vs y → vs.length = ps.length) (hps : ps.all (fun q => Nat.blt q N) = true)
    (I : List α → Heap → Own → Prop) (Ix : Code → List α → Heap → Own → Prop) (hI : ∀ pre H H' L, HLe H H' → I pre H L → I pre H' L) (hIx : ∀ c pre H H' L, HLe H H' → Ix c pre H L → Ix c pre H' L)
    (h0 : I [] H L)
    (hbody : ∀ l r w1 pre y vs H1 L1, HLe H H1 → (pre ++ [y]) <+: xs → I pre H1 L1 → Y H1 vs y →
      T ⟨P, N, some (l, r), []⟩ w1 ag (onlyN (fun σ2 H2 L2 => T ⟨P, N, some (l, { r with state := .busy }), []⟩ w1 body (rndPost I Ix (pre ++ [y])) σ2 H2 L2 [])) (setps σ ps vs) H1 L1 [])
    (hdone : ∀ D H1 L1, HLe H H1 → I xs H1 L1 → Q .normal σ H1 L1 (D :: ds))
    (hstop : ∀ D c pre y H1 L1, HLe H H1 → (pre ++ [y]) <+: xs → Ix c (pre ++ [y]) H1 L1 → T ⟨P, N, none, []⟩ x c Q σ H1 L1 (D :: ds)) :
    T ⟨P, N, none, []⟩ x (.rangeFunc G ps.toArray ag body) Q σ H L ds := by
  intro a w hs hd hst
  refine wpIn_rangeFunc ?_
  intro fn _
  obtain ⟨r0, hr0⟩ : ∃ r0 : Loop, r0 = { state := .ready, pending := none, fn, tmps := a.tmps, params := ps.toArray, assign := ag, body, defers := w.heap.size } := ⟨_, rfl⟩
  have hst1 := (hst.alloc (.deferred (some []))).alloc (.loop r0)
  rw [World.size_alloc] at hst1
  generalize hw1 : (w.alloc (.deferred (some []))).alloc (.loop r0) = w1 at hst1
  have hl : r0.defers = w.heap.size := by rw [hr0]
  have hcall := hit (w.heap.size + 1)
    (fun pre H' L' => ∃ L1, L' = rc (w.heap.size + 1) r0 :: L1 ∧ I pre H' L1)
    (fun pre H' L' => ∃ c L1, L' = rc (w.heap.size + 1) { r0 with state := .done, pending := some c } :: L1 ∧ Ix c pre H' L1)
    H (rc (w.heap.size + 1) r0 :: L) (HLe.refl _)
    (fun pre H H' L hle ⟨L1, h1, h2⟩ => ⟨L1, h1, hI pre H H' L1 hle h2⟩)
    (fun pre H H' L hle ⟨c, L1, h1, h2⟩ => ⟨c, L1, h1, hIx c pre H H' L1 hle h2⟩)
    (fun pre y vs H2 L' hle hpre ⟨L1, h1, h2⟩ hY => by
      subst h1
      refine (yield_Fc (ps := ps) (σ := σ) (N := N) (I := I) (Ix := Ix) (pre := pre) (y := y) (by rw [hr0]) (by rw [hr0]) (hYl _ _ _ hY) (by rw [hr0]; exact hs) hps (fun w1 => ?_)).mono ?_
      · rw [hr0]; exact hbody _ _ w1 pre y vs H2 L1 hle hpre h2 hY
      · rintro v H' L' _ (⟨h3, L2, h4, h5⟩ | ⟨h3, c, L2, h4, h5⟩)
        · refine .inl ⟨h3, L2, ?_, h5⟩
          rw [h4, hr0]
        · exact .inr ⟨h3, c, L2, h4, h5⟩)
    ⟨L, rfl, h0⟩
  have hsatc : Sat H (rc (w.heap.size + 1) r0 :: L : Own).flatten w1 := by
    refine (hst1.sat.sub (L' := (w.heap.size + 1, .loop r0) :: (w.heap.size, .deferred (some [])) :: L.flatten) ?_).perm ?_
    · exact List.Sublist.cons_cons _ (List.Sublist.cons_cons _ (List.sublist_append_left _ _))
    · simp only [List.flatten_cons, rc, hl]; exact List.Perm.refl _
  obtain ⟨nx, w2, hrun, hnx⟩ := hcall w1 hsatc
  have hst1' : St x H ((rc (w.heap.size + 1) r0 :: L : Own).flatten ++ hid none ds) w1 := by
    refine hst1.perm ?_
    simp only [List.flatten_cons, rc, hl, List.cons_append, List.nil_append]
    exact List.Perm.refl _
  have hev : (ev σ G) = a.eval G := by rw [hs.eval]
  subst hv
  have hd1 : (Deferred.ofValue (.func (.func gf) #[] lb) #[yieldv (w.heap.size + 1)]).run P w1 = .ok { target := .fn (.func gf) lb, args := #[yieldv (w.heap.size + 1)] } w1 := by simp [Deferred.ofValue]
  have hd2 : (invoke (.fn (.func gf) lb) #[yieldv (w.heap.size + 1)]).run P w1 = .ok (.enter gf (#[yieldv (w.heap.size + 1)] ++ lb)) w1 := by
    simp only [invoke]; exact hen _ _
  have hnx2 : nx = .enter gf (#[yieldv (w.heap.size + 1)] ++ lb) ∧ w2 = w1 := by
    have h1 : Sem.run P (do let d ← Deferred.ofValue (.func (.func gf) #[] lb) [yieldv (w.heap.size + 1)].toArray; invoke d.target d.args) w1 = .ok (.enter gf (#[yieldv (w.heap.size + 1)] ++ lb)) w1 := by
      rw [Sem.run_bind, hd1]; exact hd2
    rw [h1] at hrun
    injection hrun with h2 h3
    exact ⟨h2.symm, h3.symm⟩
  obtain ⟨rfl, rfl⟩ := hnx2
  refine ⟨w.heap.size + 1, [mk w.heap.size], w2, { target := .fn (.func gf) lb, args := #[yieldv (w.heap.size + 1)] }, w2, gf, #[yieldv (w.heap.size + 1)] ++ lb, w2, ?_, ?_, fun f' _ => trivial, hd2, (fun h => by cases h), ?_⟩
  · rw [← hw1, hr0]; exact run_enterLoop_outer fn a.tmps ps.toArray ag body
  · simp only [resolve]
    rw [← hev, hg]
    simpa [Act.eval] using hd1
  · refine CallsIn.mono (calls_fence hnx) ?_
    rintro e w3 ⟨v3, H3, L3, rfl, hst3, hpost⟩
    have hj := hst1'.join hst3
    rcases hpost with ⟨L1, rfl, hI1⟩ | ⟨pre, y, hpre, c, L1, rfl, hI1⟩
    · have h4 : St x H3 ((w.heap.size + 1, .loop r0) :: ((w.heap.size, .deferred (some [])) :: (L1.flatten ++ hid none ds))) w3 := by
        have := hj; simpa [rc, hl] using this
      have hl3 := h4.sat.l _ (List.mem_cons_self ..)
      refine ⟨none, _, by have := run_endLoop (P := P) hl3 (by rw [hr0]; simp); rw [hr0] at this; exact this, ?_⟩
      have h5 := h4.turn (w' := w3.putObj (w.heap.size + 1) (.loop { r0 with state := .exhausted })) (o' := .loop { r0 with state := .exhausted }) rfl rfl rfl (by simp [World.putObj]) (World.putObj_heap_same (heap_lt hl3)) (fun c hc => World.putObj_heap_other (by first | exact hc | exact fun e => hc e.symm))
      refine k_53 (ds := w.heap.size :: ds) hs (by simp [hd]) ?_ (hdone _ H3 L1 hst3.le hI1)
      have h6 := (h5.sub (List.sublist_cons_self _ _)).perm (L' := L1.flatten ++ hid none (w.heap.size :: ds)) (by
        simp only [hid, List.map_cons, List.nil_append]
        exact List.perm_middle.symm)
      rw [hr0] at h6
      exact h6
    · have h4 : St x H3 ((w.heap.size + 1, .loop { r0 with state := .done, pending := some c }) :: ((w.heap.size, .deferred (some [])) :: (L1.flatten ++ hid none ds))) w3 := by
        have := hj; simpa [rc, hl] using this
      have hl3 := h4.sat.l _ (List.mem_cons_self ..)
      refine ⟨some c, _, by have := run_endLoop (P := P) hl3 (by simp); exact this, ?_⟩
      have h5 := h4.turn (w' := w3.putObj (w.heap.size + 1) (.loop { { r0 with state := .done, pending := some c } with state := .exhausted })) (o' := .loop { { r0 with state := .done, pending := some c } with state := .exhausted }) rfl rfl rfl (by simp [World.putObj]) (World.putObj_heap_same (heap_lt hl3)) (fun c hc => World.putObj_heap_other (by first | exact hc | exact fun e => hc e.symm))
      refine hstop w.heap.size c pre y H3 L1 hst3.le hpre hI1 _ _ hs (by simp [hd]) ?_
      exact (h5.sub (List.sublist_cons_self _ _)).perm (L' := L1.flatten ++ hid none (w.heap.size :: ds)) (by
        simp only [hid, List.map_cons, List.nil_append]
        exact List.perm_middle.symm)
end
end Go.SX
namespace Go.SX
open Go
attribute [local semireducible] T TL
def dsto (ol : List Oper) (i : Nat) : Option Nat := match nth ol i with
  | some o => o.dst
  | none => none
def opTmps (o : Oper) : List Nat := o.op.operands.toList.filterMap fun
  | .tmp t => some t
  | _ => none
def gslot (ol : List Oper) (o : Oper) : List Nat := match o.guard with
  | some (j, _) => (dsto ol j).toList
  | none => []
def looks (ol : List Oper) (o : Oper) : List Nat := gslot ol o ++ opTmps o
def preds (o : Oper) : List Nat := o.after.toList.filterMap fun e => if Region.binds .any e then some e.on else none
def freshOk (ol : List Oper) (j : Nat) : Bool := match dsto ol j with
  | none => true
  | some d => (List.range ol.length).all fun i => match nth ol i with
    | some p => (!(looks ol p).contains d && (i == j || !(p.dst == some d))) || (preds p).contains j
    | none => true
def sepOk (N : Nat) (ol : List Oper) : Bool := (List.range ol.length).all fun k => match nth ol k with
  | some o => (match o.op with | .defer _ => false | .select .. => false | _ => true) && ((preds o).all fun j => Nat.blt j k) && match o.dst with
    | none => true
    | some d => Nat.blt d N && (List.range ol.length).all fun j => j == k || match nth ol j with
      | some p => (!(looks ol p).contains d && !(p.dst == some d)) || (preds p).contains k || (preds o).contains j
      | none => true
  | none => true
def vready (ol : List Oper) (pend : List Nat) (i : Nat) : Bool := match nth ol i with
  | some o => (preds o).all fun j => !pend.contains j
  | none => false
def nextP (ds : List Nat) (K : Env → Heap → Own → Prop) : Post
  | .normal, σ, H, L, ds' => ds' = ds ∧ K σ H L
  | _, _, _, _, _ => False
def PV (fr : Fr) (ol : List Oper) (o : Oper) (σ : Env) (H : Heap) (ds : List Nat) (σ' : Env) : Prop :=
  ∀ (x : Cx) (Q' : Post), Q' .normal σ' H [] ds → TL fr x ol [o] Q' σ H [] ds
def Plan (fr : Fr) (x : Cx) (ol : List Oper) (Q : Post) (ds : List Nat) : Nat → List Nat → Env → Heap → Own → Prop
  | 0, pend, σ, H, L => pend = [] ∧ Q .normal σ H L ds
  | n + 1, pend, σ, H, L =>
    (∃ i o σ', i ∈ pend ∧ vready ol pend i = true ∧ freshOk ol i = true ∧ nth ol i = some o ∧ (∀ t, o.dst ≠ some t → σ' t = σ t) ∧ PV fr ol o σ H ds σ' ∧ Plan fr x ol Q ds n (pend.erase i) σ' H L) ∨
    (∀ i ∈ pend, vready ol pend i = true → ∃ o, nth ol i = some o ∧ TL fr x ol [o] (nextP ds (fun σ' H' L' => HLe H H' ∧ (∀ t, o.dst ≠ some t → σ' t = σ t) ∧ Plan fr x ol Q ds n (pend.erase i) σ' H' L')) σ H L ds)
theorem getElem_of {N : Nat} {s t : Array Value} (hs : s.size = N) (ht : t.size = N) {i : Nat} (h : s.getD i undef = t.getD i undef) : s[i]? = t[i]? := by
  by_cases hi : i < N
  · rw [Array.getD_eq_getD_getElem?, Array.getD_eq_getD_getElem?, Array.getElem?_eq_getElem (by omega), Array.getElem?_eq_getElem (by omega)] at h
    simp only [Option.getD_some] at h
    rw [Array.getElem?_eq_getElem (by omega), Array.getElem?_eq_getElem (by omega), h]
  · rw [Array.getElem?_eq_none (by omega), Array.getElem?_eq_none (by omega)]
theorem op_transfer {rd : Option (Nat × Loop)} {P : Program} {N : Nat} {ol : List Oper} {Q' Q : Exit → Act → World → Prop} {o : Oper} {i : Nat} {a b : Act} {w : World} {K : Act → World → Prop}
    (hi : nth ol i = some o) (hnd : isDefer o.op = false) (hns : ∀ cs b, o.op ≠ .select cs b) (hsa : a.tmps.size = N) (hsb : b.tmps.size = N)
    (hag : ∀ t ∈ looks ol o, a.tmps.getD t undef = b.tmps.getD t undef) (h : wpLo (fence rd) P ol.toArray Q' [o] b w)
    (hQ : ∀ e c w', e ≠ .normal → ¬ Q' e c w') (hdf : ∀ d v w', ¬ Q' .normal ({ b with defers := d :: b.defers }.put o.dst v) w')
    (hK : ∀ v w', Q' .normal (b.put o.dst v) w' → K (a.put o.dst v) w') : wpOpIn (fence rd) 0 P ol.toArray Q i K a w := by
  have hi' : ol.toArray[i]? = some o := by rw [List.getElem?_toArray, ← nth_eq]; exact hi
  have hop : ∀ X ∈ o.op.operands, a.eval X = b.eval X := by
    intro X hX
    cases X with
    | tmp t =>
      refine hag t (List.mem_append_right _ ?_)
      unfold opTmps
      exact List.mem_filterMap.2 ⟨.tmp t, by simpa using hX, rfl⟩
    | _ => rfl
  have hexec := execOp_congr (ρ := a.eval) (ρ' := b.eval) o hns hop
  have hwant : Region.wanted o (yielded ol.toArray a.tmps) = Region.wanted o (yielded ol.toArray b.tmps) := by
    unfold Region.wanted
    cases hg : o.guard with
    | none => rfl
    | some q =>
      obtain ⟨j, want⟩ := q
      have : yielded ol.toArray a.tmps j = yielded ol.toArray b.tmps j := by
        unfold yielded
        rw [List.getElem?_toArray, ← nth_eq]
        cases hj : nth ol j with
        | none => rfl
        | some oj =>
          simp only [Option.bind_some]
          cases hd : oj.dst with
          | none => rfl
          | some t =>
            simp only [Option.bind_some]
            rw [getElem_of hsa hsb (hag t (List.mem_append_left _ (by unfold gslot; rw [hg]; simp [dsto, hj, hd])))]
      simp only [this]
  have lets : ¬ LetsOut Q' := fun ⟨c, w', hc⟩ => hQ _ c w' (by simp) hc
  unfold wpOpIn
  simp only [hi']
  unfold wpLo at h
  rw [hwant]
  split
  · rename_i hw
    rw [if_pos hw] at h
    refine ⟨fun f _ => fenceFn _ f, ?_⟩
    have h2 := h.2
    rw [k_b0 hnd] at h2 ⊢
    rw [hexec]
    generalize (execOp b.eval o).run P w = r at h2
    cases r with
    | ok n w' =>
      cases n <;> simp only [Oper.uponIn, wpLo] at h2 ⊢
      case value v => exact hK v w' h2
      case skip => exact hK _ w' h2
      case defer d => exact (hdf d _ w' h2).elim
      case enter f args => exact ⟨h2.1, CallsIn.mono h2.2 (fun e w'' he => by
        cases e with
        | returned v => exact hK v w'' he
        | panicked ch => exact (hQ _ _ _ (by simp) he).elim
        | outgrown => exact (lets he).elim)⟩
      case row row args => exact ⟨h2.1, RowsIn.mono h2.2 (fun v w'' he => hK v w'' he)⟩
      case round l f tmps ag body => exact ⟨h2.1, RoundIn.mono h2.2 (fun e w'' he => by
        cases e with
        | returned v => exact hK v w'' he
        | panicked ch => exact (hQ _ _ _ (by simp) he).elim
        | outgrown => exact (lets he).elim)⟩
    | halt x w' => cases x <;> simp only [Oper.uponIn] at h2 ⊢; exact (hQ _ _ _ (by simp) h2).elim
  · rename_i hw
    rw [if_neg hw] at h
    exact ⟨fun f _ => fenceFn _ f, hK _ w h.2⟩
def envArr (N : Nat) (σ : Env) : Array Value := ((List.range N).map σ).toArray
theorem envArr_sim {N : Nat} {σ : Env} (h : ∀ t, N ≤ t → σ t = undef) : Sim N σ (envArr N σ) := by
  refine ⟨by simp [envArr], fun i => ?_⟩
  rw [Array.getD_eq_getD_getElem?]
  unfold envArr
  rw [List.getElem?_toArray, List.getElem?_map]
  by_cases hi : i < N
  · rw [List.getElem?_range hi]; rfl
  · rw [List.getElem?_eq_none (by simpa using hi)]
    exact (h i (by omega)).symm
def VOk (fr : Fr) (ol : List Oper) (ds : List Nat) (pend : List Nat) (σ : Env) (H : Heap) (j : Nat) : Prop :=
  ∃ o σ0 σ1 H0, nth ol j = some o ∧ freshOk ol j = true ∧ (∀ k ∈ preds o, k ∉ pend) ∧ (∀ t, fr.N ≤ t → σ0 t = undef) ∧ (∀ t ∈ looks ol o, σ0 t = σ t) ∧ (∀ t, o.dst = some t → σ1 t = σ t) ∧ (∀ t, o.dst ≠ some t → σ1 t = σ0 t) ∧
    HLe H0 H ∧ PV fr ol o σ0 H0 ds σ1
theorem fresh_spec {ol : List Oper} {j d i : Nat} {p : Oper} (h : freshOk ol j = true) (hd : dsto ol j = some d) (hi : i < ol.length) (hp : nth ol i = some p) (hn : d ∈ looks ol p ∨ (i ≠ j ∧ p.dst = some d)) : j ∈ preds p := by
  unfold freshOk at h
  rw [hd] at h
  simp only [List.all_eq_true, List.mem_range] at h
  have := h i hi
  rw [hp] at this
  simp only [Bool.or_eq_true, Bool.and_eq_true, Bool.not_eq_true', List.contains_eq_mem, decide_eq_true_eq, decide_eq_false_iff_not, beq_iff_eq, beq_eq_false_iff_ne] at this
  rcases this with ⟨h1, h2⟩ | h1
  · rcases hn with hn | ⟨hn1, hn2⟩
    · exact absurd hn h1
    · rcases h2 with h2 | h2
      · exact absurd h2 hn1
      · exact absurd hn2 h2
  · exact h1
theorem sep_spec {N : Nat} {ol : List Oper} (h : sepOk N ol = true) {k : Nat} {o : Oper} (hk : k < ol.length) (ho : nth ol k = some o) :
    isDefer o.op = false ∧ (∀ cs b, o.op ≠ .select cs b) ∧ (∀ j ∈ preds o, j < k) ∧ (∀ d, o.dst = some d → Nat.blt d N = true) ∧
    ∀ d j p, o.dst = some d → j ≠ k → j < ol.length → nth ol j = some p → (d ∈ looks ol p ∨ p.dst = some d) → k ∈ preds p ∨ j ∈ preds o := by
  unfold sepOk at h
  simp only [List.all_eq_true, List.mem_range] at h
  have h1 := h k hk
  rw [ho] at h1
  simp only [Bool.and_eq_true, List.all_eq_true] at h1
  obtain ⟨⟨h2, h3⟩, h4⟩ := h1
  refine ⟨?_, ?_, fun j hj => Nat.blt_eq.mp (h3 j hj), ?_, ?_⟩
  · cases hop : o.op <;> first | rfl | (rw [hop] at h2; simp at h2)
  · intro cs b e; rw [e] at h2; simp at h2
  · intro d hd
    rw [hd] at h4
    simp only [Bool.and_eq_true] at h4
    exact h4.1
  · intro d j p hd hjk hj hp hn
    rw [hd] at h4
    simp only [Bool.and_eq_true, List.all_eq_true, List.mem_range] at h4
    have h5 := h4.2 j hj
    rw [hp] at h5
    simp only [Bool.or_eq_true, Bool.and_eq_true, Bool.not_eq_true', List.contains_eq_mem, decide_eq_true_eq, decide_eq_false_iff_not, beq_iff_eq, beq_eq_false_iff_ne] at h5
    rcases h5 with h5 | (⟨h5, h6⟩ | h5) | h5
    · exact absurd h5 hjk
    · rcases hn with hn | hn
      · exact absurd hn h5
      · exact absurd hn h6
    · exact .inl h5
    · exact .inr h5
theorem St.up {w w' : World} {H0 H : Heap} {C : Chunk} (h : Sat H C w) (hl : HLe H0 H) (k : St ⟨w, H0, C⟩ H0 C w') : St ⟨w, H, C⟩ H C w' := by
  refine ⟨⟨fun b o hb => ?_, k.sat.l, k.sat.nd, h.dj⟩, k.chg, HLe.refl _, fun b o h1 h2 => ?_, fun b hb => .inl hb⟩
  · have h1 := h.h b o hb
    rw [k.chg.same b (heap_lt h1) (fun hc => ?_)]
    · exact h1
    · obtain ⟨q, hq, rfl⟩ := List.mem_map.1 hc
      have := h.dj q hq
      rw [hb] at this; cases this
  · have h3 : H b = none := h2
    rw [h3] at h1; cases h1
section
variable {fr : Fr} {x : Cx} {ol : List Oper} {Q : Post} {ds : List Nat}
structure Inv (fr : Fr) (ol : List Oper) (ds : List Nat) (pend virt : List Nat) (listed : Array Bool) (σ : Env) (H : Heap) (a : Act) : Prop where
  pn : pend.Nodup
  vn : virt.Nodup
  dj : ∀ i ∈ pend, i ∉ virt
  pl : ∀ i ∈ pend, i < ol.length
  vl : ∀ i ∈ virt, i < ol.length
  ls : ∀ i, i < ol.length → (listed.getD i true = false ↔ i ∈ pend ∨ i ∈ virt)
  lz : listed.size = ol.length
  sz : a.tmps.size = fr.N
  un : ∀ t, fr.N ≤ t → σ t = undef
  ag : ∀ t, (∀ j ∈ virt, dsto ol j ≠ some t) → a.tmps.getD t undef = σ t
  df : a.defers = ds.map mk ++ fr.D
  vo : ∀ j ∈ virt, VOk fr ol ds pend σ H j
theorem dsto_eq {i : Nat} {o : Oper} (h : nth ol i = some o) : dsto ol i = o.dst := by unfold dsto; rw [h]
theorem nth_lt {i : Nat} {o : Oper} (h : nth ol i = some o) : i < ol.length := by rw [nth_eq] at h; exact (List.getElem?_eq_some_iff.1 h).1
theorem lt_nth {i : Nat} (h : i < ol.length) : ∃ o, nth ol i = some o := ⟨ol[i], by rw [nth_eq]; exact List.getElem?_eq_getElem h⟩
theorem ready_spec {listed : Array Bool} {i : Nat} (h : i ∈ Region.ready .any ol.toArray listed) : ∃ o, nth ol i = some o ∧ listed.getD i true = false ∧ ∀ j ∈ preds o, listed.getD j false = true := by
  obtain ⟨h1, o, h2, h3⟩ := mem_ready.1 h
  refine ⟨o, by rw [nth_eq]; simpa using h2, h1, fun j hj => ?_⟩
  unfold preds at hj
  obtain ⟨e, he, hb⟩ := List.mem_filterMap.1 hj
  split at hb
  · rename_i hbi
    injection hb with hb
    subst hb
    exact h3 e (by simpa using he) hbi
  · cases hb
theorem ready_ne {pend virt : List Nat} {listed : Array Bool} {σ : Env} {H : Heap} {a : Act} (hsep : sepOk fr.N ol = true) (h : Inv fr ol ds pend virt listed σ H a) (hr : Region.ready .any ol.toArray listed = []) : pend = [] ∧ virt = [] := by
  have key : ∀ n i, i = n → (i ∈ pend ∨ i ∈ virt) → False := by
    intro n
    induction n using Nat.strongRecOn with
    | _ n ih =>
      intro i hin hi
      have hil : i < ol.length := hi.elim (h.pl i) (h.vl i)
      obtain ⟨o, ho⟩ := lt_nth (ol := ol) hil
      have hs := sep_spec hsep hil ho
      have hmem : i ∈ Region.ready .any ol.toArray listed := by
        refine mem_ready.2 ⟨(h.ls i hil).2 hi, o, by rw [List.getElem?_toArray, ← nth_eq]; exact ho, fun e he hb => ?_⟩
        have hp : e.on ∈ preds o := by
          unfold preds
          exact List.mem_filterMap.2 ⟨e, by simpa using he, by rw [if_pos hb]⟩
        have hlt := hs.2.2.1 _ hp
        have hel : e.on < ol.length := Nat.lt_trans hlt hil
        cases hg : listed.getD e.on true with
        | false => exact (ih e.on (hin ▸ hlt) e.on rfl ((h.ls _ hel).1 hg)).elim
        | true =>
          have hsz := h.lz
          rw [Array.getD_eq_getD_getElem?, Array.getElem?_eq_getElem (by omega)] at hg ⊢
          simpa using hg
      rw [hr] at hmem
      cases hmem
  constructor
  · cases pend with
    | nil => rfl
    | cons i r => exact (key i i rfl (.inl (List.mem_cons_self ..))).elim
  · cases virt with
    | nil => rfl
    | cons i r => exact (key i i rfl (.inr (List.mem_cons_self ..))).elim
theorem getD_false_of {listed : Array Bool} {j : Nat} (h : listed.getD j false = true) : listed.getD j true = true := by
  rw [Array.getD_eq_getD_getElem?] at h ⊢
  cases hj : listed[j]? with
  | none => rfl
  | some b => rw [hj] at h; exact h
theorem looks_ag {pend virt : List Nat} {listed : Array Bool} {σ : Env} {H : Heap} {a : Act} (h : Inv fr ol ds pend virt listed σ H a) {i : Nat} {o : Oper} (ho : nth ol i = some o) (hp : ∀ j ∈ preds o, listed.getD j false = true) :
    ∀ t ∈ looks ol o, a.tmps.getD t undef = σ t := by
  intro t ht
  refine h.ag t (fun j hj hd => ?_)
  obtain ⟨oj, _, _, _, hoj, hf, _⟩ := h.vo j hj
  have := fresh_spec hf hd (nth_lt ho) ho (.inl ht)
  have h1 := getD_false_of (hp j this)
  have h2 := (h.ls j (h.vl j hj)).2 (.inr hj)
  rw [h1] at h2; cases h2
theorem set_listed {listed : Array Bool} {i k : Nat} (hk : k < listed.size) (d : Bool) : (listed.setIfInBounds i true).getD k d = if k = i then true else listed.getD k d := by
  rw [Array.getD_eq_getD_getElem?, Array.getD_eq_getD_getElem?, Array.getElem?_setIfInBounds]
  by_cases h : k = i
  · subst h; simp [hk]
  · rw [if_neg (fun e => h e.symm), if_neg h]
theorem put_getD {a : Act} {dst : Option Tmp} {v : Value} {N t : Nat} (hs : a.tmps.size = N) (hd : ∀ d, dst = some d → Nat.blt d N = true) : (a.put dst v).tmps.getD t undef = if dst = some t then v else a.tmps.getD t undef := by
  cases dst with
  | none => simp [Act.put]
  | some d =>
    have hlt : d < a.tmps.size := by rw [hs]; exact Nat.blt_eq.mp (hd d rfl)
    simp only [Act.put, Array.getD_eq_getD_getElem?, Array.getElem?_setIfInBounds]
    by_cases e : d = t
    · subst e; simp [hlt]
    · simp [e]
theorem put_size {a : Act} {dst : Option Tmp} {v : Value} : (a.put dst v).tmps.size = a.tmps.size := by cases dst <;> simp [Act.put]
theorem put_defers' {a : Act} {dst : Option Tmp} {v : Value} : (a.put dst v).defers = a.defers := by cases dst <;> simp [Act.put]
theorem exec_virt (hsep : sepOk fr.N ol = true) {fuel : Nat} {pend virt : List Nat} {listed : Array Bool} {σ : Env} {H : Heap} {L : Own} {a : Act} {w : World} (h : Inv fr ol ds pend virt listed σ H a)
    (hst : St x H (L.flatten ++ hid fr.rd ds) w) {i : Nat} {o : Oper} (ho : nth ol i = some o) (hiv : i ∈ virt) (hpl : ∀ j ∈ preds o, listed.getD j false = true)
    (K : ∀ a' w', Inv fr ol ds pend (virt.erase i) (listed.setIfInBounds i true) σ H a' → St x H (L.flatten ++ hid fr.rd ds) w' → wpAnyIn (fence fr.rd) 0 fr.P .any ol.toArray (lift fr x Q) fuel (listed.setIfInBounds i true) a' w') :
    wpOpIn (fence fr.rd) 0 fr.P ol.toArray (lift fr x Q) i (wpAnyIn (fence fr.rd) 0 fr.P .any ol.toArray (lift fr x Q) fuel (listed.setIfInBounds i true)) a w := by
  obtain ⟨oj, σ0, σ1, H0, h1, h2, h3, h4, h5, h6, h7, h8, h9⟩ := h.vo i hiv
  rw [ho] at h1
  injection h1 with h1
  subst h1
  have hil := nth_lt ho
  have hs := sep_spec hsep hil ho
  have hlk := looks_ag h ho hpl
  have hsim := envArr_sim (N := fr.N) h4
  have hsat : Sat H (hid fr.rd ds) w := hst.sat.sub (List.sublist_append_right _ _)
  have hst0 : St ⟨w, H0, hid fr.rd ds⟩ H0 (([] : Own).flatten ++ hid fr.rd ds) w := St.init (hsat.weak h8)
  have hrun := h9 ⟨w, H0, hid fr.rd ds⟩ (fun e σ2 H2 L2 ds2 => e = .normal ∧ σ2 = σ1 ∧ H2 = H0 ∧ L2 = [] ∧ ds2 = ds) ⟨rfl, rfl, rfl, rfl, rfl⟩ ⟨envArr fr.N σ0, ds.map mk ++ fr.D⟩ w hsim rfl hst0
  refine op_transfer (b := ⟨envArr fr.N σ0, ds.map mk ++ fr.D⟩) ho hs.1 hs.2.1 h.sz (by simp [envArr]) (fun t ht => ?_) hrun ?_ ?_ ?_
  · rw [hlk t ht, ← h5 t ht, hsim.val]
  · rintro e c w' he ⟨_, _, _, _, _, _, _, hq, _⟩; exact he hq
  · rintro d v w' ⟨_, _, _, ds2, _, hdd, _, _, _, _, _, rfl⟩
    rw [put_defers'] at hdd
    have := congrArg List.length hdd
    simp at this
  · rintro v w' ⟨σ2, H2, L2, ds2, hs2, hd2, hst2, _, rfl, rfl, rfl, rfl⟩
    have hj : St x H (L.flatten ++ hid fr.rd ds2) w' := by
      have k := St.up hsat h8 (by simpa using hst2)
      have := (hst.perm (L' := hid fr.rd ds2 ++ L.flatten) List.perm_append_comm).join k
      exact this.perm List.perm_append_comm
    refine K _ w' ⟨h.pn, h.vn.erase i, fun k hk hc => h.dj k hk (List.mem_of_mem_erase hc), h.pl, fun k hk => h.vl k (List.mem_of_mem_erase hk), ?_, by simp [h.lz], by rw [put_size]; exact h.sz, h.un, ?_, by rw [put_defers']; exact h.df, fun j hj => h.vo j (List.mem_of_mem_erase hj)⟩ hj
    · intro k hk
      rw [set_listed (by rw [h.lz]; exact hk)]
      by_cases e : k = i
      · subst e
        simp only [if_true]
        constructor
        · intro hc; cases hc
        · rintro (hc | hc)
          · exact absurd hiv (h.dj k hc)
          · exact absurd hc (List.Nodup.not_mem_erase h.vn)
      · rw [if_neg e, h.ls k hk, List.mem_erase_of_ne e]
    · intro t ht
      rw [put_getD h.sz hs.2.2.2.1]
      by_cases e : o.dst = some t
      · rw [if_pos e]
        have := hs2.val t
        rw [put_getD (by simp [envArr]) hs.2.2.2.1, if_pos e] at this
        rw [this, h6 t e]
      · rw [if_neg e]
        refine h.ag t (fun j hj => ?_)
        by_cases ej : j = i
        · subst ej; rw [dsto_eq ho]; exact e
        · exact ht j ((List.mem_erase_of_ne ej).2 hj)
theorem Plan.sound (hsep : sepOk fr.N ol = true) : ∀ (fuel n : Nat) (pend virt : List Nat) (listed : Array Bool) (σ : Env) (H : Heap) (L : Own) (a : Act) (w : World),
    fuel = pend.length + virt.length → n = pend.length → Inv fr ol ds pend virt listed σ H a → St x H (L.flatten ++ hid fr.rd ds) w → Plan fr x ol Q ds n pend σ H L →
    wpAnyIn (fence fr.rd) 0 fr.P .any ol.toArray (lift fr x Q) fuel listed a w := by
  intro fuel
  induction fuel with
  | zero =>
    intro n pend virt listed σ H L a w hf hn h hst hp
    have hpe : pend = [] := List.length_eq_zero_iff.1 (by omega)
    have hve : virt = [] := List.length_eq_zero_iff.1 (by omega)
    subst hpe; subst hve
    have hn0 : n = 0 := by simpa using hn
    subst hn0
    refine ⟨?_, σ, H, L, ds, ⟨h.sz, fun i => h.ag i (fun j hj => by cases hj)⟩, h.df, hst, hp.2⟩
    cases hr : Region.ready .any ol.toArray listed with
    | nil => rfl
    | cons i r =>
      obtain ⟨o, ho, hl, _⟩ := ready_spec (ol := ol) (i := i) (listed := listed) (by rw [hr]; exact List.mem_cons_self ..)
      have := (h.ls i (nth_lt ho)).1 hl
      simp at this
  | succ fuel ihf =>
    intro n
    induction n with
    | zero =>
      intro pend virt listed σ H L a w hf hn h hst hp
      have hpe : pend = [] := hp.1
      subst hpe
      refine ⟨fun hr => ?_, fun i hi => ?_⟩
      · have := (ready_ne hsep h hr).2
        subst this
        simp at hf
      · obtain ⟨o, ho, hl, hpl⟩ := ready_spec hi
        have hiv : i ∈ virt := ((h.ls i (nth_lt ho)).1 hl).resolve_left (by simp)
        refine exec_virt hsep h hst ho hiv hpl (fun a' w' hi' hst' => ihf 0 [] (virt.erase i) _ σ H L a' w' ?_ rfl hi' hst' hp)
        rw [List.length_erase_of_mem hiv]
        simp only [List.length_nil, Nat.zero_add] at hf ⊢
        omega
    | succ n ihn =>
      intro pend virt listed σ H L a w hf hn h hst hp
      rcases hp with ⟨i, o, σ', hip, hvr, hfr, ho, hσ, hpv, hplan⟩ | hstep
      · -- done in thought
        have hil := h.pl i hip
        have hs := sep_spec hsep hil ho
        have hprd : ∀ k ∈ preds o, k ∉ pend := by
          unfold vready at hvr
          rw [ho] at hvr
          simp only [List.all_eq_true, Bool.not_eq_true', List.contains_eq_mem, decide_eq_false_iff_not] at hvr
          exact hvr
        have hne : ∀ j ∈ virt, j ≠ i := fun j hj e => h.dj i hip (e ▸ hj)
        refine ihn (pend.erase i) (i :: virt) listed σ' H L a w ?_ ?_ ⟨h.pn.erase i, List.nodup_cons.2 ⟨h.dj i hip, h.vn⟩, ?_, fun k hk => h.pl k (List.mem_of_mem_erase hk), ?_, ?_, h.lz, h.sz, ?_, ?_, h.df, ?_⟩ hst hplan
        · rw [List.length_erase_of_mem hip, List.length_cons]
          have : 0 < pend.length := List.length_pos_of_mem hip
          omega
        · rw [List.length_erase_of_mem hip]; omega
        · intro k hk hc
          rcases List.mem_cons.1 hc with rfl | hc
          · exact (List.Nodup.not_mem_erase h.pn) hk
          · exact h.dj k (List.mem_of_mem_erase hk) hc
        · intro k hk
          rcases List.mem_cons.1 hk with rfl | hk
          · exact hil
          · exact h.vl k hk
        · intro k hk
          rw [h.ls k hk]
          by_cases e : k = i
          · subst e; simp [hip]
          · simp only [List.mem_cons, e, false_or]
            rw [List.mem_erase_of_ne e]
        · intro t ht
          rw [hσ t (fun e => by have := Nat.blt_eq.mp (hs.2.2.2.1 t e); omega)]
          exact h.un t ht
        · intro t ht
          have h1 : dsto ol i ≠ some t := ht i (List.mem_cons_self ..)
          rw [dsto_eq ho] at h1
          rw [hσ t h1]
          exact h.ag t (fun j hj => ht j (List.mem_cons_of_mem _ hj))
        · intro j hj
          rcases List.mem_cons.1 hj with rfl | hj
          · refine ⟨o, σ, σ', H, ho, hfr, fun k hk hc => hprd k hk (List.mem_of_mem_erase hc), h.un, fun t ht => ?_, fun t _ => rfl, hσ, HLe.refl _, hpv⟩
            refine (hσ t (fun e => ?_)).symm
            have := fresh_spec hfr (by rw [dsto_eq ho]; exact e) hil ho (.inl ht)
            exact hprd _ this hip
          · obtain ⟨oj, σ0, σ1, H0, h1, h2, h3, h4, h5, h6, h7, h8, h9⟩ := h.vo j hj
            refine ⟨oj, σ0, σ1, H0, h1, h2, fun k hk hc => h3 k hk (List.mem_of_mem_erase hc), h4, fun t ht => ?_, fun t ht => ?_, h7, h8, h9⟩
            · rw [h5 t ht]
              refine (hσ t (fun e => ?_)).symm
              exact h3 i (fresh_spec hfr (by rw [dsto_eq ho]; exact e) (nth_lt h1) h1 (.inl ht)) hip
            · rw [h6 t ht]
              refine (hσ t (fun e => ?_)).symm
              exact h3 i (fresh_spec hfr (by rw [dsto_eq ho]; exact e) (nth_lt h1) h1 (.inr ⟨hne j hj, ht⟩)) hip
      · refine ⟨fun hr => ?_, fun i hi => ?_⟩
        · have := (ready_ne hsep h hr)
          rw [this.1, this.2] at hf
          simp at hf
        · obtain ⟨o, ho, hl, hpl⟩ := ready_spec hi
          have hil := nth_lt ho
          rcases (h.ls i hil).1 hl with hip | hiv
          · have hs := sep_spec hsep hil ho
            have hnp : ∀ j ∈ preds o, j ∉ pend ∧ j ∉ virt := fun j hj => by
              have h1 := getD_false_of (hpl j hj)
              have hjl : j < ol.length := Nat.lt_trans (hs.2.2.1 j hj) hil
              constructor
              · intro hc; have := (h.ls j hjl).2 (.inl hc); rw [h1] at this; cases this
              · intro hc; have := (h.ls j hjl).2 (.inr hc); rw [h1] at this; cases this
            have hvr : vready ol pend i = true := by
              unfold vready
              rw [ho]
              simp only [List.all_eq_true, Bool.not_eq_true', List.contains_eq_mem, decide_eq_false_iff_not]
              exact fun j hj => (hnp j hj).1
            obtain ⟨o', ho', hT⟩ := hstep i hip hvr
            rw [ho] at ho'
            injection ho' with ho'
            subst ho'
            have hlk := looks_ag h ho hpl
            have hsim := envArr_sim (N := fr.N) h.un
            have hrun := hT ⟨envArr fr.N σ, ds.map mk ++ fr.D⟩ w hsim rfl hst
            have hne : ∀ j ∈ virt, j ≠ i := fun j hj e => h.dj i hip (e ▸ hj)
            refine op_transfer (b := ⟨envArr fr.N σ, ds.map mk ++ fr.D⟩) ho hs.1 hs.2.1 h.sz (by simp [envArr]) (fun t ht => ?_) hrun ?_ ?_ ?_
            · rw [hlk t ht, hsim.val]
            · rintro e c w' he ⟨_, _, _, _, _, _, _, hq⟩
              cases e <;> first | exact he rfl | exact hq.elim
            · rintro d v w' ⟨_, _, _, ds2, _, hdd, _, hq, _⟩
              subst hq
              rw [put_defers'] at hdd
              have := congrArg List.length hdd
              simp at this
            · rintro v w' ⟨σ', H', L', ds2, hs2, hd2, hst2, rfl, hle, hσ, hplan⟩
              refine ihf n (pend.erase i) virt _ σ' H' L' _ w' ?_ ?_ ⟨h.pn.erase i, h.vn, fun k hk => h.dj k (List.mem_of_mem_erase hk), fun k hk => h.pl k (List.mem_of_mem_erase hk), h.vl, ?_, by simp [h.lz], by rw [put_size]; exact h.sz, ?_, ?_, by rw [put_defers']; exact h.df, ?_⟩ hst2 hplan
              · rw [List.length_erase_of_mem hip]
                have : 0 < pend.length := List.length_pos_of_mem hip
                omega
              · rw [List.length_erase_of_mem hip]; omega
              · intro k hk
                rw [set_listed (by rw [h.lz]; exact hk)]
                by_cases e : k = i
                · subst e
                  simp only [if_true]
                  constructor
                  · intro hc; cases hc
                  · rintro (hc | hc)
                    · exact absurd hc (List.Nodup.not_mem_erase h.pn)
                    · exact absurd hc (h.dj k hip)
                · rw [if_neg e, h.ls k hk, List.mem_erase_of_ne e]
              · intro t ht
                rw [hσ t (fun e => by have := Nat.blt_eq.mp (hs.2.2.2.1 t e); omega)]
                exact h.un t ht
              · intro t ht
                rw [put_getD h.sz hs.2.2.2.1]
                by_cases e : o.dst = some t
                · rw [if_pos e]
                  have := hs2.val t
                  rw [put_getD (by simp [envArr]) hs.2.2.2.1, if_pos e] at this
                  exact this
                · rw [if_neg e, hσ t e]
                  exact h.ag t ht
              · intro j hj
                obtain ⟨oj, σ0, σ1, H0, h1, h2, h3, h4, h5, h6, h7, h8, h9⟩ := h.vo j hj
                have hsep' : ∀ t, o.dst = some t → (t ∈ looks ol oj ∨ oj.dst = some t) → False := fun t e hn => by
                  rcases hs.2.2.2.2 t j oj e (hne j hj) (nth_lt h1) h1 hn with h10 | h10
                  · exact h3 i h10 hip
                  · exact (hnp j h10).2 hj
                refine ⟨oj, σ0, σ1, H0, h1, h2, fun k hk hc => h3 k hk (List.mem_of_mem_erase hc), h4, fun t ht => ?_, fun t ht => ?_, h7, h8.trans hle, h9⟩
                · rw [h5 t ht]; exact (hσ t (fun e => hsep' t e (.inl ht))).symm
                · rw [h6 t ht]; exact (hσ t (fun e => hsep' t e (.inr ht))).symm
          · refine exec_virt hsep h hst ho hiv hpl (fun a' w' hi' hst' => ihf (n + 1) pend (virt.erase i) _ σ H L a' w' ?_ hn hi' hst' (.inr hstep))
            rw [List.length_erase_of_mem hiv]
            have : 0 < virt.length := List.length_pos_of_mem hiv
            omega
theorem T.draw {σ : Env} {H : Heap} {L : Own} {id : Nat} {l : List Oper} (hm : fr.P.follows .mixedOrders = true) (hsep : sepOk fr.N l = true)
    (h : Plan fr x l Q ds l.length (List.range l.length) σ H L) : T fr x (.region id l.toArray true) Q σ H L ds := by
  intro a w hs hd hst
  refine wpIn_region_any hm ?_
  have hsz : l.toArray.size = l.length := by simp
  rw [hsz]
  refine Plan.sound hsep l.length l.length (List.range l.length) [] _ σ H L a _ (by simp) (by simp) ⟨List.nodup_range, List.nodup_nil, (fun i _ hc => by cases hc), (fun i hi => List.mem_range.1 hi), (fun i hi => by cases hi), ?_, by simp, hs.size, (fun t ht => by rw [← hs.val t, Array.getD_eq_getD_getElem?, Array.getElem?_eq_none (by rw [hs.size]; exact ht)]; rfl), fun t _ => hs.val t, hd, (fun j hj => by cases hj)⟩ hst.drew h
  intro i hi
  rw [Array.getD_eq_getD_getElem?, Array.getElem?_replicate, if_pos hi]
  simp [hi]
theorem Plan.v {n : Nat} {pend : List Nat} {σ : Env} {H : Heap} {L : Own} {d : Nat} {op : Op} {ty : TypeId} {p : String} {af : Array Edge} {g : Option (Nat × Bool)} {v : Value} (i : Nat) (pend' : List Nat)
    (hi : pend.contains i = true) (he : pend.erase i = pend') (hv : vready ol pend i = true) (hf : freshOk ol i = true) (ho : nth ol i = some ⟨some d, op, ty, p, af, g⟩)
    (hp : PV fr ol ⟨some d, op, ty, p, af, g⟩ σ H ds (upd σ d v)) (h : Plan fr x ol Q ds n pend' (upd σ d v) H L) : Plan fr x ol Q ds (n + 1) pend σ H L :=
  .inl ⟨i, _, _, by simpa using hi, hv, hf, ho, fun t ht => upd_other _ _ _ _ (fun e => ht (by rw [e])), hp, by rw [he]; exact h⟩
theorem Plan.s1 {n : Nat} {pend : List Nat} {σ : Env} {H : Heap} {L : Own} {o : Oper} (i : Nat) (pend' : List Nat) (hr : pend.filter (vready ol pend) = [i]) (he : pend.erase i = pend') (ho : nth ol i = some o)
    (h : TL fr x ol [o] (nextP ds (fun σ' H' L' => HLe H H' ∧ (∀ t, o.dst ≠ some t → σ' t = σ t) ∧ Plan fr x ol Q ds n pend' σ' H' L')) σ H L ds) : Plan fr x ol Q ds (n + 1) pend σ H L :=
  .inr (fun j hj hv => by
    have : j ∈ pend.filter (vready ol pend) := List.mem_filter.2 ⟨hj, hv⟩
    rw [hr] at this
    simp only [List.mem_singleton] at this
    subst this
    exact ⟨o, ho, by rw [he]; exact h⟩)
theorem Plan.s2 {n : Nat} {pend : List Nat} {σ : Env} {H : Heap} {L : Own} {o1 o2 : Oper} (i1 i2 : Nat) (p1 p2 : List Nat) (hr : pend.filter (vready ol pend) = [i1, i2]) (e1 : pend.erase i1 = p1) (e2 : pend.erase i2 = p2) (ho1 : nth ol i1 = some o1) (ho2 : nth ol i2 = some o2)
    (h1 : TL fr x ol [o1] (nextP ds (fun σ' H' L' => HLe H H' ∧ (∀ t, o1.dst ≠ some t → σ' t = σ t) ∧ Plan fr x ol Q ds n p1 σ' H' L')) σ H L ds)
    (h2 : TL fr x ol [o2] (nextP ds (fun σ' H' L' => HLe H H' ∧ (∀ t, o2.dst ≠ some t → σ' t = σ t) ∧ Plan fr x ol Q ds n p2 σ' H' L')) σ H L ds) : Plan fr x ol Q ds (n + 1) pend σ H L :=
  .inr (fun j hj hv => by
    have : j ∈ pend.filter (vready ol pend) := List.mem_filter.2 ⟨hj, hv⟩
    rw [hr] at this
    simp only [List.mem_cons, List.not_mem_nil, or_false] at this
    rcases this with rfl | rfl
    · exact ⟨o1, ho1, by rw [e1]; exact h1⟩
    · exact ⟨o2, ho2, by rw [e2]; exact h2⟩)
theorem Plan.s3 {n : Nat} {pend : List Nat} {σ : Env} {H : Heap} {L : Own} {o1 o2 o3 : Oper} (i1 i2 i3 : Nat) (p1 p2 p3 : List Nat) (hr : pend.filter (vready ol pend) = [i1, i2, i3]) (e1 : pend.erase i1 = p1) (e2 : pend.erase i2 = p2) (e3 : pend.erase i3 = p3) (ho1 : nth ol i1 = some o1) (ho2 : nth ol i2 = some o2) (ho3 : nth ol i3 = some o3)
    (h1 : TL fr x ol [o1] (nextP ds (fun σ' H' L' => HLe H H' ∧ (∀ t, o1.dst ≠ some t → σ' t = σ t) ∧ Plan fr x ol Q ds n p1 σ' H' L')) σ H L ds)
    (h2 : TL fr x ol [o2] (nextP ds (fun σ' H' L' => HLe H H' ∧ (∀ t, o2.dst ≠ some t → σ' t = σ t) ∧ Plan fr x ol Q ds n p2 σ' H' L')) σ H L ds)
    (h3 : TL fr x ol [o3] (nextP ds (fun σ' H' L' => HLe H H' ∧ (∀ t, o3.dst ≠ some t → σ' t = σ t) ∧ Plan fr x ol Q ds n p3 σ' H' L')) σ H L ds) : Plan fr x ol Q ds (n + 1) pend σ H L :=
  .inr (fun j hj hv => by
    have : j ∈ pend.filter (vready ol pend) := List.mem_filter.2 ⟨hj, hv⟩
    rw [hr] at this
    simp only [List.mem_cons, List.not_mem_nil, or_false] at this
    rcases this with rfl | rfl | rfl
    · exact ⟨o1, ho1, by rw [e1]; exact h1⟩
    · exact ⟨o2, ho2, by rw [e2]; exact h2⟩
    · exact ⟨o3, ho3, by rw [e3]; exact h3⟩)
theorem Plan.e1 {n : Nat} {pend : List Nat} {σ : Env} {H H' : Heap} {L' : Own} {d : Nat} {op : Op} {ty : TypeId} {p : String} {af : Array Edge} {g : Option (Nat × Bool)} {v : Value} (hl : HLe H H') (h : Plan fr x ol Q ds n pend (upd σ d v) H' L') :
    nextP ds (fun σ' H' L' => HLe H H' ∧ (∀ t, (⟨some d, op, ty, p, af, g⟩ : Oper).dst ≠ some t → σ' t = σ t) ∧ Plan fr x ol Q ds n pend σ' H' L') .normal (upd σ d v) H' L' ds :=
  ⟨rfl, hl, fun t ht => upd_other _ _ _ _ (fun e => ht (by rw [e])), h⟩
theorem Plan.e0 {n : Nat} {pend : List Nat} {σ : Env} {H H' : Heap} {L' : Own} {op : Op} {ty : TypeId} {p : String} {af : Array Edge} {g : Option (Nat × Bool)} (hl : HLe H H') (h : Plan fr x ol Q ds n pend σ H' L') :
    nextP ds (fun σ' H' L' => HLe H H' ∧ (∀ t, (⟨none, op, ty, p, af, g⟩ : Oper).dst ≠ some t → σ' t = σ t) ∧ Plan fr x ol Q ds n pend σ' H' L') .normal σ H' L' ds :=
  ⟨rfl, hl, fun _ _ => rfl, h⟩
theorem Plan.done {σ : Env} {H : Heap} {L : Own} (h : Q .normal σ H L ds) : Plan fr x ol Q ds 0 [] σ H L := ⟨rfl, h⟩
theorem Plan.set {n : Nat} {pend : List Nat} {σ : Env} {H : Heap} {L : Own} (t : Nat) (v : Value) (hb : σ t = v) (h : Plan fr x ol Q ds n pend (upd σ t v) H L) : Plan fr x ol Q ds n pend σ H L := by
  rwa [upd_self _ _ _ hb] at h
theorem Plan.gsplit {n : Nat} {pend : List Nat} {σ : Env} {H : Heap} {L : Own} (t : Nat) {b : Bool} (hb : σ t = .bool b) (h1 : b = true → Plan fr x ol Q ds n pend (upd σ t (.bool true)) H L) (h2 : b = false → Plan fr x ol Q ds n pend (upd σ t (.bool false)) H L) : Plan fr x ol Q ds n pend σ H L := by
  cases b with
  | true => exact Plan.set t _ hb (h1 rfl)
  | false => exact Plan.set t _ hb (h2 rfl)
theorem Plan.gsplitD {n : Nat} {pend : List Nat} {σ : Env} {H : Heap} {L : Own} (t : Nat) {q : Prop} [Decidable q] (hb : σ t = .bool (decide q)) (h1 : q → Plan fr x ol Q ds n pend (upd σ t (.bool true)) H L) (h2 : ¬q → Plan fr x ol Q ds n pend (upd σ t (.bool false)) H L) : Plan fr x ol Q ds n pend σ H L :=
  Plan.gsplit t hb (fun h => h1 (of_decide_eq_true h)) (fun h => h2 (of_decide_eq_false h))
attribute [irreducible] Plan
end
end Go.SX
namespace Go.SX
open Go
attribute [local semireducible] T TL
def slcV (v : Value) (l h m sz : Nat) : Value := match v with
  | .slice A _ _ => .slice (if m = l then A else A.map (·.add (l * sz))) (h - l) (m - l)
  | v => v
theorem RdS.slc {α : Type} {E : ER α} {H : Heap} {A : Option Addr} {c : Nat} {xs : List α} (hr : RdS E H (.slice A xs.length c) xs) {l h m : Nat} (h1 : l ≤ h) (h2 : h ≤ xs.length) (h3 : h ≤ m) (h4 : m ≤ c) :
    RdS E H (slcV (.slice A xs.length c) l h m E.size) ((xs.take h).drop l) := by
  obtain ⟨A', c', e, h5, h6, h7⟩ := hr
  cases e
  have hlen : ((xs.take h).drop l).length = h - l := by simp; omega
  refine ⟨_, m - l, by rw [hlen]; rfl, by rw [hlen]; omega, by omega, fun i y hy => ?_⟩
  have hi : i < h - l := by rw [← hlen]; exact (List.getElem?_eq_some_iff.1 hy).1
  rw [List.getElem?_drop, List.getElem?_take_of_lt (by omega)] at hy
  obtain ⟨b, o, rfl, he⟩ := h7 _ y hy
  rw [if_neg (by omega)]
  refine ⟨b, o + l * E.size, by simp [Addr.add_lit], ?_⟩
  rw [Nat.add_assoc, ← Nat.add_mul]
  exact he
theorem OwnS.take {α : Type} {E : ER α} {e : TypeId} {H : Heap} {v : Value} {xs : List α} {c : Chunk} (h : OwnS E e H v xs c) {i cap : Nat} (hi : i ≤ xs.length) (hv : ∃ A n, v = .slice A n cap) : OwnS E e H (slcV v 0 i cap E.size) (xs.take i) c := by
  obtain ⟨A, n, hv⟩ := hv
  rcases h with ⟨rfl, rfl, rfl⟩ | ⟨b, cap', cs, rfl, rfl, h3, h4, h5, h6⟩
  · have : i = 0 := by simpa using hi
    subst this
    cases hv
    exact .inl ⟨by simp [slcV], by simp, rfl⟩
  · cases hv
    have hlen : (xs.take i).length = i := by simp; omega
    refine .inr ⟨b, cap, cs, by simp only [slcV, Nat.zero_mul]; rw [hlen]; split <;> simp [Addr.add], rfl, by rw [hlen]; omega, h4, h5, fun k y hy => ?_⟩
    have hk : k < i := by rw [← hlen]; exact (List.getElem?_eq_some_iff.1 hy).1
    rw [List.getElem?_take_of_lt hk] at hy
    exact h6 k y hy
section
variable {fr : Fr} {x : Cx} {Q : Post} {σ : Env} {H : Heap} {L : Own} {ds : List Nat} {ol rest : List Oper}
variable {d : Nat} {ty : TypeId} {p : String} {af : Array Edge} {g : Option (Nat × Bool)}
variable {t e : TypeId} {X lo hi mx : Operand} {A : Option Addr} {n c sz : Nat} {kl kh km : IntKind} {l h m : Int}
theorem R.sH (ht : fr.P.underlying t = some (.slice e)) (hsz : ∀ w, (sizeOf e).run fr.P w = .ok sz w) (hw : wan fr.N ol σ d g = true) (hx : ev σ X = .slice A n c) (hh : ev σ hi = .int kh h)
    (h0 : 0 ≤ h) (h2 : h ≤ c) (hk : TL fr x ol rest Q (upd σ d (slcV (.slice A n c) 0 h.toNat c sz)) H L ds) : TL fr x ol (⟨some d, .slice t X none (some hi) none, ty, p, af, g⟩ :: rest) Q σ H L ds :=
  TL.pureE hw rfl (fun w => by
    have a1 : 0 ≤ h ∧ h ≤ (c : Int) := by omega
    simp [execOp, Instr.sliceAt, run_underlying ht, Instr.slice, Instr.sliceBounds, Instr.sliceBound, asIntOf, hx, hh, a1, hsz, slcV]) hk
theorem R.sL (ht : fr.P.underlying t = some (.slice e)) (hsz : ∀ w, (sizeOf e).run fr.P w = .ok sz w) (hw : wan fr.N ol σ d g = true) (hx : ev σ X = .slice A n c) (hl : ev σ lo = .int kl l)
    (h0 : 0 ≤ l) (h2 : l ≤ n) (hk : TL fr x ol rest Q (upd σ d (slcV (.slice A n c) l.toNat n c sz)) H L ds) : TL fr x ol (⟨some d, .slice t X (some lo) none none, ty, p, af, g⟩ :: rest) Q σ H L ds :=
  TL.pureE hw rfl (fun w => by
    simp [execOp, Instr.sliceAt, run_underlying ht, Instr.slice, Instr.sliceBounds, Instr.sliceBound, asIntOf, hx, hl, h0, h2, hsz, slcV]) hk
theorem R.sHM (ht : fr.P.underlying t = some (.slice e)) (hsz : ∀ w, (sizeOf e).run fr.P w = .ok sz w) (hw : wan fr.N ol σ d g = true) (hx : ev σ X = .slice A n c) (hh : ev σ hi = .int kh h) (hm : ev σ mx = .int km m)
    (h0 : 0 ≤ h) (h1 : h ≤ m) (h2 : m ≤ c) (hk : TL fr x ol rest Q (upd σ d (slcV (.slice A n c) 0 h.toNat m.toNat sz)) H L ds) : TL fr x ol (⟨some d, .slice t X none (some hi) (some mx), ty, p, af, g⟩ :: rest) Q σ H L ds :=
  TL.pureE hw rfl (fun w => by
    have b1 := fun code => run_sliceBound (P := fr.P) w km m c code (by omega) (by omega)
    have b2 := fun code => run_sliceBound (P := fr.P) w kh h m.toNat code h0 (by omega)
    simp [execOp, Instr.sliceAt, run_underlying ht, Instr.slice, Instr.sliceBounds, hx, hh, hm, b1, b2, hsz, slcV]) hk
theorem R.appN {α : Type} {E : ER α} {bytes : Nat} {S : Operand} {xv : Value} {xs ys : List α} {cells : List Value} (hty : TyE fr.P t e E bytes) (hw : wan fr.N ol σ d g = true)
    (hs : ev σ S = .slice A xs.length xs.length) (hx : ev σ X = xv) (hr : RdS E H (.slice A xs.length xs.length) xs) (hsrc : Src H L xv ys.length cells) (hys : CellsOf E H cells ys) (hy0 : ys ≠ [])
    (h63 : xs.length + ys.length ≤ 4611686018427387904) (hby : (xs.length + ys.length) * bytes ≤ 140737488355328)
    (hk : ∀ v' c', OwnS E e H v' (xs ++ ys) c' → TL fr x ol rest Q (upd σ d v') H (c' :: L) ds) :
    TL fr x ol (⟨some d, .call { callee := .builtin .append, args := #[S, X], argTypes := #[t, t] }, ty, p, af, g⟩ :: rest) Q σ H L ds := by
  obtain ⟨ht, ⟨i, z, hi, hz, hsize, hbytes, hzs⟩, hpos⟩ := hty
  refine TL.value hw rfl (fun w hst => ?_)
  have hex : (execOp (ev σ) ⟨some d, .call { callee := .builtin .append, args := #[S, X], argTypes := #[t, t] }, ty, p, af, g⟩) = (do pure (Next.value (← Builtin.append_ #[t, t] ty #[.slice A xs.length xs.length, xv]))) := by
    simp [execOp, resolve, invoke, builtin, hs, hx]
  rw [hex]
  obtain ⟨AX, cx, rfl, hA, hcell⟩ := hsrc
  have hlen := hys.length
  have hmax : xs.length + ys.length ≤ maxLen := by unfold maxLen; omega
  have hylen : 0 < ys.length := by cases ys with | nil => exact absurd rfl hy0 | cons _ _ => simp
  have hne : cells ≠ [] := by
    intro e
    rw [e] at hlen
    simp only [List.length_nil] at hlen
    have := Nat.mul_pos hylen hpos
    omega
  obtain ⟨sb, so, rfl⟩ := hA.resolve_left hne
  have hnews : ∀ j u, cells[j]? = some u → w.cell? ((⟨sb, so, none⟩ : Addr).add j) = some u := fun j u hj => by rw [Addr.add_lit]; exact hcell sb so rfl _ w hst.sat j u hj
  have hnl : cells.length = ys.length * i.size := by rw [hsize]; exact hlen
  obtain ⟨old, hold, hsrc0⟩ := Src.rd (L := L) hr
  obtain ⟨A0, c0, e0, hA0, hc0⟩ := hsrc0
  cases e0
  have hol := hold.length
  have hns : Builtin.nextslicecap (xs.length + ys.length) xs.length * i.bytes ≤ 281474976710656 := by
    have h1 : Builtin.nextslicecap (xs.length + ys.length) xs.length ≤ 2 * (xs.length + ys.length) := nextslicecap_le (by omega)
    rw [hbytes]
    calc Builtin.nextslicecap (xs.length + ys.length) xs.length * bytes ≤ 2 * (xs.length + ys.length) * bytes := Nat.mul_le_mul_right _ h1
      _ ≤ 281474976710656 := by rw [Nat.mul_assoc]; omega
  have hge := grownCap_ge w (xs.length + ys.length) xs.length e
  have hcm := grownCap_le_maxLen w (xs.length + ys.length) xs.length e hmax
  have hrun : (Builtin.append_ #[t, t] ty #[.slice A xs.length xs.length, .slice (some ⟨sb, so, none⟩) ys.length cx]).run fr.P w =
      .ok (.slice (some ⟨w.heap.size, 0, none⟩) (xs.length + ys.length) (grownCap w (xs.length + ys.length) xs.length e))
        (w.drew.alloc (.cells (old.toArray ++ cells.toArray ++ Builtin.zeroCells z.cells (grownCap w (xs.length + ys.length) xs.length e - (xs.length + ys.length))) e)) := by
    rcases hA0 with rfl | ⟨b, o, rfl⟩
    · have h0 : xs = [] := by
        cases xs with
        | nil => rfl
        | cons a r => exact absurd hol.symm (Nat.ne_of_gt (Nat.mul_pos (Nat.succ_pos r.length) hpos))
      subst h0
      cases A with
      | none =>
        have := run_append_nil (P := fr.P) w t ty e i z ht hi hz ⟨sb, so, none⟩ ys.length cx cells hnl hnews hylen (by simp at h63; omega) (by rw [hbytes]; simp at hby; omega)
        simpa using this
      | some ad =>
        have := run_append_grow (P := fr.P) w t ty e i z ht hi hz ad 0 0 [] (by simp) (fun j u hj => by simp at hj) ⟨sb, so, none⟩ ys.length cx cells hnl hnews (by omega) (by simp at h63; omega) (by simpa using hns)
        simpa using this
    · exact run_append_grow (P := fr.P) w t ty e i z ht hi hz ⟨b, o, none⟩ xs.length xs.length old (by rw [hsize]; exact hol) (fun j u hj => by rw [Addr.add_lit]; exact hc0 b o rfl _ w hst.sat j u hj) ⟨sb, so, none⟩ ys.length cx cells hnl hnews (by omega) (by omega) hns
  refine ⟨_, _, H, [(w.heap.size, .cells (old.toArray ++ cells.toArray ++ Builtin.zeroCells z.cells (grownCap w (xs.length + ys.length) xs.length e - (xs.length + ys.length))) e)] :: L, k_af hrun, ?_, hk _ _ ?_⟩
  · have h1 := hst.drew.alloc (.cells (old.toArray ++ cells.toArray ++ Builtin.zeroCells z.cells (grownCap w (xs.length + ys.length) xs.length e - (xs.length + ys.length))) e)
    simpa using h1
  · refine own_after hold hys (fun j u hj => ?_) _ _ hge hcm (by
      simp only [Array.size_append, List.size_toArray, k_b7, hzs, hlen, hol, ← Nat.add_mul]
      refine Nat.le_of_eq ?_
      congr 1
      omega)
    have hlt := (List.getElem?_eq_some_iff.1 hj).1
    rw [Array.getElem?_append_left (by simpa using hlt)]
    simpa using hj
theorem R.mks {α : Type} {E : ER α} {bytes : Nat} {z0 : α} {zc : List Value} {N C : Operand} {q : Nat} {kn kc : IntKind} (hty : TyE fr.P t e E bytes) (hz : ∀ i z, fr.P.info? e = some i → i.zero = some z → z.cells.toList = zc) (hz0 : ∀ H, E.R H zc z0) (hw : wan fr.N ol σ d g = true)
    (hn : ev σ N = .int kn (q : Nat)) (hc : ev σ C = .int kc (q : Nat)) (hq : q ≤ 4611686018427387904) (hby : bytes * q ≤ 281474976710656)
    (hk : ∀ v' c', OwnS E e H v' (List.replicate q z0) c' → TL fr x ol rest Q (upd σ d v') H (c' :: L) ds) :
    TL fr x ol (⟨some d, .makeSlice t N C, ty, p, af, g⟩ :: rest) Q σ H L ds := by
  obtain ⟨ht, ⟨i, z, hi, hzz, hsize, hbytes, hzs⟩, hpos⟩ := hty
  refine TL.value hw rfl (fun w hst => ?_)
  have hrun := run_make (P := fr.P) w t e i z ht hi hzz kn kc (q : Int) (q : Int) (by omega) (by omega) (by
    rw [hbytes]
    have : ((bytes * q : Nat) : Int) ≤ 281474976710656 := by omega
    rwa [Int.natCast_mul] at this) (by omega)
  simp only [Int.toNat_natCast] at hrun
  refine ⟨.slice (some ⟨w.heap.size, 0, none⟩) q q, w.alloc (.cells (madeCells z.cells (q * i.size)) e), H, [(w.heap.size, .cells (madeCells z.cells (q * i.size)) e)] :: L, ?_, ?_, hk (.slice (some ⟨w.heap.size, 0, none⟩) q q) _ ?_⟩
  · simp only [execOp, hn, hc]
    exact k_af hrun
  · have h2 := hst.alloc (.cells (madeCells z.cells (q * i.size)) e)
    simpa using h2
  · have hzc := hz i z hi hzz
    refine .inr ⟨w.heap.size, q, madeCells z.cells (q * i.size), by simp, rfl, by simp, by unfold maxLen; omega, by rw [size_madeCells, hsize]; exact Nat.le_refl _, fun j y hy => ?_⟩
    have hjq : j < q := by have := (List.getElem?_eq_some_iff.1 hy).1; simpa using this
    rw [List.getElem?_replicate, if_pos hjq] at hy
    injection hy with hy
    subst hy
    refine ⟨zc, hz0 H, fun r u hr => ?_⟩
    have hrl : r < E.size := by rw [← E.len (hz0 H)]; exact (List.getElem?_eq_some_iff.1 hr).1
    have hlt : j * E.size + r < q * i.size := by
      rw [hsize]
      calc j * E.size + r < j * E.size + E.size := by omega
        _ = (j + 1) * E.size := by rw [Nat.add_mul, Nat.one_mul]
        _ ≤ q * E.size := Nat.mul_le_mul_right _ hjq
    unfold madeCells
    rw [Array.getElem?_map, Array.getElem?_range, if_pos hlt]
    simp only [Option.map_some]
    rw [hzs, Nat.mul_comm, Nat.mul_add_mod, Nat.mod_eq_of_lt hrl]
    have : z.cells[r]? = some u := by rw [← Array.getElem?_toList, hzc]; exact hr
    rw [getElem!_pos z.cells r (by rw [hzs]; exact hrl)]
    rw [Array.getElem?_eq_getElem (by rw [hzs]; exact hrl)] at this
    exact this
theorem R.copy {α : Type} {E : ER α} {bytes : Nat} {S : Operand} {v xv : Value} {xs ys : List α} {ch : Chunk} {R : Own} {cells : List Value} {t2 : TypeId} (hty : TyE fr.P t e E bytes) (hw : wants ol σ g = true) {dd : Option Nat} (hdd : ∀ q, dd = some q → Nat.blt q fr.N = true)
    (hs : ev σ S = v) (hx : ev σ X = xv) (hown : OwnS E e H v xs ch) (hdel : Del L ch R) (hsrc : Src H L xv ys.length cells) (hys : CellsOf E H cells ys) (hlen : ys.length = xs.length)
    (hk : ∀ c', OwnS E e H v ys c' → TL fr x ol rest Q (match dd with | some q => upd σ q (.int .i64 xs.length) | none => σ) H (c' :: R) ds) :
    TL fr x ol (⟨dd, .call { callee := .builtin .copy, args := #[S, X], argTypes := #[t, t2] }, ty, p, af, g⟩ :: rest) Q σ H L ds := by
  obtain ⟨ht, ⟨i, z, hi, hzz, hsize, hbytes, hzs⟩, hpos⟩ := hty
  intro a w hsim hd hst
  have hst1 : St x H (ch ++ (R.flatten ++ hid fr.rd ds)) w := hst.perm (by rw [← List.append_assoc]; exact hdel.perm.append_right _)
  obtain ⟨AX, cx, rfl, hA, hcell⟩ := hsrc
  have hcl := hys.length
  have hfirst : (Builtin.firstCells E.size ys.length (.slice AX ys.length cx)).run fr.P w = .ok cells.toArray w := by
    rcases hA with rfl | ⟨sb, so, rfl⟩
    · have h0 : ys.length * E.size = 0 := by rw [← hcl]; rfl
      have h1 : ys.length = 0 := by rcases Nat.mul_eq_zero.1 h0 with h | h <;> omega
      cases AX <;> simp [Builtin.firstCells, h1, loadCells, loadCellsFrom]
    · exact run_firstCells_some w E.size ys.length ⟨sb, so, none⟩ ys.length cx cells hcl (fun j u hj => by rw [Addr.add_lit]; exact hcell sb so rfl _ w hst.sat j u hj)
  have hszr : ∀ w, (sizeOf e).run fr.P w = .ok E.size w := fun w => by simp [sizeOf, typeInfo, hi, hsize]
  unfold wpLo
  rw [if_pos (k_a9 hsim hw)]
  refine ⟨fun f _ => fenceFn _ f, ?_⟩
  rw [k_b0 rfl, hsim.eval]
  have hex : (execOp (ev σ) ⟨dd, .call { callee := .builtin .copy, args := #[S, X], argTypes := #[t, t2] }, ty, p, af, g⟩) = (do pure (Next.value (← Builtin.copy_ #[t, t2] ty #[v, .slice AX ys.length cx]))) := by
    simp [execOp, resolve, invoke, builtin, hs, hx]
  rw [hex]
  have fin : ∀ (c' : Chunk) (w' : World), OwnS E e H v ys c' → St x H (c' ++ (R.flatten ++ hid fr.rd ds)) w' → wpLo (fence fr.rd) fr.P ol.toArray (lift fr x Q) rest (a.put dd (.int .i64 xs.length)) w' := by
    intro c' w' ho h2
    have hk' := hk c' ho
    cases dd with
    | none => exact hk' a w' hsim hd (by simpa using h2)
    | some q => exact hk' _ w' (hsim.putA q _ (hdd q rfl)) hd (by simpa using h2)
  rcases hown with ⟨rfl, rfl, rfl⟩ | ⟨b, cap, cs, rfl, rfl, h3, h4, h5, h6⟩
  · have hy : ys = [] := List.length_eq_zero_iff.1 (by simpa using hlen)
    subst hy
    have hrun : (Builtin.copy_ #[t, t2] ty #[.slice none 0 0, .slice AX 0 cx]).run fr.P w = .ok (.int .i64 0) w := by
      simp only [List.length_nil] at hfirst
      simp [Builtin.copy_, run_underlying ht, Builtin.lenOf, hszr, hfirst, goInt]
    simp only [List.length_nil] at fin ⊢
    rw [k_af hrun]
    exact fin [] w (.inl ⟨rfl, rfl, rfl⟩) hst1
  · have hb := hst1.sat.l (b, .cells cs e) (List.mem_append_left _ (List.mem_singleton.2 rfl))
    simp only at hb
    have hfit : 0 + 0 + cells.length ≤ cs.size := by
      rw [hcl, hlen]; simp only [Nat.zero_add]; exact Nat.le_trans (Nat.mul_le_mul_right _ h3) h5
    have hstore := run_storeCells_at fr.P b 0 e cells 0 cs w hb hfit hys.one
    simp only [Nat.zero_add, List.take_zero, List.nil_append] at hstore
    have hrun : (Builtin.copy_ #[t, t2] ty #[.slice (some ⟨b, 0, none⟩) xs.length cap, .slice AX ys.length cx]).run fr.P w = .ok (.int .i64 xs.length) (w.setRow b (cells ++ cs.toList.drop cells.length).toArray) := by
      rw [hlen] at hfirst ⊢
      simp [Builtin.copy_, run_underlying ht, Builtin.lenOf, hszr, hfirst, hstore, goInt]
    rw [k_af hrun]
    have hcs : (cells ++ cs.toList.drop cells.length).length = cs.size := by
      have := hfit
      simp only [List.length_append, List.length_drop, Array.length_toList]; omega
    refine fin [(b, .cells (cells ++ cs.toList.drop cells.length).toArray e)] _ ?_ ?_
    · refine .inr ⟨b, cap, _, by rw [hlen], rfl, by omega, h4, by rw [List.size_toArray, hcs]; exact h5, fun j y hy => ?_⟩
      obtain ⟨l, h7, h8⟩ := hys.get j y hy
      refine ⟨l, h7, fun r u hr => ?_⟩
      have h9 := h8 r u hr
      rw [List.getElem?_toArray, List.getElem?_append_left (List.getElem?_eq_some_iff.1 h9).1]
      exact h9
    · refine hst1.turn (o' := .cells (cells ++ cs.toList.drop cells.length).toArray e) rfl rfl rfl (by simp [World.setRow]) (by simp only [World.setRow]; rw [Array.getElem?_modify, if_pos rfl, hb]; rfl) (fun c hc => by
        simp only [World.setRow, Array.getElem?_modify]
        rw [if_neg (fun e => hc e.symm)])
end
end Go.SX
namespace Go.SX
open Go
attribute [local semireducible] T TL
theorem RdS.lit {α : Type} {E : ER α} {H : Heap} {b : Nat} {cs : List Value} {e : TypeId} {xs : List α} (hb : H b = some (.cells cs.toArray e)) (hc : CellsOf E H cs xs) (hl : xs.length ≤ maxLen) : RdS E H (.slice (some ⟨b, 0, none⟩) xs.length xs.length) xs := by
  refine ⟨_, xs.length, rfl, Nat.le_refl _, hl, fun i x hx => ⟨b, 0, rfl, ?_⟩⟩
  obtain ⟨l, h1, h2⟩ := hc.get i x hx
  refine ⟨l, h1, fun j v hj => ?_⟩
  unfold cellAt
  rw [hb, Nat.zero_add]
  simp only [List.getElem?_toArray]
  exact h2 j v hj
theorem RdS.lit2 {H : Heap} {b : Nat} {k : IntKind} {x y : Int} {e : TypeId} (hb : ∀ q ∈ [(b, Obj.cells #[.int k x, .int k y] e)], H q.1 = some q.2) : RdS (intE k) H (.slice (some ⟨b, 0, none⟩) 2 2) [x, y] :=
  RdS.lit (cs := [.int k x, .int k y]) (xs := [x, y]) (hb _ (List.mem_singleton.2 rfl)) ⟨[.int k x], [.int k y], rfl, rfl, [.int k y], [], rfl, rfl, rfl⟩ (by unfold maxLen; simp)
theorem shut1 {H : Heap} {b : Nat} {o : Obj} (h : ∀ q ∈ [(b, o)], H q.1 = some q.2) : H b = some o := h _ (List.mem_singleton.2 rfl)
def idx : Nat → List Value → List (Nat × Value)
  | _, [] => []
  | i, v :: r => (i, v) :: idx (i + 1) r
theorem fill_idx : ∀ (vs : List Value) (k : Nat) (pre rest : List Value), pre.length = k → vs.length ≤ rest.length → (∀ v ∈ vs, v.oneCell' = true) →
    Instr.fill (fun i => some (i * 1, 1)) (pre ++ rest).toArray (idx k vs) = some (pre ++ vs ++ rest.drop vs.length).toArray
  | [], k, pre, rest, _, _, _ => by simp [idx, Instr.fill]
  | v :: vs, k, pre, [], _, h, _ => by simp at h
  | v :: vs, k, pre, r :: rest, hk, h, h1 => by
    have h1v := h1 v (List.mem_cons_self ..)
    have hcv : v.cells = #[v] := by cases v <;> first | rfl | cases h1v
    have hset : (pre ++ r :: rest).set k v = pre ++ v :: rest := by
      rw [List.set_append_right _ _ (by omega), hk, Nat.sub_self]; rfl
    have ih := fill_idx vs (k + 1) (pre ++ [v]) rest (by simp [hk]) (by simpa using h) (fun u hu => h1 u (List.mem_cons_of_mem _ hu))
    simp only [List.append_assoc, List.singleton_append] at ih
    have e1 : (#[v] : Array Value).zipIdx.foldl (fun cs (q : Value × Nat) => cs.setIfInBounds (k * 1 + q.2) q.1) (pre ++ r :: rest).toArray = (pre ++ v :: rest).toArray := by simp [hset]
    have hsz : ¬ ((#[v] : Array Value).size ≠ 1 ∨ k * 1 + (#[v] : Array Value).size > (pre ++ r :: rest).toArray.size) := by
      simp only [List.size_toArray, List.length_append, List.length_cons, List.length_nil]; omega
    have hsz' : ((decide ((#[v] : Array Value).size ≠ 1)) || decide (k * 1 + (#[v] : Array Value).size > (pre ++ r :: rest).toArray.size)) = false := by
      rw [Bool.or_eq_false_iff]; exact ⟨decide_eq_false fun h => hsz (.inl h), decide_eq_false fun h => hsz (.inr h)⟩
    simp only [idx, Instr.fill, hcv]
    rw [if_neg (by first | exact hsz | (rw [hsz']; simp))]
    refine Eq.trans (congrArg (fun c => Instr.fill (fun i => some (i * 1, 1)) c (idx (k + 1) vs)) e1) ?_
    rw [ih]
    simp
theorem run_bsN {P : Program} {t e : TypeId} {z : Value} {vs : List Value} (ht : P.underlying t = some (.slice e)) (hsz : ∀ w, (sizeOf e).run P w = .ok 1 w) (hz : ∀ w, (zeroValue e).run P w = .ok z w) (hz1 : z.oneCell' = true) (h1 : vs.all (fun v => v.oneCell') = true) (hn : Nat.ble vs.length 1000 = true) (h0 : vs.length ≠ 0) (w : World) :
    (Instr.buildSlice t vs.length (idx 0 vs).toArray).run P w = .ok (.slice (some ⟨w.heap.size, 0, none⟩) vs.length vs.length) (w.alloc (.cells vs.toArray e)) := by
  have hcz : z.cells = #[z] := by cases z <;> first | rfl | cases hz1
  have hn' := Nat.le_of_ble_eq_true hn
  have hf := fill_idx vs 0 [] ((List.range vs.length).map (fun _ => z)) rfl (by simp) (by simpa using h1)
  simp only [List.nil_append, List.map_const', List.length_range, List.drop_replicate, Nat.sub_self, List.replicate_zero, List.append_nil] at hf
  have hb : ¬ 16777216 < vs.length := by omega
  have hzs : (Array.range vs.length).map (fun x => [z][x % 1]?.getD default) = (List.replicate vs.length z).toArray := by
    refine Array.ext (by simp) (fun i h1 h2 => ?_)
    simp [Nat.mod_one]
  have hf' := hf
  simp only [Nat.mul_one] at hf'
  rw [show (List.replicate vs.length z).toArray = Array.replicate vs.length z by simp] at hf'
  simp [Instr.buildSlice, run_underlying ht, hsz, hz, hcz, newRow, hb, h0, hzs, hf']
section
variable {fr : Fr} {x : Cx} {Q : Post} {σ : Env} {H : Heap} {L : Own} {ds : List Nat} {ol rest : List Oper}
variable {d : Nat} {ty : TypeId} {p : String} {af : Array Edge} {g : Option (Nat × Bool)}
theorem R.bsN {t e : TypeId} {n : Nat} {ps : List (Nat × Operand)} {z : Value} (vs : List Value) (hw : wan fr.N ol σ d g = true)
    (ht : fr.P.underlying t = some (.slice e)) (hsz : ∀ w, (sizeOf e).run fr.P w = .ok 1 w) (hz : ∀ w, (zeroValue e).run fr.P w = .ok z w) (hz1 : z.oneCell' = true) (hps : ps.map (fun q => (q.1, ev σ q.2)) = idx 0 vs) (hn : vs.length = n) (h1 : vs.all (fun v => v.oneCell') = true) (hb : Nat.ble vs.length 1000 = true) (h0 : Nat.beq vs.length 0 = false)
    (h : ∀ b, TL fr x ol rest Q (upd σ d (.slice (some ⟨b, 0, none⟩) n n)) H ([(b, .cells vs.toArray e)] :: L) ds) : TL fr x ol (⟨some d, .buildSlice t n ps.toArray, ty, p, af, g⟩ :: rest) Q σ H L ds := by
  subst hn
  refine R.bs hw (fun w => ?_) h
  rw [hps]
  exact run_bsN ht hsz hz hz1 h1 hb (fun e => by rw [e] at h0; cases h0) w
theorem R.bld {t : TypeId} {ps : List (Nat × Operand)} {cs : List Value} (hw : wan fr.N ol σ d g = true)
    (hrun : ∀ w, (Instr.build t ((ps.map (fun q => (q.1, ev σ q.2))).toArray)).run fr.P w = .ok (.agg cs.toArray) w)
    (h : TL fr x ol rest Q (upd σ d (.agg cs.toArray)) H L ds) : TL fr x ol (⟨some d, .build t ps.toArray, ty, p, af, g⟩ :: rest) Q σ H L ds := by
  refine TL.pureE hw rfl (fun w => ?_) h
  simp only [execOp, List.map_toArray]
  simp [hrun]
theorem R.ixA {t e : TypeId} {X I : Operand} {b o n sz : Nat} {k : IntKind} {i : Int} (ht : fr.P.underlying t = some (.array n e)) (hsz : ∀ w, (sizeOf e).run fr.P w = .ok sz w)
    (hw : wan fr.N ol σ d g = true) (hv : ev σ X = .pointer (some ⟨b, o, none⟩)) (hi : ev σ I = .int k i) (h0 : 0 ≤ i) (hlt : i < n)
    (h : TL fr x ol rest Q (upd σ d (.pointer (some ⟨b, o + i.toNat * sz, none⟩))) H L ds) : TL fr x ol (⟨some d, .indexAddr t X I, ty, p, af, g⟩ :: rest) Q σ H L ds := by
  refine TL.pureE hw rfl (fun w => ?_) h
  simp [execOp, Instr.indexAt, hv, hi, asIntOf, run_underlying ht, h0, hlt, hsz, Instr.sureAddr, Addr.add_lit]
theorem R.fldA {t : TypeId} {fs : Array Field} {f : Field} {X : Operand} {b o i sz : Nat} (ht : fr.P.underlying t = some (.struct fs)) (hf : fs[i]? = some f) (hsz : ∀ w, (sizeOf f.type).run fr.P w = .ok sz w) (hs0 : sz ≠ 0)
    (hw : wan fr.N ol σ d g = true) (hv : ev σ X = .pointer (some ⟨b, o, none⟩))
    (h : TL fr x ol rest Q (upd σ d (.pointer (some ⟨b, o + f.offset, none⟩))) H L ds) : TL fr x ol (⟨some d, .fieldAddr t X i, ty, p, af, g⟩ :: rest) Q σ H L ds := by
  refine TL.pureE hw rfl (fun w => ?_) h
  simp [execOp, Instr.fieldAt, hv, run_underlying ht, hf, Instr.sureAddr, fieldPlace, hsz, hs0, Addr.add_lit]
theorem R.stA {t : TypeId} {A X : Operand} {b n : Nat} {old new : List Value} {et : TypeId} {L' : Own} (hsz : ∀ w, (sizeOf t).run fr.P w = .ok n w) (hw : wants ol σ g = true) (ha : ev σ A = .pointer (some ⟨b, 0, none⟩)) (hx : ev σ X = .agg new.toArray)
    (hn : new.length = n) (ho : old.length = n) (h1 : ∀ v ∈ new, v.oneCell' = true)
    (hrep : Rep L [(b, .cells old.toArray et)] [(b, .cells new.toArray et)] L') (h : TL fr x ol rest Q σ H L' ds) :
    TL fr x ol (⟨none, .store t A X, ty, p, af, g⟩ :: rest) Q σ H L ds := by
  intro a w hs hd hst
  obtain ⟨R, hp1, hp2⟩ := hrep.perm
  have hst1 : St x H ((b, .cells old.toArray et) :: (R ++ hid fr.rd ds)) w := hst.perm (by
    have := hp1.append_right (hid fr.rd ds)
    simpa using this)
  have hb := hst1.sat.l (b, .cells old.toArray et) (List.mem_cons_self ..)
  simp only at hb
  have hstore := run_storeCells_at fr.P b 0 et new 0 old.toArray w hb (by simp; omega) h1
  have hrow : (old.toArray.toList.take (0 + 0) ++ new ++ old.toArray.toList.drop (0 + 0 + new.length)) = new := by
    simp; omega
  rw [hrow] at hstore
  have hst2 : St x H ((b, .cells new.toArray et) :: (R ++ hid fr.rd ds)) (w.setRow b new.toArray) := hst1.turn rfl rfl rfl (by simp [World.setRow]) (by simp only [World.setRow]; rw [Array.getElem?_modify, if_pos rfl, hb]; rfl) (fun c hc => by
    simp only [World.setRow, Array.getElem?_modify]
    rw [if_neg (fun e => hc e.symm)])
  have hst3 : St x H (L'.flatten ++ hid fr.rd ds) (w.setRow b new.toArray) := hst2.perm (by
    have := (hp2.append_right (hid fr.rd ds)).symm
    simpa using this)
  unfold wpLo
  rw [if_pos (k_a9 hs hw)]
  refine ⟨fun f _ => fenceFn _ f, ?_⟩
  rw [k_b0 rfl, hs.eval]
  have hrun : (execOp (ev σ) ⟨none, .store t A X, ty, p, af, g⟩).run fr.P w = .ok .skip (w.setRow b new.toArray) := by
    simp [execOp, Instr.storeAt, Instr.sureAddr, storeVar, ha, hx, hsz, Value.cells, hn, hstore]
  rw [hrun]
  exact h _ _ hs hd hst3
theorem R.ldAH {t : TypeId} {A : Operand} {b n : Nat} {cs : List Value} {et : TypeId} (hagg : ∀ w, (isAgg t).run fr.P w = .ok true w) (hsz : ∀ w, (sizeOf t).run fr.P w = .ok n w) (hw : wan fr.N ol σ d g = true) (ha : ev σ A = .pointer (some ⟨b, 0, none⟩))
    (hn : cs.length = n) (hin : H b = some (.cells cs.toArray et)) (h : TL fr x ol rest Q (upd σ d (.agg cs.toArray)) H L ds) : TL fr x ol (⟨some d, .load t A, ty, p, af, g⟩ :: rest) Q σ H L ds :=
  TL.value hw rfl (fun w hst => by
    have hb := hst.sat.h b _ hin
    have hl := run_loadCells_list (P := fr.P) w ⟨b, 0, none⟩ cs (fun j u hj => by rw [Addr.add_lit, Nat.zero_add]; exact k_5a hb (by simpa using hj))
    rw [hn] at hl
    exact ⟨_, w, H, L, by simp [execOp, Instr.loadAt, Instr.sureAddr, loadVar, ha, hagg, hsz, hl], hst, h⟩)
end
end Go.SX
namespace Go.SX
open Go
attribute [local semireducible] T TL
theorem yl_none {N : Nat} {ol : List Oper} {σ : Env} {a : Act} (hs : Sim N σ a.tmps) {j : Nat} (h : yl ol σ j = none) : yielded ol.toArray a.tmps j = none := by
  cases hy : yielded ol.toArray a.tmps j with
  | none => rfl
  | some b =>
    unfold yielded at hy
    unfold yl at h
    rw [List.getElem?_toArray, ← nth_eq] at hy
    cases hn : nth ol j with
    | none => rw [hn] at hy; simp at hy
    | some o =>
      rw [hn] at hy h
      simp only [Option.bind_some] at hy h
      cases hd : o.dst with
      | none => rw [hd] at hy; simp at hy
      | some t =>
        rw [hd] at hy h
        simp only [Option.bind_some] at hy h
        rw [← hs.val t] at h
        cases hv : a.tmps[t]? with
        | none => rw [hv] at hy; simp at hy
        | some v =>
          rw [Array.getD_eq_getD_getElem?, hv] at h
          rw [hv] at hy
          cases v <;> simp_all
section
variable {fr : Fr} {x : Cx} {Q : Post} {σ : Env} {H : Heap} {L : Own} {ds : List Nat} {ol rest : List Oper}
theorem TL.offU {d : Nat} {op : Op} {ty : TypeId} {p : String} {af : Array Edge} {j : Nat} {b : Bool} (hdN : Nat.blt d fr.N = true) (hy : yl ol σ j = none)
    (h : TL fr x ol rest Q (upd σ d undef) H L ds) : TL fr x ol (⟨some d, op, ty, p, af, some (j, b)⟩ :: rest) Q σ H L ds := by
  intro a w hs hd hst
  unfold wpLo
  have : Region.wanted (⟨some d, op, ty, p, af, some (j, b)⟩ : Oper) (yielded ol.toArray a.tmps) = false := by
    unfold Region.wanted; simp only [yl_none hs hy]; rfl
  rw [if_neg (by rw [this]; simp)]
  exact ⟨fun f _ => fenceFn _ f, h _ w (hs.putA d undef hdN) hd hst⟩
end
section
variable {fr : Fr} {x : Cx} {Q : Post} {σ : Env} {H : Heap} {L : Own} {ds : List Nat}
theorem T.cut {ι : Type} {a b : Code} (I : ι → Heap → Own → List Nat → Prop) (sl : ι → List (Nat × Value))
    (h : T fr x a (Post.thn (fun σ' H' L' ds' => ∃ i, HLe H H' ∧ I i H' L' ds' ∧ Slots σ' (sl i)) Q) σ H L ds)
    (k : ∀ i σ' H' L' ds', HLe H H' → I i H' L' ds' → T fr x b Q (chain σ' (sl i)) H' L' ds') : T fr x (.seq a b) Q σ H L ds := by
  refine T.seq (T.mono h ?_)
  intro e σ' H' L' ds' hq
  cases e with
  | normal =>
    obtain ⟨i, h1, h2, h3⟩ := hq
    have := k i σ' H' L' ds' h1 h2
    rw [h3.chain] at this
    exact this
  | _ => exact hq
end
section
variable {fr : Fr} {x : Cx} {Q : Post} {σ : Env} {H : Heap} {L : Own} {ds : List Nat} {ol rest : List Oper}
variable {d : Nat} {ty : TypeId} {p : String} {af : Array Edge} {g : Option (Nat × Bool)}
theorem T.nilc {c : Code} (h : T fr x c Q σ H ([] :: L) ds) : T fr x c Q σ H L ds := fun a w hs hd hst => h a w hs hd (by simpa using hst)
theorem TL.nilc {l : List Oper} (h : TL fr x ol l Q σ H ([] :: L) ds) : TL fr x ol l Q σ H L ds := fun a w hs hd hst => h a w hs hd (by simpa using hst)
theorem R.mvE {X : Operand} {v : Value} (hw : wan fr.N ol σ d g = true) (hv : ev σ X = v) (h : TL fr x ol rest Q (upd σ d v) H L ds) : TL fr x ol (⟨some d, .move X, ty, p, af, g⟩ :: rest) Q σ H L ds := by
  subst hv; exact R.mv hw h
theorem R.asE {X : Operand} {v : Value} (hw : wan fr.N ol σ d g = true) (hv : ev σ X = v) (h : TL fr x ol rest Q (upd σ d v) H L ds) : TL fr x ol (⟨some d, .assign X, ty, p, af, g⟩ :: rest) Q σ H L ds := by
  subst hv; exact R.as hw h
theorem R.pkTE {X Y Z : Operand} {v : Value} (hw : wan fr.N ol σ d g = true) (hx : ev σ X = .bool true) (hv : ev σ Y = v) (h : TL fr x ol rest Q (upd σ d v) H L ds) : TL fr x ol (⟨some d, .pick X Y Z, ty, p, af, g⟩ :: rest) Q σ H L ds := by
  subst hv; exact R.pkT hw hx h
theorem R.pkFE {X Y Z : Operand} {v : Value} (hw : wan fr.N ol σ d g = true) (hx : ev σ X = .bool false) (hv : ev σ Z = v) (h : TL fr x ol rest Q (upd σ d v) H L ds) : TL fr x ol (⟨some d, .pick X Y Z, ty, p, af, g⟩ :: rest) Q σ H L ds := by
  subst hv; exact R.pkF hw hx h
theorem R.nilS {X Y : Operand} {t e yt : TypeId} {A : Option Addr} {n c : Nat} (ht : fr.P.underlying t = some (.slice e)) (hw : wan fr.N ol σ d g = true) (hx : ev σ X = .slice A n c) (hy : ev σ Y = .slice none 0 0)
    (h : TL fr x ol rest Q (upd σ d (.bool A.isNone)) H L ds) : TL fr x ol (⟨some d, .binOp .eql t X Y yt, ty, p, af, g⟩ :: rest) Q σ H L ds :=
  TL.pureE hw rfl (fun w => by simp [execOp, eqGuard, hx, hy, binOp, run_equal_slice_nil w t e A n c ht]) h
theorem R.bs0 {α : Type} {E : ER α} {t e : TypeId} (hw : wan fr.N ol σ d g = true) (ht : fr.P.underlying t = some (.slice e)) (hsz : ∀ w, (sizeOf e).run fr.P w = .ok E.size w)
    (h : ∀ v c, OwnS E e H v ([] : List α) c → TL fr x ol rest Q (upd σ d v) H (c :: L) ds) : TL fr x ol (⟨some d, .buildSlice t 0 #[], ty, p, af, g⟩ :: rest) Q σ H L ds := by
  refine R.bs (ps := []) (cs := []) (e := e) hw (fun w => ?_) (fun b => h _ _ (.inr ⟨b, 0, #[], rfl, rfl, Nat.le_refl _, by unfold maxLen; omega, by simp, fun i y hy => by simp at hy⟩))
  have h0 : (Array.map (fun _ => (default : Value)) (Array.range 0)) = #[] := by apply Array.ext <;> simp
  simp [Instr.buildSlice, run_underlying ht, hsz, Instr.fill, newRow, h0]
end
theorem fin1C {P : Program} {fn : Func} {N t b o : Nat} {ty : TypeId} {cs : Array Value} {et : TypeId} {fz : Nat × Nat} {post : Value → Heap → Own → Prop} {σ : Env} {H : Heap} {L : Own} {ds : List Nat} {v : Value} (L' : Own) (hr : fn.results = #[.cell t ty]) (hagg : ∀ w, (isAgg ty).run P w = .ok false w) (hv : σ t = .pointer (some ⟨b, o, none⟩))
    (hin : In L [(b, .cells cs et fz)]) (hcs : cs[o]? = some v) (hL : List.Sublist L' L) (h : post v H L') : fnPost P fn N post .ret σ H L ds :=
  ⟨v, L', hL, fun tmps w hs hsat => by
    have hb := hsat.l (b, .cells cs et fz) (hin.mem (List.mem_singleton.2 rfl))
    have hc := k_5a hb hcs
    have hvt := hs.val t
    rw [hv, Array.getD_eq_getD_getElem?] at hvt
    simp only at hc
    simp [results, hr, hvt, asAddr, loadVar, hagg, hc], h⟩
end Go.SX
namespace Go.SX
open Go
theorem bA {p : Prop} (h : p := by first | omega | (simp; done) | (simp; omega) | (simp at *; omega)) : p := h
theorem cA {α : Type} {a b : α} (h : a = b := by conv => lhs; whnf) : a = b := h
theorem kA {p : Prop} (h : p := by kernel_rfl) : p := h
theorem oA {p : Prop} (h : p := by omega) : p := h
attribute [local semireducible] T TL
section
variable {fr : Fr} {x : Cx} {Q : Post} {σ : Env} {H : Heap} {L : Own} {ds : List Nat} {ol : List Oper} {K : Env → Heap → Own → List Nat → Prop}
theorem sR {id : Nat} {l : List Oper} {b : Code} (h : TL fr x l l (Post.thn (T fr x b Q) Q) σ H L ds) : T fr x (.seq (.region id l.toArray false) b) Q σ H L ds := T.seq (T.region h)
theorem nN (h : K σ H L ds) : TL fr x ol [] (Post.thn K Q) σ H L ds := TL.nil (Post.thnN h)
variable {n : Nat} {pend : List Nat} {d : Nat} {op : Op} {ty : TypeId} {p : String} {af : Array Edge} {g : Option (Nat × Bool)} {v : Value}
theorem vA (i : Nat) (pend' : List Nat) (ho : nth ol i = some ⟨some d, op, ty, p, af, g⟩)
    (hp : PV fr ol ⟨some d, op, ty, p, af, g⟩ σ H ds (upd σ d v)) (h : Plan fr x ol Q ds n pend' (upd σ d v) H L)
    (hi : pend.contains i = true := by kernel_rfl) (he : pend.erase i = pend' := by kernel_rfl) (hv : vready ol pend i = true := by kernel_rfl) (hf : freshOk ol i = true := by kernel_rfl) : Plan fr x ol Q ds (n + 1) pend σ H L :=
  Plan.v i pend' hi he hv hf ho hp h
theorem vM {X : Operand} (i : Nat) (pend' : List Nat) (ho : nth ol i = some ⟨some d, .move X, ty, p, af, g⟩) (hw : wan fr.N ol σ d g = true) (hc : ev σ X = v)
    (h : Plan fr x ol Q ds n pend' (upd σ d v) H L)
    (hi : pend.contains i = true := by kernel_rfl) (he : pend.erase i = pend' := by kernel_rfl) (hv : vready ol pend i = true := by kernel_rfl) (hf : freshOk ol i = true := by kernel_rfl) : Plan fr x ol Q ds (n + 1) pend σ H L :=
  Plan.v i pend' hi he hv hf ho (fun _ _ h_ => R.mvE hw hc (TL.nil h_)) h
theorem vO {j : Nat} {b c : Bool} (i : Nat) (pend' : List Nat) (ho : nth ol i = some ⟨some d, op, ty, p, af, some (j, b)⟩) (hdN : Nat.blt d fr.N = true) (hy : yl ol σ j = some c) (hne : beqB c b = false)
    (h : Plan fr x ol Q ds n pend' (upd σ d undef) H L)
    (hi : pend.contains i = true := by kernel_rfl) (he : pend.erase i = pend' := by kernel_rfl) (hv : vready ol pend i = true := by kernel_rfl) (hf : freshOk ol i = true := by kernel_rfl) : Plan fr x ol Q ds (n + 1) pend σ H L :=
  Plan.v i pend' hi he hv hf ho (fun _ _ h_ => TL.off hdN hy hne (TL.nil h_)) h
end
end Go.SX
namespace Go.SX
open Go
attribute [local semireducible] T TL
section
variable {fr : Fr} {x : Cx} {Q : Post} {σ : Env} {H : Heap} {L : Own} {ds : List Nat} {ol rest : List Oper}
variable {d : Nat} {ty : TypeId} {p : String} {af : Array Edge} {g : Option (Nat × Bool)}
theorem R.clr {α : Type} {E : ER α} {t e : TypeId} {bytes cap m : Nat} {A : Option Addr} {X : Operand} {xs : List α} {c : Chunk} {R : Own} (hty : TyE fr.P t e E bytes) (hz1 : ∀ i z, fr.P.info? e = some i → i.zero = some z → ∀ v ∈ z.cells.toList, v.oneCell' = true) (hw : wants ol σ g = true) {dd : Option Nat} (hdd : ∀ q, dd = some q → Nat.blt q fr.N = true)
    (hx : ev σ X = slcV (.slice A xs.length cap) xs.length m cap E.size) (hown : OwnS E e H (.slice A xs.length cap) xs c) (hdel : Del L c R) (hm : xs.length ≤ m) (hmc : m ≤ cap)
    (h : ∀ c', OwnS E e H (.slice A xs.length cap) xs c' → TL fr x ol rest Q (match dd with | some q => upd σ q (.tuple #[]) | none => σ) H (c' :: R) ds) :
    TL fr x ol (⟨dd, .call { callee := .builtin .clear, args := #[X], argTypes := #[t] }, ty, p, af, g⟩ :: rest) Q σ H L ds := by
  obtain ⟨ht, ⟨i, z, hi, hzz, hsize, hbytes, hzs⟩, hpos⟩ := hty
  intro a w hsim hd hst
  have hst1 : St x H (c ++ (R.flatten ++ hid fr.rd ds)) w := hst.perm (by rw [← List.append_assoc]; exact hdel.perm.append_right _)
  unfold wpLo
  rw [if_pos (k_a9 hsim hw)]
  refine ⟨fun f _ => fenceFn _ f, ?_⟩
  rw [k_b0 rfl, hsim.eval]
  have hex : (execOp (ev σ) ⟨dd, .call { callee := .builtin .clear, args := #[X], argTypes := #[t] }, ty, p, af, g⟩) = (do pure (Next.value (← Builtin.clear_ #[t] ty #[slcV (.slice A xs.length cap) xs.length m cap E.size]))) := by
    simp [execOp, resolve, invoke, builtin, hx]
  rw [hex]
  have fin : ∀ (c' : Chunk) (w' : World), OwnS E e H (.slice A xs.length cap) xs c' → St x H (c' ++ (R.flatten ++ hid fr.rd ds)) w' → wpLo (fence fr.rd) fr.P ol.toArray (lift fr x Q) rest (a.put dd (.tuple #[])) w' := by
    intro c' w' ho h2
    have hk' := h c' ho
    cases dd with
    | none => exact hk' a w' hsim hd (by simpa using h2)
    | some q => exact hk' _ w' (hsim.putA q _ (hdd q rfl)) hd (by simpa using h2)
  have hzr : ∀ w, (zeroValue e).run fr.P w = .ok z w := fun w => by simp [zeroValue, typeInfo, hi, hzz]
  by_cases hm0 : m = xs.length
  · have hrun : (Builtin.clear_ #[t] ty #[slcV (.slice A xs.length cap) xs.length m cap E.size]).run fr.P w = .ok (.tuple #[]) w := by
      subst hm0
      simp only [slcV, Nat.sub_self]
      generalize (if cap = xs.length then A else A.map (·.add (xs.length * E.size))) = B
      cases B <;> simp [Builtin.clear_, run_underlying ht]
    rw [k_af hrun]
    exact fin c w hown hst1
  · rcases hown with ⟨hv, rfl, rfl⟩ | ⟨b, cap', cs, hv, rfl, h3, h4, h5, h6⟩
    · cases hv; simp at hm0; omega
    · cases hv
      have hb := hst1.sat.l (b, .cells cs e) (List.mem_append_left _ (List.mem_singleton.2 rfl))
      simp only at hb
      have hzl : (Builtin.zeroCells z.cells (m - xs.length)).toList.length = (m - xs.length) * E.size := by
        rw [Array.length_toList, k_b7, hzs]
      have hfit : 0 + xs.length * E.size + (Builtin.zeroCells z.cells (m - xs.length)).toList.length ≤ cs.size := by
        rw [hzl, Nat.zero_add, ← Nat.add_mul]; exact Nat.le_trans (Nat.mul_le_mul_right _ (by omega)) h5
      have hzone : ∀ v ∈ (Builtin.zeroCells z.cells (m - xs.length)).toList, v.oneCell' = true := by
        intro v hv
        have h1 := hz1 i z hi hzz
        simp only [Builtin.zeroCells, Array.toList_map, List.mem_map] at hv
        obtain ⟨q, _, rfl⟩ := hv
        have hq : q % z.cells.size < z.cells.size := Nat.mod_lt _ (by rw [hzs]; exact hpos)
        rw [getElem!_pos z.cells _ hq]
        exact h1 _ (by simp)
      have hstore := run_storeCells_at fr.P b (xs.length * E.size) e (Builtin.zeroCells z.cells (m - xs.length)).toList 0 cs w hb (by omega) hzone
      rw [Nat.add_zero] at hstore
      have hrun : (Builtin.clear_ #[t] ty #[slcV (.slice (some ⟨b, 0, none⟩) xs.length cap) xs.length m cap E.size]).run fr.P w = .ok (.tuple #[]) (w.setRow b (cs.toList.take (xs.length * E.size) ++ (Builtin.zeroCells z.cells (m - xs.length)).toList ++ cs.toList.drop (xs.length * E.size + (Builtin.zeroCells z.cells (m - xs.length)).toList.length)).toArray) := by
        have hcx : cap ≠ xs.length := by omega
        obtain ⟨q, hq⟩ : ∃ q, m - xs.length = q + 1 := ⟨m - xs.length - 1, by omega⟩
        have e1 : slcV (.slice (some ⟨b, 0, none⟩) xs.length cap) xs.length m cap E.size = .slice (some ⟨b, xs.length * E.size, none⟩) (q + 1) (cap - xs.length) := by
          simp [slcV, hcx, Addr.add_lit, hq]
        rw [e1]
        rw [hq] at hstore ⊢
        simp [Builtin.clear_, run_underlying ht, hzr, hstore]
      rw [k_af hrun]
      refine fin [(b, .cells (cs.toList.take (xs.length * E.size) ++ (Builtin.zeroCells z.cells (m - xs.length)).toList ++ cs.toList.drop (xs.length * E.size + (Builtin.zeroCells z.cells (m - xs.length)).toList.length)).toArray e)] _ ?_ ?_
      · have hsetsz : (cs.toList.take (xs.length * E.size) ++ (Builtin.zeroCells z.cells (m - xs.length)).toList ++ cs.toList.drop (xs.length * E.size + (Builtin.zeroCells z.cells (m - xs.length)).toList.length)).length = cs.size := by
          have hcl : cs.toList.length = cs.size := Array.length_toList
          rw [List.length_append, List.length_append, List.length_take, List.length_drop, hcl]
          omega
        refine .inr ⟨b, cap, _, rfl, rfl, h3, h4, by rw [List.size_toArray, hsetsz]; exact h5, fun j y hy => ?_⟩
        obtain ⟨l, h7, h8⟩ := h6 j y hy
        refine ⟨l, h7, fun r u hr => ?_⟩
        have h9 := h8 r u hr
        have hjl := (List.getElem?_eq_some_iff.1 hy).1
        have hrl : r < E.size := by rw [← E.len h7]; exact (List.getElem?_eq_some_iff.1 hr).1
        have hlt : j * E.size + r < xs.length * E.size := by
          calc j * E.size + r < j * E.size + E.size := by omega
            _ = (j + 1) * E.size := by rw [Nat.add_mul, Nat.one_mul]
            _ ≤ xs.length * E.size := Nat.mul_le_mul_right _ hjl
        have htl : (cs.toList.take (xs.length * E.size)).length = xs.length * E.size := by
          have hcl : cap * E.size ≤ cs.toList.length := by rw [Array.length_toList]; exact h5
          rw [List.length_take]
          have : xs.length * E.size ≤ cap * E.size := Nat.mul_le_mul_right _ h3
          omega
        rw [List.getElem?_toArray, List.append_assoc, List.getElem?_append_left (by rw [htl]; exact hlt), List.getElem?_take_of_lt hlt]
        simpa using h9
      · refine hst1.turn (o' := .cells (cs.toList.take (xs.length * E.size) ++ (Builtin.zeroCells z.cells (m - xs.length)).toList ++ cs.toList.drop (xs.length * E.size + (Builtin.zeroCells z.cells (m - xs.length)).toList.length)).toArray e) rfl rfl rfl (by simp [World.setRow]) (by simp only [World.setRow]; rw [Array.getElem?_modify, if_pos rfl, hb]; rfl) (fun c hc => by
          simp only [World.setRow, Array.getElem?_modify]
          rw [if_neg (fun e => hc e.symm)])
end
theorem fin2L {P : Program} {fn : Func} {N t u : Nat} {post : Value → Heap → Own → Prop} {σ : Env} {H : Heap} {L : Own} {ds : List Nat} {v v' : Value} (L' : Own) (hr : fn.results = #[.tmp t, .tmp u]) (hv : σ t = v) (hv' : σ u = v') (hL : List.Sublist L' L) (h : post (.tuple #[v, v']) H L') : fnPost P fn N post .ret σ H L ds :=
  ⟨_, L', hL, fun tmps w hs _ => by rw [results_tmp2 hr, hs.val, hs.val, hv, hv'], h⟩
theorem slc_take00 {A : Option Addr} {n c sz i : Nat} : slcV (.slice A n c) 0 i i sz = .slice A i i := by
  simp only [slcV, Nat.zero_mul, Nat.sub_zero]
  congr 1
  split
  · rfl
  · cases A with
    | none => rfl
    | some a => simp [Addr.add_zero']
theorem RdS.take {α : Type} {E : ER α} {H : Heap} {A : Option Addr} {c : Nat} {xs : List α} (hr : RdS E H (.slice A xs.length c) xs) {i : Nat} (hi : i ≤ xs.length) (hc : xs.length ≤ c) : RdS E H (.slice A (xs.take i).length (xs.take i).length) (xs.take i) := by
  have h := hr.slc (l := 0) (h := i) (m := i) (Nat.zero_le _) hi (Nat.le_refl _) (Nat.le_trans hi hc)
  rw [slc_take00, List.drop_zero] at h
  have hl : (xs.take i).length = i := by simp; omega
  rw [hl]; exact h
theorem RdS.takeC {α : Type} {E : ER α} {H : Heap} {A : Option Addr} {c : Nat} {xs : List α} (hr : RdS E H (.slice A xs.length c) xs) {i : Nat} (hi : i ≤ xs.length) (hc : xs.length ≤ c) : RdS E H (slcV (.slice A xs.length c) 0 i c E.size) (xs.take i) := by
  have h := hr.slc (l := 0) (h := i) (m := c) (Nat.zero_le _) hi (Nat.le_trans hi hc) (Nat.le_refl _)
  rw [List.drop_zero] at h
  exact h
theorem RdS.drop {α : Type} {E : ER α} {H : Heap} {A : Option Addr} {c : Nat} {xs : List α} (hr : RdS E H (.slice A xs.length c) xs) {i : Nat} (hi : i ≤ xs.length) (hc : xs.length ≤ c) : RdS E H (slcV (.slice A xs.length c) i xs.length c E.size) (xs.drop i) := by
  have h := hr.slc (l := i) (h := xs.length) (m := c) hi (Nat.le_refl _) hc (Nat.le_refl _)
  rw [List.take_length] at h
  exact h
theorem zcells_of {P : Program} {e : TypeId} {z : Value} (h : (P.info? e).map (fun i => i.zero) = some (some z)) : ∀ i z', P.info? e = some i → i.zero = some z' → z'.cells.toList = z.cells.toList := by
  intro i z' hi hz
  rw [hi] at h
  simp only [Option.map_some, Option.some.injEq] at h
  rw [h] at hz
  injection hz with hz
  subst hz
  rfl
section
variable {fr : Fr} {x : Cx} {Q : Post} {σ : Env} {H : Heap} {L : Own} {ds : List Nat} {ol rest : List Oper}
variable {d : Nat} {ty : TypeId} {p : String} {af : Array Edge} {g : Option (Nat × Bool)}
end
end Go.SX
namespace Go.SX
open Go
attribute [local semireducible] T TL
abbrev MapL := List (Int × Value)
def mget (m : MapL) (k : Int) : Option Value := (m.find? (fun q => q.1 == k)).map (·.2)
def mput : MapL → Int → Value → MapL
  | [], k, v => [(k, v)]
  | q :: m, k, v => if q.1 = k then (k, v) :: m else q :: mput m k v
theorem mput_some : ∀ (m : MapL) (k : Int) (v : Value) (j : Nat), m.findIdx? (fun q => q.1 == k) = some j → mput m k v = m.set j (k, v)
  | [], k, v, j, h => by simp at h
  | q :: m, k, v, j, h => by
    rw [List.findIdx?_cons] at h
    unfold mput
    by_cases hk : q.1 = k
    · have e : (q.1 == k) = true := by simpa using hk
      rw [e] at h
      simp at h
      subst h
      rw [if_pos hk]; rfl
    · have e : (q.1 == k) = false := by simpa using hk
      rw [e] at h
      simp only [Bool.false_eq_true, if_false] at h
      cases hf : m.findIdx? (fun q => q.1 == k) with
      | none => rw [hf] at h; cases h
      | some i =>
        rw [hf] at h
        simp at h
        subst h
        rw [if_neg hk, mput_some m k v i hf]; rfl
theorem mput_none : ∀ (m : MapL) (k : Int) (v : Value), m.findIdx? (fun q => q.1 == k) = none → mput m k v = m ++ [(k, v)]
  | [], k, v, _ => rfl
  | q :: m, k, v, h => by
    rw [List.findIdx?_cons] at h
    by_cases hk : q.1 = k
    · have e : (q.1 == k) = true := by simpa using hk
      rw [e] at h; simp at h
    · have e : (q.1 == k) = false := by simpa using hk
      rw [e] at h
      simp only [Bool.false_eq_true, if_false] at h
      cases hf : m.findIdx? (fun q => q.1 == k) with
      | some i => rw [hf] at h; simp at h
      | none =>
        unfold mput
        rw [if_neg hk, mput_none m k v hf]; rfl
theorem mget_idx (m : MapL) (k : Int) : (m.findIdx? (fun q => q.1 == k) = none ∧ mget m k = none) ∨ ∃ j v, m.findIdx? (fun q => q.1 == k) = some j ∧ mget m k = some v ∧ m[j]? = some (k, v) := by
  induction m with
  | nil => exact .inl ⟨rfl, rfl⟩
  | cons q m ih =>
    by_cases hk : q.1 = k
    · refine .inr ⟨0, q.2, by simp [List.findIdx?_cons, hk], by simp [mget, hk], ?_⟩
      subst hk; rfl
    · have e : (q.1 == k) = false := by simpa using hk
      rcases ih with ⟨h1, h2⟩ | ⟨j, v, h1, h2, h3⟩
      · exact .inl ⟨by simp [List.findIdx?_cons, e, h1], by unfold mget at h2 ⊢; simp only [List.find?_cons, e]; exact h2⟩
      · exact .inr ⟨j + 1, v, by simp [List.findIdx?_cons, e, h1], by unfold mget at h2 ⊢; simp only [List.find?_cons, e]; exact h2, by simpa using h3⟩
def MapIs (ik : IntKind) (es : Array MapEntry) (m : MapL) : Prop := es.toList.map (fun e => (e.key, e.val)) = m.map (fun q => (.int ik q.1, q.2))
theorem findNow_is {ik : IntKind} {k : Int} : ∀ (es : List MapEntry) (m : MapL) (i : Nat), es.map (fun e => (e.key, e.val)) = m.map (fun q => (Value.int ik q.1, q.2)) →
    Instr.findNow (.int ik) (.int ik k) es i = some (((m.findIdx? (fun q => q.1 == k)).bind (fun j => (mget m k).map (fun v => (i + j, v)))))
  | [], [], i, _ => by simp [Instr.findNow, mget]
  | [], _ :: _, i, h => by simp at h
  | _ :: _, [], i, h => by simp at h
  | e :: es, q :: m, i, h => by
    simp only [List.map_cons, List.cons.injEq, Prod.mk.injEq] at h
    obtain ⟨⟨h1, h2⟩, h3⟩ := h
    unfold Instr.findNow
    rw [h1]
    simp only [Instr.sameNow, if_true]
    by_cases hk : k = q.1
    · subst hk
      simp [List.findIdx?_cons, mget, h2]
    · have e1 : (k == q.1) = false := by simpa using hk
      have e2 : (q.1 == k) = false := by simpa using fun h => hk h.symm
      rw [e1]
      simp only
      rw [findNow_is es m (i + 1) h3]
      simp only [List.findIdx?_cons, e2, mget, List.find?_cons]
      simp only [Bool.false_eq_true, if_false]
      cases hf : m.findIdx? (fun q => q.1 == k) with
      | none => rfl
      | some j =>
        simp only [Option.bind_some, Option.map_some]
        cases m.find? (fun q => q.1 == k) with
        | none => rfl
        | some q => simp; omega
section
variable {P : Program} {w : World} {t kt et : TypeId} {ik : IntKind} {es : Array MapEntry} {clock b : Nat} {m : MapL} {k : Int}
theorem run_checkKey_n (hk : P.underlying kt = some (.int ik)) (em : Bool) (n : Nat) : (Instr.checkKey em (n + 1) kt (.int ik k)).run P w = .ok () w := by
  simp [Instr.checkKey, run_underlying hk]
theorem k_9b (hk : P.underlying kt = some (.int ik)) (em : Bool) : (Instr.checkKey em 10000 kt (.int ik k)).run P w = .ok () w := run_checkKey_n hk em 9999
theorem run_findKey_is (hk : P.underlying kt = some (.int ik)) (hi : MapIs ik es m) : (Instr.findKey kt (.int ik k) es.toList).run P w = .ok ((m.findIdx? (fun q => q.1 == k)).bind (fun j => (mget m k).map (fun v => (0 + j, v)))) w := by
  unfold Instr.findKey
  simp only [Sem.run_bind, run_underlying hk, Result.andThen]
  rw [findNow_is es.toList m 0 hi]
  rfl
theorem run_lookup_is {z : Value} (hm : P.underlying t = some (.map kt et)) (hk : P.underlying kt = some (.int ik)) (hz : ∀ w, (zeroValue et).run P w = .ok z w) (hb : w.heap[b]? = some (.map es clock)) (hi : MapIs ik es m) :
    (Instr.lookup t (.map (some b)) (.int ik k) false).run P w = .ok ((mget m k).getD z) w := by
  have hf := run_findKey_is (P := P) (w := w) (k := k) hk hi
  rcases mget_idx m k with ⟨h1, h2⟩ | ⟨j, v, h1, h2, _⟩
  · rw [h1] at hf
    simp [Instr.lookup, run_underlying hm, run_getObj_map (w := w) b es clock hb, k_9b hk, hf, hz, h2]
  · rw [h1, h2] at hf
    simp only [Option.bind_some, Option.map_some] at hf
    simp [Instr.lookup, run_underlying hm, run_getObj_map (w := w) b es clock hb, k_9b hk, hf, hz, h2]
theorem run_mapUpdate_is {v : Value} (hm : P.underlying t = some (.map kt et)) (hk : P.underlying kt = some (.int ik)) (hb : w.heap[b]? = some (.map es clock)) (hi : MapIs ik es m) :
    ∃ es' clock', (Instr.mapUpdate t (.map (some b)) (.int ik k) v).run P w = .ok () (w.putObj b (.map es' clock')) ∧ MapIs ik es' (mput m k v) := by
  have hf := run_findKey_is (P := P) (w := w) (k := k) hk hi
  have hset : ∀ o, (setObj b o).run P w = .ok () (w.putObj b o) := fun o => by rw [MapKept.run_setObj_map o hb]; rfl
  rcases mget_idx m k with ⟨h1, h2⟩ | ⟨j, u, h1, h2, h3⟩
  · rw [h1] at hf
    refine ⟨es.push ⟨.int ik k, v, clock⟩, clock + 1, ?_, ?_⟩
    · simp [Instr.mapUpdate, run_underlying hm, run_getObj_map (w := w) b es clock hb, k_9b hk, hf, hset]
    · rw [mput_none m k v h1]
      unfold MapIs at hi ⊢
      simp [hi]
  · rw [h1, h2] at hf
    simp only [Option.bind_some, Option.map_some, Nat.zero_add] at hf
    have hej : (es[j]?).map (·.key) = some (.int ik k) := by
      have := congrArg (fun l => l[j]?) hi
      simp only [List.getElem?_map, h3, Option.map_some, Array.getElem?_toList] at this
      cases he : es[j]? with
      | none => rw [he] at this; cases this
      | some e => rw [he] at this; simp at this; simp [this.1]
    have hks : (Instr.keyThatStays (.int ik k) (.int ik k)).run P w = .ok (.int ik k) w := by simp [Instr.keyThatStays, Instr.sameBits]
    refine ⟨es.modify j (fun e => { e with key := .int ik k, val := v }), clock, ?_, ?_⟩
    · simp [Instr.mapUpdate, run_underlying hm, run_getObj_map (w := w) b es clock hb, k_9b hk, hf, hej, hks, hset]
    · rw [mput_some m k v j h1]
      unfold MapIs at hi ⊢
      refine List.ext_getElem? (fun i => ?_)
      have hie := congrArg (fun l => l[i]?) hi
      simp only [List.getElem?_map, Array.getElem?_toList] at hie ⊢
      rw [Array.getElem?_modify]
      by_cases e : j = i
      · subst e
        rw [if_pos rfl, List.getElem?_set_self (List.getElem?_eq_some_iff.1 h3).1]
        cases he : es[j]? with
        | none => rw [he] at hej; cases hej
        | some x => simp
      · rw [if_neg e, List.getElem?_set_ne e]
        exact hie
end
section
variable {fr : Fr} {x : Cx} {Q : Post} {σ : Env} {H : Heap} {L : Own} {ds : List Nat} {ol rest : List Oper}
variable {d : Nat} {ty : TypeId} {p : String} {af : Array Edge} {g : Option (Nat × Bool)}
theorem T.permL {L' : Own} {c : Code} (hp : L.flatten.Perm L'.flatten) (h : T fr x c Q σ H L' ds) : T fr x c Q σ H L ds := fun a w hs hd hst => h a w hs hd (hst.perm (hp.append_right _))
theorem TL.permL {L' : Own} {l : List Oper} (hp : L.flatten.Perm L'.flatten) (h : TL fr x ol l Q σ H L' ds) : TL fr x ol l Q σ H L ds := fun a w hs hd hst => h a w hs hd (hst.perm (hp.append_right _))
theorem mapIs_nil (ik : IntKind) : MapIs ik #[] [] := rfl
theorem R.mkm {t : TypeId} (hw : wan fr.N ol σ d g = true) (h : ∀ b, TL fr x ol rest Q (upd σ d (.map (some b))) H ([(b, .map #[] 0)] :: L) ds) :
    TL fr x ol (⟨some d, .makeMap t none, ty, p, af, g⟩ :: rest) Q σ H L ds :=
  TL.value hw rfl (fun w hst => ⟨_, w.alloc (.map #[] 0), H, _, by simp [execOp, Instr.makeMap], hst.new _, h w.heap.size⟩)
theorem R.lku {t kt et : TypeId} {M K : Operand} {b clock : Nat} {es : Array MapEntry} {m : MapL} {ik : IntKind} {k : Int} {z : Value} (hm : fr.P.underlying t = some (.map kt et)) (hk : fr.P.underlying kt = some (.int ik)) (hz : ∀ w, (zeroValue et).run fr.P w = .ok z w)
    (hw : wan fr.N ol σ d g = true) (hM : ev σ M = .map (some b)) (hK : ev σ K = .int ik k) (hin : In L [(b, .map es clock)]) (hi : MapIs ik es m)
    (h : TL fr x ol rest Q (upd σ d ((mget m k).getD z)) H L ds) : TL fr x ol (⟨some d, .lookup t M K false, ty, p, af, g⟩ :: rest) Q σ H L ds :=
  TL.value hw rfl (fun w hst => by
    have hb := hst.sat.l (b, .map es clock) (List.mem_append_left _ (hin.mem (List.mem_singleton.2 rfl)))
    have hr := run_lookup_is (P := fr.P) (w := w) (k := k) hm hk hz hb hi
    exact ⟨_, w, H, L, by simp [execOp, hM, hK, hr], hst, h⟩)
theorem R.lkuH {t kt et : TypeId} {M K : Operand} {b clock : Nat} {es : Array MapEntry} {m : MapL} {ik : IntKind} {k : Int} {z : Value} (hm : fr.P.underlying t = some (.map kt et)) (hk : fr.P.underlying kt = some (.int ik)) (hz : ∀ w, (zeroValue et).run fr.P w = .ok z w)
    (hw : wan fr.N ol σ d g = true) (hM : ev σ M = .map (some b)) (hK : ev σ K = .int ik k) (hin : H b = some (.map es clock)) (hi : MapIs ik es m)
    (h : TL fr x ol rest Q (upd σ d ((mget m k).getD z)) H L ds) : TL fr x ol (⟨some d, .lookup t M K false, ty, p, af, g⟩ :: rest) Q σ H L ds :=
  TL.value hw rfl (fun w hst => by
    have hr := run_lookup_is (P := fr.P) (w := w) (k := k) hm hk hz (hst.sat.h b _ hin) hi
    exact ⟨_, w, H, L, by simp [execOp, hM, hK, hr], hst, h⟩)
theorem R.mup {t kt et : TypeId} {M K X : Operand} {b clock : Nat} {es : Array MapEntry} {m : MapL} {ik : IntKind} {k : Int} {v : Value} {R : Own} (hm : fr.P.underlying t = some (.map kt et)) (hk : fr.P.underlying kt = some (.int ik))
    (hw : wants ol σ g = true) (hM : ev σ M = .map (some b)) (hK : ev σ K = .int ik k) (hX : ev σ X = v) (hdel : Del L [(b, .map es clock)] R) (hi : MapIs ik es m)
    (h : ∀ es' clock', MapIs ik es' (mput m k v) → TL fr x ol rest Q σ H ([(b, .map es' clock')] :: R) ds) : TL fr x ol (⟨none, .mapUpdate t M K X, ty, p, af, g⟩ :: rest) Q σ H L ds := by
  intro a w hs hd hst
  have hst1 : St x H ((b, .map es clock) :: (R.flatten ++ hid fr.rd ds)) w := hst.perm (by
    have := hdel.perm.append_right (hid fr.rd ds)
    simpa using this)
  have hb := hst1.sat.l (b, .map es clock) (List.mem_cons_self ..)
  simp only at hb
  obtain ⟨es', clock', hrun, hi'⟩ := run_mapUpdate_is (P := fr.P) (w := w) (k := k) (v := v) hm hk hb hi
  have hst2 : St x H ((b, .map es' clock') :: (R.flatten ++ hid fr.rd ds)) (w.putObj b (.map es' clock')) :=
    hst1.turn rfl rfl rfl (by simp [World.putObj]) (World.putObj_heap_same (heap_lt hb)) (fun c hc => World.putObj_heap_other (by first | exact hc | exact fun e => hc e.symm))
  unfold wpLo
  rw [if_pos (k_a9 hs hw)]
  refine ⟨fun f _ => fenceFn _ f, ?_⟩
  rw [k_b0 rfl, hs.eval]
  have hr : (execOp (ev σ) ⟨none, .mapUpdate t M K X, ty, p, af, g⟩).run fr.P w = .ok .skip (w.putObj b (.map es' clock')) := by
    simp [execOp, hM, hK, hX, hrun]
  rw [hr]
  exact h es' clock' hi' _ _ hs hd (by simpa using hst2)
end
theorem Src.rdA {α : Type} {E : ER α} {H : Heap} {v : Value} {xs : List α} (h : RdS E H v xs) : ∃ cs, CellsOf E H cs xs ∧ ∀ L, Src H L v xs.length cs := by
  obtain ⟨cs, h1, A, c, h2, h3, h4⟩ := Src.rd (L := []) h
  exact ⟨cs, h1, fun L => ⟨A, c, h2, h3, fun b o e hd w hs => h4 b o e (L.flatten ++ hd) w (by simpa using hs)⟩⟩
end Go.SX
namespace Go.SX
open Go
attribute [local semireducible] T TL
section
variable {fr : Fr} {x : Cx} {Q : Post} {σ : Env} {H : Heap} {L : Own} {ds : List Nat} {ol rest : List Oper}
variable {d : Nat} {ty : TypeId} {p : String} {af : Array Edge} {g : Option (Nat × Bool)}
end
def F2 {α : Type} (E : ER α) (e : TypeId) (H : Heap) (f : Int → List α) : MapL → Own → Prop
  | [], [] => True
  | q :: m, c :: r => OwnS E e H q.2 (f q.1) c ∧ F2 E e H f m r
  | _, _ => False
theorem F2.mono {α : Type} {E : ER α} {e : TypeId} {H H' : Heap} {f : Int → List α} (hl : HLe H H') : ∀ {m : MapL} {r : Own}, F2 E e H f m r → F2 E e H' f m r
  | [], [], _ => trivial
  | _ :: _, _ :: _, h => ⟨h.1.mono hl, F2.mono hl h.2⟩
  | [], _ :: _, h => h.elim
  | _ :: _, [], h => h.elim
theorem F2.congr {α : Type} {E : ER α} {e : TypeId} {H : Heap} {f g : Int → List α} : ∀ {m : MapL} {r : Own}, F2 E e H f m r → (∀ k ∈ m.map Prod.fst, f k = g k) → F2 E e H g m r
  | [], [], _, _ => trivial
  | q :: _, _ :: _, h, hk => ⟨hk q.1 (by simp) ▸ h.1, F2.congr h.2 (fun k hm => hk k (by simp only [List.map_cons, List.mem_cons]; exact .inr hm))⟩
  | [], _ :: _, h, _ => h.elim
  | _ :: _, [], h, _ => h.elim
theorem mput_keys : ∀ (m : MapL) (k : Int) (v : Value) (j : Int), j ∈ (mput m k v).map Prod.fst ↔ j = k ∨ j ∈ m.map Prod.fst
  | [], k, v, j => by simp [mput]
  | q :: m, k, v, j => by
    unfold mput
    by_cases h : q.1 = k
    · rw [if_pos h]; simp [h]
    · rw [if_neg h]
      simp only [List.map_cons, List.mem_cons, mput_keys m k v j]
      constructor
      · rintro (h | h | h)
        · exact .inr (.inl h)
        · exact .inl h
        · exact .inr (.inr h)
      · rintro (h | h | h)
        · exact .inr (.inl h)
        · exact .inl h
        · exact .inr (.inr h)
theorem mput_nodup : ∀ (m : MapL) (k : Int) (v : Value), (m.map Prod.fst).Nodup → ((mput m k v).map Prod.fst).Nodup
  | [], k, v, _ => by simp [mput]
  | q :: m, k, v, h => by
    unfold mput
    rw [List.map_cons, List.nodup_cons] at h
    by_cases hk : q.1 = k
    · rw [if_pos hk, List.map_cons, List.nodup_cons]; exact ⟨by rw [← hk]; exact h.1, h.2⟩
    · rw [if_neg hk, List.map_cons, List.nodup_cons]
      exact ⟨fun hm => (((mput_keys m k v q.1).1 hm).elim hk h.1), mput_nodup m k v h.2⟩
theorem mget_cons_eq {q : Int × Value} {m : MapL} {k : Int} (h : q.1 = k) : mget (q :: m) k = some q.2 := by simp [mget, h]
theorem k_b1 {q : Int × Value} {m : MapL} {k : Int} (h : q.1 ≠ k) : mget (q :: m) k = mget m k := by
  have : (q.1 == k) = false := by simpa using h
  simp [mget, List.find?_cons, this]
theorem mget_mput : ∀ (m : MapL) (k : Int) (v : Value) (j : Int), mget (mput m k v) j = if j = k then some v else mget m j
  | [], k, v, j => by
    unfold mput
    by_cases h : j = k
    · subst h; simp [mget]
    · have : (k == j) = false := by simpa using fun e => h e.symm
      simp [mget, List.find?_cons, this, h]
  | q :: m, k, v, j => by
    unfold mput
    by_cases hq : q.1 = k
    · rw [if_pos hq]
      by_cases h : j = k
      · subst h; rw [if_pos rfl, mget_cons_eq rfl]
      · rw [if_neg h, k_b1 (fun e => h e.symm), k_b1 (fun e => h (by rw [← e, hq]))]
    · rw [if_neg hq]
      by_cases hj : q.1 = j
      · rw [mget_cons_eq hj, mget_cons_eq hj, if_neg (fun e => hq (by rw [hj, e]))]
      · rw [k_b1 hj, k_b1 hj, mget_mput m k v j]
theorem F2.take {α : Type} {E : ER α} {e : TypeId} {H : Heap} {f : Int → List α} : ∀ {m : MapL} {rows : Own} (k : Int), F2 E e H f m rows → (m.map Prod.fst).Nodup → (k ∉ m.map Prod.fst → f k = []) →
    ∃ c R, rows.flatten.Perm (c :: R).flatten ∧ OwnS E e H ((mget m k).getD (.slice none 0 0)) (f k) c ∧
      ∀ H' v' c' l, HLe H H' → OwnS E e H' v' l c' → ∃ rows', F2 E e H' (fun j => if j = k then l else f j) (mput m k v') rows' ∧ (c' :: R).flatten.Perm rows'.flatten
  | [], [], k, _, _, h0 => ⟨[], [], List.Perm.refl _, by rw [h0 (by simp)]; exact OwnS.nil, fun H' v' c' l hl ho => ⟨[c'], ⟨by simp; exact ho, trivial⟩, List.Perm.refl _⟩⟩
  | q :: m, c0 :: r, k, h, hn, h0 => by
    rw [List.map_cons, List.nodup_cons] at hn
    by_cases hk : q.1 = k
    · subst hk
      refine ⟨c0, r, List.Perm.refl _, by rw [mget_cons_eq rfl]; exact h.1, fun H' v' c' l hl ho => ⟨c' :: r, ?_, List.Perm.refl _⟩⟩
      unfold mput
      rw [if_pos rfl]
      refine ⟨by simp; exact ho, (h.2.mono hl).congr (fun j hj => ?_)⟩
      rw [if_neg]
      intro e
      subst e
      exact hn.1 hj
    · obtain ⟨c, R, h1, h2, h3⟩ := F2.take k h.2 hn.2 (fun hx => h0 (by simp only [List.map_cons, List.mem_cons, not_or]; exact ⟨fun e => hk e.symm, hx⟩))
      refine ⟨c, c0 :: R, ?_, by rw [k_b1 hk]; exact h2, fun H' v' c' l hl ho => ?_⟩
      · simp only [List.flatten_cons] at h1 ⊢
        refine (h1.append_left c0).trans ?_
        rw [← List.append_assoc, ← List.append_assoc]
        exact List.perm_append_comm.append_right _
      · obtain ⟨rows', h4, h5⟩ := h3 H' v' c' l hl ho
        refine ⟨c0 :: rows', ?_, ?_⟩
        · unfold mput
          rw [if_neg hk]
          exact ⟨by simp only [if_neg hk]; exact h.1.mono hl, h4⟩
        · simp only [List.flatten_cons] at h5 ⊢
          refine List.Perm.trans ?_ (h5.append_left c0)
          rw [← List.append_assoc, ← List.append_assoc]
          exact List.perm_append_comm.append_right _
  | [], _ :: _, _, h, _, _ => h.elim
  | _ :: _, [], _, h, _, _ => h.elim
theorem F2.read {α : Type} {E : ER α} {e : TypeId} {H H' : Heap} {f : Int → List α} : ∀ {m : MapL} {rows : Own} (k : Int), F2 E e H f m rows → HLe H H' → (∀ q ∈ rows.flatten, H' q.1 = some q.2) → (k ∉ m.map Prod.fst → f k = []) →
    RdS E H' ((mget m k).getD (.slice none 0 0)) (f k)
  | [], [], k, _, _, _, h0 => by rw [h0 (by simp)]; exact RdS.nil
  | q :: m, c0 :: r, k, h, hl, hr, h0 => by
    by_cases hk : q.1 = k
    · subst hk
      rw [mget_cons_eq rfl]
      exact h.1.read hl (fun q hq => hr q (by simp only [List.flatten_cons]; exact List.mem_append_left _ hq))
    · rw [k_b1 hk]
      exact F2.read k h.2 hl (fun q hq => hr q (by simp only [List.flatten_cons]; exact List.mem_append_right _ hq)) (fun hx => h0 (by simp only [List.map_cons, List.mem_cons, not_or]; exact ⟨fun e => hk e.symm, hx⟩))
  | [], _ :: _, _, h, _, _, _ => h.elim
  | _ :: _, [], _, h, _, _, _ => h.elim
end Go.SX
namespace Go.SX
open Go
attribute [local semireducible] T TL
end Go.SX
namespace Go.SX
open Go
attribute [local semireducible] T TL
section
variable {α : Type} {P : Program} {N : Nat} {Q : Post} {σ : Env} {H : Heap} {L : Own} {ds : List Nat} {x : Cx}
end
end Go.SX
namespace Go.SX
open Go
attribute [local semireducible] T TL
section
variable {fr : Fr} {x : Cx} {Q : Post} {σ : Env} {H : Heap} {L : Own} {ds : List Nat} {ol rest : List Oper}
variable {d : Nat} {ty : TypeId} {p : String} {af : Array Edge} {g : Option (Nat × Bool)}
end
end Go.SX
namespace Go.SX
open Go
attribute [local semireducible] T TL
section
variable {fr : Fr} {x : Cx} {Q : Post} {σ : Env} {H : Heap} {L : Own} {ds : List Nat} {ol rest : List Oper}
variable {d : Nat} {ty : TypeId} {p : String} {af : Array Edge} {g : Option (Nat × Bool)}
end
end Go.SX
namespace Go.SX
open Go
end Go.SX
namespace Go.SX
open Go
attribute [local semireducible] T TL
theorem R.ldAt {fr : Fr} {x : Cx} {Q : Post} {σ : Env} {H : Heap} {L : Own} {ds : List Nat} {ol rest : List Oper} {d : Nat} {ty : TypeId} {p : String} {af : Array Edge} {g : Option (Nat × Bool)}
    {t : TypeId} {A : Operand} {b o n : Nat} {l : List Value} {cs : Array Value} {et : TypeId} (hagg : ∀ w, (isAgg t).run fr.P w = .ok true w) (hsz : ∀ w, (sizeOf t).run fr.P w = .ok n w) (hw : wan fr.N ol σ d g = true) (ha : ev σ A = .pointer (some ⟨b, o, none⟩))
    (hin : In L [(b, .cells cs et)]) (hn : l.length = n) (hc : ∀ j u, l[j]? = some u → cs[o + j]? = some u) (h : TL fr x ol rest Q (upd σ d (.agg l.toArray)) H L ds) : TL fr x ol (⟨some d, .load t A, ty, p, af, g⟩ :: rest) Q σ H L ds :=
  TL.value hw rfl (fun w hst => by
    have hb := hst.sat.l (b, .cells cs et) (List.mem_append_left _ (hin.mem (List.mem_singleton.2 rfl)))
    have hl := run_loadCells_list (P := fr.P) w ⟨b, o, none⟩ l (fun j u hj => by rw [Addr.add_lit]; exact k_5a hb (hc j u hj))
    rw [hn] at hl
    exact ⟨_, w, H, L, by simp [execOp, Instr.loadAt, Instr.sureAddr, loadVar, ha, hagg, hsz, hl], hst, h⟩)
end Go.SX
namespace Go.SX
open Go
theorem getk {α : Type} {xs : List α} {k : Nat} (h : k < xs.length) : ∃ y, xs[k]? = some y := ⟨_, List.getElem?_eq_getElem h⟩
def fidxI {α : Type} (p : α → Bool) (xs : List α) : Int := match xs.findIdx? p with
  | some i => i
  | none => -1
theorem fidxI_at {α : Type} {p : α → Bool} {xs : List α} {k : Nat} {y : α} (hk : xs[k]? = some y) (hp : p y = true) (hlt : ∀ (j : Nat) z, j < k → xs[j]? = some z → p z = false) : fidxI p xs = k := by
  have : xs.findIdx? p = some k := by
    rw [List.findIdx?_eq_some_iff_getElem]
    have hl := (List.getElem?_eq_some_iff.1 hk).1
    refine ⟨hl, by rw [(List.getElem?_eq_some_iff.1 hk).2]; exact hp, fun j hj => ?_⟩
    have := hlt j _ hj (List.getElem?_eq_getElem (by omega))
    simp [this]
  unfold fidxI; rw [this]
theorem fidxI_none {α : Type} {p : α → Bool} {xs : List α} (hlt : ∀ (j : Nat) z, xs[j]? = some z → p z = false) : fidxI p xs = -1 := by
  have : xs.findIdx? p = none := by
    rw [List.findIdx?_eq_none_iff]
    intro z hz
    obtain ⟨j, hj⟩ := List.mem_iff_getElem?.1 hz
    exact hlt j z hj
  unfold fidxI; rw [this]
theorem fidxI_ge {α : Type} {p : α → Bool} {xs : List α} : (0 ≤ fidxI p xs) ↔ xs.any p = true := by
  unfold fidxI
  cases h : xs.findIdx? p with
  | none =>
    rw [List.findIdx?_eq_none_iff] at h
    constructor
    · intro h0; simp at h0
    · intro h0
      obtain ⟨y, hy, hp⟩ := List.any_eq_true.1 h0
      rw [h y hy] at hp; cases hp
  | some i =>
    rw [List.findIdx?_eq_some_iff_getElem] at h
    obtain ⟨h1, h2, _⟩ := h
    constructor
    · intro _; exact List.any_eq_true.2 ⟨_, List.getElem_mem h1, h2⟩
    · intro _; simp
theorem RdS.none_nil {α : Type} {E : ER α} {H : Heap} {n c : Nat} {xs : List α} (h : RdS E H (.slice none n c) xs) : xs = [] := by
  cases xs with
  | nil => rfl
  | cons a r =>
    obtain ⟨A, c, h1, _, _, h4⟩ := h
    obtain ⟨b, o, h5, _⟩ := h4 0 a rfl
    subst h5; cases h1
def cmpI (x y : Int) : Int := if x < y then -1 else if x > y then 1 else 0
theorem own_take0 {α : Type} {E : ER α} {e : TypeId} {H : Heap} {A : Option Addr} {cap : Nat} {xs : List α} {c : Chunk} (h : OwnS E e H (.slice A xs.length cap) xs c) {i : Nat} (hi : i ≤ xs.length) : OwnS E e H (.slice A i cap) (xs.take i) c := by
  have := h.take hi ⟨A, _, rfl⟩
  simp only [slcV, Nat.zero_mul, Nat.sub_zero] at this
  have e : (if cap = 0 then A else A.map fun x => x.add 0) = A := by
    split
    · rfl
    · cases A with
      | none => rfl
      | some a => simp [Addr.add_zero']
  rwa [e] at this
theorem slc_take0 {A : Option Addr} {n cap sz i : Nat} : slcV (.slice A n cap) 0 i cap sz = .slice A i cap := by
  simp only [slcV, Nat.zero_mul, Nat.sub_zero]
  congr 1
  split
  · rfl
  · cases A with
    | none => rfl
    | some a => simp [Addr.add_zero']
theorem zone_of {P : Program} {e : TypeId} {z : Value} (h : (P.info? e).map (fun i => i.zero) = some (some z)) (h1 : ∀ v ∈ z.cells.toList, v.oneCell' = true) : ∀ i z', P.info? e = some i → i.zero = some z' → ∀ v ∈ z'.cells.toList, v.oneCell' = true := by
  intro i z' hi hz
  rw [hi] at h
  simp only [Option.map_some, Option.some.injEq] at h
  rw [h] at hz
  injection hz with hz
  subst hz
  exact h1
end Go.SX
namespace Go.SX
open Go
attribute [local semireducible] T TL
def Has (L W : Own) : Prop := ∃ G : Chunk, L.flatten.Perm (W.flatten ++ G)
theorem Has.nil {L : Own} : Has L [] := ⟨L.flatten, List.Perm.refl _⟩
theorem Has.cons {L R W : Own} {c : Chunk} (h : Del L c R) (k : Has R W) : Has L (c :: W) := by
  obtain ⟨G, hG⟩ := k
  refine ⟨G, h.perm.trans ?_⟩
  rw [List.flatten_cons, List.append_assoc]
  exact hG.append_left c
theorem Has.none {L W : Own} (k : Has L W) : Has L ([] :: W) := by
  obtain ⟨G, hG⟩ := k
  exact ⟨G, by simpa using hG⟩
section
variable {fr : Fr} {x : Cx} {Q : Post} {σ : Env} {H : Heap} {L W : Own} {ds : List Nat} {ol rest : List Oper}
variable {d : Nat} {ty : TypeId} {p : String} {af : Array Edge} {g : Option (Nat × Bool)}
theorem St.has {hd : Chunk} {w : World} (h : St x H (L.flatten ++ hd) w) (k : Has L W) : St x H (W.flatten ++ hd) w := by
  obtain ⟨G, hG⟩ := k
  have h1 : St x H ((W.flatten ++ G) ++ hd) w := h.perm (hG.append_right _)
  refine h1.sub ?_
  rw [List.append_assoc]
  exact (List.sublist_append_right G hd).append_left _
theorem T.has {c : Code} (k : Has L W) (h : T fr x c Q σ H W ds) : T fr x c Q σ H L ds := fun a w hs hd hst => h a w hs hd (hst.has k)
theorem TL.has {l : List Oper} (k : Has L W) (h : TL fr x ol l Q σ H W ds) : TL fr x ol l Q σ H L ds := fun a w hs hd hst => h a w hs hd (hst.has k)
theorem R.ldX {t : TypeId} {A : Operand} {b o n : Nat} {l cs : List Value} {et : TypeId} (hagg : ∀ w, (isAgg t).run fr.P w = .ok true w) (hsz : ∀ w, (sizeOf t).run fr.P w = .ok n w) (hw : wan fr.N ol σ d g = true) (ha : ev σ A = .pointer (some ⟨b, o, none⟩))
    (hin : In L [(b, .cells cs.toArray et)]) (hl : (cs.drop o).take n = l) (hn : l.length = n) (h : TL fr x ol rest Q (upd σ d (.agg l.toArray)) H L ds) : TL fr x ol (⟨some d, .load t A, ty, p, af, g⟩ :: rest) Q σ H L ds :=
  R.ldAt hagg hsz hw ha hin hn (fun j u hj => by
    rw [← hl, List.getElem?_take] at hj
    split at hj
    · rw [List.getElem?_drop] at hj; simpa using hj
    · cases hj) h
theorem R.ldK {t : TypeId} {A : Operand} {b o n : Nat} {l : List Value} (hagg : ∀ w, (isAgg t).run fr.P w = .ok true w) (hsz : ∀ w, (sizeOf t).run fr.P w = .ok n w) (hw : wan fr.N ol σ d g = true) (ha : ev σ A = .pointer (some ⟨b, o, none⟩))
    (hc : ∀ j u, l[j]? = some u → cellAt H b (o + j) = some u) (hn : l.length = n) (h : TL fr x ol rest Q (upd σ d (.agg l.toArray)) H L ds) : TL fr x ol (⟨some d, .load t A, ty, p, af, g⟩ :: rest) Q σ H L ds :=
  TL.value hw rfl (fun w hst => by
    have hl := run_loadCells_list (P := fr.P) w ⟨b, o, none⟩ l (fun j u hj => by rw [Addr.add_lit]; exact cellAt_world hst.sat (hc j u hj))
    rw [hn] at hl
    exact ⟨_, w, H, L, by simp [execOp, Instr.loadAt, Instr.sureAddr, loadVar, ha, hagg, hsz, hl], hst, h⟩)
theorem cells_sub {b o j n : Nat} {cs l : List Value} (hc : ∀ i u, cs[i]? = some u → cellAt H b (o + i) = some u) (hl : (cs.drop j).take n = l) : ∀ i u, l[i]? = some u → cellAt H b (o + j + i) = some u := fun i u hi => by
  rw [← hl, List.getElem?_take] at hi
  split at hi
  · rw [List.getElem?_drop] at hi; rw [Nat.add_assoc]; exact hc _ _ hi
  · cases hi
theorem cells_at {b : Nat} {cs : List Value} {et : TypeId} (hb : H b = some (.cells cs.toArray et)) : ∀ i u, cs[i]? = some u → cellAt H b (0 + i) = some u := fun i u hi => by
  unfold cellAt
  rw [hb, Nat.zero_add]
  simpa using hi
theorem R.ldXH {t : TypeId} {A : Operand} {b o n : Nat} {l cs : List Value} {et : TypeId} (hagg : ∀ w, (isAgg t).run fr.P w = .ok true w) (hsz : ∀ w, (sizeOf t).run fr.P w = .ok n w) (hw : wan fr.N ol σ d g = true) (ha : ev σ A = .pointer (some ⟨b, o, none⟩))
    (hb : H b = some (.cells cs.toArray et)) (hl : (cs.drop o).take n = l) (hn : l.length = n) (h : TL fr x ol rest Q (upd σ d (.agg l.toArray)) H L ds) : TL fr x ol (⟨some d, .load t A, ty, p, af, g⟩ :: rest) Q σ H L ds :=
  R.ldK hagg hsz hw ha (fun j u hj => by have := cells_sub (o := 0) (cells_at hb) hl j u hj; rwa [Nat.zero_add] at this) hn h
theorem R.stX {t : TypeId} {A X : Operand} {b o n : Nat} {old l new : List Value} {u : Value} {et : TypeId} {L' : Own} (hsz : ∀ w, (sizeOf t).run fr.P w = .ok n w) (hw : wants ol σ g = true) (ha : ev σ A = .pointer (some ⟨b, o, none⟩)) (hx : ev σ X = u) (hu : u.cells = l.toArray)
    (hn : l.length = n) (ho : o + n ≤ old.length) (hnew : old.take o ++ l ++ old.drop (o + n) = new) (h1 : ∀ v ∈ l, v.oneCell' = true)
    (hrep : Rep L [(b, .cells old.toArray et)] [(b, .cells new.toArray et)] L') (h : TL fr x ol rest Q σ H L' ds) :
    TL fr x ol (⟨none, .store t A X, ty, p, af, g⟩ :: rest) Q σ H L ds := by
  intro a w hs hd hst
  obtain ⟨R, hp1, hp2⟩ := hrep.perm
  have hst1 : St x H ((b, .cells old.toArray et) :: (R ++ hid fr.rd ds)) w := hst.perm (by
    have := hp1.append_right (hid fr.rd ds)
    simpa using this)
  have hb := hst1.sat.l (b, .cells old.toArray et) (List.mem_cons_self ..)
  simp only at hb
  have hstore := run_storeCells_at fr.P b o et l 0 old.toArray w hb (by simp; omega) h1
  have hrow : (old.toArray.toList.take (o + 0) ++ l ++ old.toArray.toList.drop (o + 0 + l.length)) = new := by
    rw [Nat.add_zero, hn]; exact hnew
  rw [hrow] at hstore
  have hst2 : St x H ((b, .cells new.toArray et) :: (R ++ hid fr.rd ds)) (w.setRow b new.toArray) := hst1.turn rfl rfl rfl (by simp [World.setRow]) (by simp only [World.setRow]; rw [Array.getElem?_modify, if_pos rfl, hb]; rfl) (fun c hc => by
    simp only [World.setRow, Array.getElem?_modify]
    rw [if_neg (fun e => hc e.symm)])
  have hst3 : St x H (L'.flatten ++ hid fr.rd ds) (w.setRow b new.toArray) := hst2.perm (by
    have := (hp2.append_right (hid fr.rd ds)).symm
    simpa using this)
  unfold wpLo
  rw [if_pos (k_a9 hs hw)]
  refine ⟨fun f _ => fenceFn _ f, ?_⟩
  rw [k_b0 rfl, hs.eval]
  have hrun : (execOp (ev σ) ⟨none, .store t A X, ty, p, af, g⟩).run fr.P w = .ok .skip (w.setRow b new.toArray) := by
    simp [execOp, Instr.storeAt, Instr.sureAddr, storeVar, ha, hx, hu, hsz, hn, hstore]
  rw [hrun]
  exact h _ _ hs hd hst3
end
theorem cells1 {v : Value} (h : v.oneCell' = true) : v.cells = [v].toArray := by cases v <;> first | rfl | cases h
theorem k_3 {l : List Value} (h : l.all (fun v => v.oneCell') = true) : ∀ u ∈ l, u.oneCell' = true := List.all_eq_true.1 h
theorem OwnS.lit {α : Type} {E : ER α} {e : TypeId} {H : Heap} {b : Nat} {cs : List Value} {xs : List α} (hc : CellsOf E H cs xs) (hl : xs.length ≤ maxLen) : OwnS E e H (.slice (some ⟨b, 0, none⟩) xs.length xs.length) xs [(b, .cells cs.toArray e)] :=
  .inr ⟨b, _, _, rfl, rfl, Nat.le_refl _, hl, by simp [hc.length], fun i y hy => by
    obtain ⟨l, h1, h2⟩ := hc.get i y hy
    exact ⟨l, h1, fun j u hj => by simpa using h2 j u hj⟩⟩
theorem k_5 {α : Type} {E : ER α} {H : Heap} {a r : List Value} {y : α} {xs : List α} (h : E.R H a y) (k : CellsOf E H r xs) : CellsOf E H (a ++ r) (y :: xs) := ⟨a, r, rfl, h, k⟩
theorem k_7 {α : Type} {E : ER α} {H : Heap} : CellsOf E H [] ([] : List α) := rfl
theorem k_8 {α : Type} {xs : List α} {k : Nat} {y : α} (h : xs[k]? = some y) : xs.drop k = y :: xs.drop (k + 1) := by
  obtain ⟨h1, h2⟩ := List.getElem?_eq_some_iff.1 h
  rw [List.drop_eq_getElem_cons h1, h2]
theorem if_t {α : Type} {b : Bool} {x y : α} (h : b = true) : (if b = true then x else y) = x := if_pos h
theorem if_f {α : Type} {b : Bool} {x y : α} (h : b = false) : (if b = true then x else y) = y := if_neg (by rw [h]; exact Bool.false_ne_true)
inductive LR (ρ σ : Type) where
  | ret (r : ρ)
  | go (s : σ)
def LR.on {ρ σ τ : Type} : LR ρ σ → (ρ → τ) → (σ → τ) → τ
  | .ret r, f, _ => f r
  | .go s, _, k => k s
theorem LR.on_ret {ρ σ τ : Type} {r : ρ} {f : ρ → τ} {k : σ → τ} : LR.on (.ret r) f k = f r := rfl
theorem LR.on_go {ρ σ τ : Type} {s : σ} {f : ρ → τ} {k : σ → τ} : LR.on (.go s) f k = k s := rfl
end Go.SX
namespace Go.SX
open Go
attribute [local semireducible] T TL
theorem T.cutK {fr : Fr} {x : Cx} {Q : Post} {σ : Env} {H : Heap} {L : Own} {ds : List Nat} {ι : Type} {a : Code} {K : Env → Heap → Own → List Nat → Prop} (I : ι → Heap → Own → List Nat → Prop) (sl : ι → List (Nat × Value))
    (h : T fr x a (Post.thn (fun σ' H' L' ds' => ∃ i, HLe H H' ∧ I i H' L' ds' ∧ Slots σ' (sl i)) Q) σ H L ds)
    (k : ∀ i σ' H' L' ds', HLe H H' → I i H' L' ds' → K (chain σ' (sl i)) H' L' ds') : T fr x a (Post.thn K Q) σ H L ds := by
  refine T.mono h ?_
  intro e σ' H' L' ds' hq
  cases e with
  | normal =>
    obtain ⟨i, h1, h2, h3⟩ := hq
    have := k i σ' H' L' ds' h1 h2
    rw [h3.chain] at this
    exact this
  | _ => exact hq
theorem RdS.one {α : Type} {E : ER α} {H : Heap} {v : Value} {xs : List α} (h : RdS E H v xs) : v.oneCell' = true := by
  obtain ⟨A, c, rfl, _⟩ := h; rfl
theorem Src.ownA {α : Type} {E : ER α} {e : TypeId} {H : Heap} {v : Value} {xs : List α} {c : Chunk} (h : OwnS E e H v xs c) : ∃ cs, CellsOf E H cs xs ∧ ∀ L, In L c → Src H L v xs.length cs := by
  rcases h with ⟨rfl, rfl, rfl⟩ | ⟨b, cap, ar, rfl, rfl, h3, h4, h5, h6⟩
  · exact ⟨[], rfl, fun L _ => ⟨none, 0, rfl, .inl rfl, fun b o e => by cases e⟩⟩
  · obtain ⟨cs, h7, h8⟩ := cells_of_get (H := H) xs (fun j => ar[j]?) h6
    refine ⟨cs, h7, fun L hin => ⟨_, cap, rfl, .inr ⟨b, 0, rfl⟩, fun b' o' e' hd w hs j u hj => ?_⟩⟩
    cases e'
    have hb := hs.l (b, .cells ar e) (List.mem_append_left _ (hin.mem (List.mem_singleton.2 rfl)))
    rw [Nat.zero_add]
    exact k_5a hb (h8 j u hj)
def LR.seq {α β : Type} (a : α) (k : α → β) : β := k a
theorem LR.seq_go {α β : Type} {a : α} {k : α → β} : LR.seq a k = k a := rfl
end Go.SX
namespace Go.SX
open Go
theorem Has.refl (L : Own) : Has L L := ⟨[], by simp⟩
theorem drop_pre {α : Type} {xs pre : List α} {y : α} (h : (pre ++ [y]) <+: xs) : xs.drop pre.length = y :: xs.drop (pre ++ [y]).length := by
  obtain ⟨t, rfl⟩ := h
  rw [List.drop_left' rfl, List.append_assoc, List.drop_left' rfl]; rfl
theorem pf_one {α : Type} {y : α} {r : List α} : [y] <+: (y :: r) := ⟨r, rfl⟩
theorem pf_app {α : Type} {l a b : List α} (h : a <+: b) : (l ++ a) <+: (l ++ b) := by
  obtain ⟨t, rfl⟩ := h; exact ⟨t, by rw [List.append_assoc]⟩
theorem pf_l {α : Type} {a b r : List α} (h : a <+: b) : a <+: (b ++ r) := h.trans (List.prefix_append _ _)
end Go.SX
namespace Go.SX
open Go
abbrev c24 (w : Fin 24 → Int) (l : List Value) : List Value := .int .i64 (w 0) :: .int .i64 (w 1) :: .int .i64 (w 2) :: .int .i64 (w 3) :: .int .i64 (w 4) :: .int .i64 (w 5) :: .int .i64 (w 6) :: .int .i64 (w 7) :: .int .i64 (w 8) :: .int .i64 (w 9) :: .int .i64 (w 10) :: .int .i64 (w 11) :: .int .i64 (w 12) :: .int .i64 (w 13) :: .int .i64 (w 14) :: .int .i64 (w 15) :: .int .i64 (w 16) :: .int .i64 (w 17) :: .int .i64 (w 18) :: .int .i64 (w 19) :: .int .i64 (w 20) :: .int .i64 (w 21) :: .int .i64 (w 22) :: .int .i64 (w 23) :: l
abbrev zSt : List Value := c24 (fun _ => 0) [.int .i64 0, .slice none 0 0, .slice none 0 0, .slice none 0 0, .slice none 0 0]
abbrev sl {α : Type} (A : Option Addr) (l : List α) (c : Nat) : Value := .slice A l.length c
abbrev ZR := Int × (List Int) × (List (List Int))
abbrev ZL := Int × (Bool × Bool × Int × Int × Int)
abbrev ZS := (Fin 24 → Int) × (Int × (List (Int × Bool)) × (List Int)) × (List ZL) × (List ZR)
abbrev gF (H : Heap) (b : Nat) (t : TypeId) : Prop := H b = some (.cells #[.int .i64 1, .bool true, .bool true, .int .i64 0, .int .i64 1, .int .i64 2, .int .i64 2, .bool true, .bool false, .int .i64 0, .int .i64 0, .int .i64 2] t)
abbrev gA (H : Heap) (b : Nat) (t : TypeId) : Prop := H b = some (.cells #[.int .i64 0, .bool true] t)
theorem lA {p : Prop} (h : p := by (try simp only [List.length_append, List.length_cons, List.length_nil, List.length_replicate, List.length_take, List.length_drop]); omega) : p := h
theorem lit1 {α : Type} {E : ER α} {e : TypeId} {H : Heap} {b : Nat} {y : α} {a : List Value} (h : E.R H a y) : OwnS E e H (.slice (some ⟨b, 0, none⟩) 1 1) [y] [(b, .cells a.toArray e)] := by
  have := OwnS.lit (e := e) (b := b) (xs := [y]) (k_5 h k_7) (by show 1 ≤ maxLen; decide)
  rwa [List.append_nil] at this
attribute [local semireducible] T TL
section
variable {fr : Fr} {x : Cx} {Q : Post} {σ : Env} {H : Heap} {L : Own} {ds : List Nat} {ol rest : List Oper} {d : Nat} {op : Op} {ty : TypeId} {p : String} {af : Array Edge} {g : Option (Nat × Bool)} {n : Nat} {pend : List Nat} {v : Value}
theorem eA (h : Plan fr x ol Q ds n pend (upd σ d v) H L) : TL fr x ol [] (nextP ds (fun σ' H' L' => HLe H H' ∧ (∀ t, (⟨some d, op, ty, p, af, g⟩ : Oper).dst ≠ some t → σ' t = σ t) ∧ Plan fr x ol Q ds n pend σ' H' L')) (upd σ d v) H L ds := TL.nil (Plan.e1 (HLe.refl _) h)
theorem eB (h : Plan fr x ol Q ds n pend σ H L) : TL fr x ol [] (nextP ds (fun σ' H' L' => HLe H H' ∧ (∀ t, (⟨none, op, ty, p, af, g⟩ : Oper).dst ≠ some t → σ' t = σ t) ∧ Plan fr x ol Q ds n pend σ' H' L')) σ H L ds := TL.nil (Plan.e0 (HLe.refl _) h)
theorem mA {X : Operand} (h : TL fr x ol rest Q (upd σ d v) H L ds) (hw : wan fr.N ol σ d g = true := by rfl) (hv : ev σ X = v := by conv => lhs; whnf) : TL fr x ol (⟨some d, .move X, ty, p, af, g⟩ :: rest) Q σ H L ds := R.mvE hw hv h
theorem aA {X : Operand} (h : TL fr x ol rest Q (upd σ d v) H L ds) (hw : wan fr.N ol σ d g = true := by rfl) (hv : ev σ X = v := by conv => lhs; whnf) : TL fr x ol (⟨some d, .assign X, ty, p, af, g⟩ :: rest) Q σ H L ds := R.asE hw hv h
theorem oF {j : Nat} {b c : Bool} (h : TL fr x ol rest Q (upd σ d undef) H L ds) (hdN : Nat.blt d fr.N = true := by rfl) (hy : yl ol σ j = some c := by rfl) (hne : beqB c b = false := by rfl) : TL fr x ol (⟨some d, op, ty, p, af, some (j, b)⟩ :: rest) Q σ H L ds := TL.off hdN hy hne h
theorem fA {t : TypeId} {fs : Array Field} {f : Field} {X : Operand} {b o i sz : Nat} (ht : fr.P.underlying t = some (.struct fs)) (hf : fs[i]? = some f) (hsz : ∀ w, (sizeOf f.type).run fr.P w = .ok sz w)
    (h : TL fr x ol rest Q (upd σ d (.pointer (some ⟨b, o + f.offset, none⟩))) H L ds) (hs0 : sz ≠ 0 := by decide) (hw : wan fr.N ol σ d g = true := by rfl) (hv : ev σ X = .pointer (some ⟨b, o, none⟩) := by rfl) : TL fr x ol (⟨some d, .fieldAddr t X i, ty, p, af, g⟩ :: rest) Q σ H L ds := R.fldA ht hf hsz hs0 hw hv h
theorem vP {t : TypeId} {fs : Array Field} {f : Field} {X : Operand} {b o ix sz : Nat} (i : Nat) (pend' : List Nat) (ho : nth ol i = some ⟨some d, .fieldAddr t X ix, ty, p, af, g⟩) (ht : fr.P.underlying t = some (.struct fs)) (hf : fs[ix]? = some f) (hsz : ∀ w, (sizeOf f.type).run fr.P w = .ok sz w)
    (h : Plan fr x ol Q ds n pend' (upd σ d (.pointer (some ⟨b, o + f.offset, none⟩))) H L) (hs0 : sz ≠ 0 := by decide) (hw : wan fr.N ol σ d g = true := by rfl) (hv : ev σ X = .pointer (some ⟨b, o, none⟩) := by rfl)
    (hi : pend.contains i = true := by kernel_rfl) (he : pend.erase i = pend' := by kernel_rfl) (hr : vready ol pend i = true := by kernel_rfl) (hfr : freshOk ol i = true := by kernel_rfl) : Plan fr x ol Q ds (n + 1) pend σ H L :=
  Plan.v i pend' hi he hr hfr ho (fun _ _ h_ => R.fldA ht hf hsz hs0 hw hv (TL.nil h_)) h
theorem stY {t : TypeId} {A X : Operand} {b o m : Nat} {old l new : List Value} {u : Value} {et : TypeId} {L' : Own} (hrep : Rep L [(b, .cells old.toArray et)] [(b, .cells new.toArray et)] L') (hsz : ∀ w, (sizeOf t).run fr.P w = .ok m w) (hx : ev σ X = u) (hu : u.cells = l.toArray)
    (h : TL fr x ol rest Q σ H L' ds) (ha : ev σ A = .pointer (some ⟨b, o, none⟩) := by rfl) (hw : wants ol σ g = true := by rfl) (hn : l.length = m := by rfl) (ho : o + m ≤ old.length := by exact Nat.le_of_ble_eq_true rfl) (hnew : old.take o ++ l ++ old.drop (o + m) = new := by rfl) (h1 : ∀ v ∈ l, v.oneCell' = true := by exact k_3 rfl) :
    TL fr x ol (⟨none, .store t A X, ty, p, af, g⟩ :: rest) Q σ H L ds := R.stX hsz hw ha hx hu hn ho hnew h1 hrep h
end
end Go.SX
namespace Go.SX
open Go
abbrev U (x : Int) : Prop := 0 ≤ x ∧ x < 18446744073709551616
def made (m a b : Int) : Int := m + a * 4294967296 + b
def withinB (lo mo : Int) (l : List Int) : Bool := l.all (fun n => decide (lo ≤ n) && decide (n ≤ mo))
theorem wrap_u64 {x : Int} (h : U x) : IntKind.u64.wrap x = x := by
  obtain ⟨h1, h2⟩ := h
  have : x % 18446744073709551616 = x := Int.emod_eq_of_lt h1 h2
  simpa [IntKind.wrap, IntKind.bits, IntKind.signed] using this
theorem wrap_i64 {x : Int} (h0 : -9223372036854775808 ≤ x) (h1 : x < 9223372036854775808) : IntKind.i64.wrap x = x := IntWalk.i64_in _ ⟨h0, by omega⟩
theorem ofInt_toNat {x : Int} (h : U x) : (BitVec.ofInt 64 x).toNat = x.toNat := by
  obtain ⟨h1, h2⟩ := h
  rw [BitVec.toNat_ofInt]
  have : x % ((2 ^ 64 : Nat) : Int) = x := Int.emod_eq_of_lt h1 (by simpa using h2)
  rw [this]
theorem bshl32 {a : Int} (h : 0 ≤ a ∧ a < 1073741824) : bshl .u64 a 32 = a * 4294967296 := by
  show IntKind.u64.wrap (a * 2 ^ (min (32 : Int).toNat 64)) = _
  exact wrap_u64 ⟨by show 0 ≤ a * 4294967296; omega, by show a * 4294967296 < _; omega⟩
theorem bor_add {u v : Int} (i : Nat) (q : Nat) (hu : u = (q * 2 ^ i : Nat)) (hv : 0 ≤ v ∧ v < (2 ^ i : Nat)) (h : U (u + v)) : bor .u64 u v = u + v := by
  have hu0 : U u := by obtain ⟨h1, h2⟩ := h; exact ⟨by rw [hu]; exact Int.natCast_nonneg _, by omega⟩
  have hv0 : U v := by obtain ⟨h1, h2⟩ := h; exact ⟨hv.1, by have := hu0.1; omega⟩
  have h1 : (BitVec.ofInt 64 u ||| BitVec.ofInt 64 v).toNat = u.toNat + v.toNat := by
    rw [BitVec.toNat_or, ofInt_toNat hu0, ofInt_toNat hv0, hu, Int.toNat_natCast]
    have := Nat.shiftLeft_add_eq_or_of_lt (a := q) (b := v.toNat) (i := i) (by have := hv.1; have := hv.2; omega)
    rw [Nat.shiftLeft_eq] at this
    exact this.symm
  have h2 : ((BitVec.ofInt 64 u ||| BitVec.ofInt 64 v).toNat : Int) = u + v := by
    rw [h1]; have := hu0.1; have := hv0.1; omega
  show IntKind.u64.wrap ((BitVec.ofInt 64 u ||| BitVec.ofInt 64 v).toNat : Int) = _
  rw [h2]
  exact wrap_u64 h
theorem pack_eq {m a b : Int} (hm : m = 0 ∨ m = 4611686018427387904 ∨ m = 9223372036854775808) (ha : 0 ≤ a ∧ a < 1073741824) (hb : 0 ≤ b ∧ b < 1073741824) :
    bor .u64 (bor .u64 m (bshl .u64 (IntKind.u64.wrap a) 32)) (IntKind.u64.wrap b) = made m a b := by
  rw [wrap_u64 ⟨ha.1, by omega⟩, wrap_u64 ⟨hb.1, by omega⟩, bshl32 ha]
  have h1 : bor .u64 m (a * 4294967296) = m + a * 4294967296 := by
    refine bor_add 62 (m / 4611686018427387904).toNat ?_ ⟨by omega, ?_⟩ ⟨by omega, by omega⟩
    · rcases hm with rfl | rfl | rfl <;> rfl
    · show _ < ((4611686018427387904 : Nat) : Int); omega
  rw [h1]
  refine bor_add 32 (m / 4294967296 + a).toNat ?_ ⟨hb.1, ?_⟩ ⟨by omega, by omega⟩
  · rw [Int.natCast_mul, Int.toNat_of_nonneg (by omega)]
    show _ = (m / 4294967296 + a) * 4294967296
    omega
  · show _ < ((4294967296 : Nat) : Int); omega
theorem take_snoc {α : Type} (l : List α) (k : Nat) (y : α) (h : l[k]? = some y) : l.take (k + 1) = l.take k ++ [y] := by
  rw [List.take_add_one, h]; rfl
end Go.SX
namespace Go.SX
open Go Go.Proofs Go.Proofs.Tryz
theorem k_aa : TyE Tryz.prog 25 3 (intE .i64) 8 := TyE.mk' (z := .int .i64 0) underlying25 (by kernel_rfl) rfl (by decide)
theorem k_2f : Tryz.prog.follows .mixedOrders = true := by kernel_rfl
def k_e (a0 : Int) : Int × Int :=
  ((IntKind.i64.wrap (band .u64 (bshr .u64 a0 32) 1073741823)), (IntKind.i64.wrap (band .u64 a0 1073741823)))
theorem ident_halves_c (H : Heap) (a0 : Int) : Fv Tryz.prog (fnv 56) [.int .u64 a0] H (.tuple #[.int .i64 (k_e a0).1, .int .i64 (k_e a0).2]) := by
 refine Fc.of_body (N := 11) func56 rfl kA rfl rfl ?_
 intro w0
 refine sR (aA ?_)
 refine aA ?_
 refine nN (sR (mA ?_))
 refine R.shr rfl rfl rfl oA ?_
 refine R.and rfl rfl rfl ?_
 refine R.conv underlying39 underlying3 rfl rfl ?_
 refine mA ?_
 refine R.and rfl rfl rfl ?_
 refine R.conv underlying39 underlying3 rfl rfl ?_
 refine aA ?_
 refine aA ?_
 refine nN (T.has Has.nil ?_)
 refine T.ret ?_
 have hM : k_e a0 = ((IntKind.i64.wrap (band .u64 (bshr .u64 a0 32) 1073741823)), (IntKind.i64.wrap (band .u64 a0 1073741823))) := by rw [k_e]
 exact fin2L (v := .int .i64 (IntKind.i64.wrap (band .u64 (bshr .u64 a0 32) 1073741823))) (v' := .int .i64 (IntKind.i64.wrap (band .u64 a0 1073741823))) [] rfl rfl rfl (List.Sublist.refl _) ⟨rfl, by first | rw [hM] | rfl⟩
def k_42 (a0 : Int) (a1 : Int) (a2 : Int) : Int :=
  (bor .u64 (bor .u64 a0 (bshl .u64 (IntKind.u64.wrap a1) 32)) (IntKind.u64.wrap a2))
theorem k_ac (H : Heap) (a0 : Int) (a1 : Int) (a2 : Int) : Fv Tryz.prog (fnv 105) [.int .u64 a0, .int .i64 a1, .int .i64 a2] H (.int .u64 (k_42 a0 a1 a2)) := by
 refine Fc.of_body (N := 15) func105 rfl kA rfl rfl ?_
 intro w0
 refine sR (aA ?_)
 refine nN (sR (mA ?_))
 refine mA ?_
 refine R.conv underlying3 underlying39 rfl rfl ?_
 refine R.shl rfl rfl rfl oA ?_
 refine R.or rfl rfl rfl ?_
 refine mA ?_
 refine R.conv underlying3 underlying39 rfl rfl ?_
 refine R.or rfl rfl rfl ?_
 refine aA ?_
 refine nN (T.has Has.nil ?_)
 refine T.ret ?_
 have hM : k_42 a0 a1 a2 = (bor .u64 (bor .u64 a0 (bshl .u64 (IntKind.u64.wrap a1) 32)) (IntKind.u64.wrap a2)) := by rw [k_42]
 exact fin1L (v := .int .u64 (bor .u64 (bor .u64 a0 (bshl .u64 (IntKind.u64.wrap a1) 32)) (IntKind.u64.wrap a2))) [] rfl rfl (List.Sublist.refl _) ⟨rfl, by first | rw [hM] | rfl⟩
def k_5f (a0 : Int) (a1 : Int) : List Int → Bool → Bool
  | [], sl2 => sl2
  | yl2 :: ysl2, sl2 => LR.seq (if a0 ≤ yl2 then ((decide (yl2 ≤ a1))) else false : Bool) (fun sc3 => if (!sc3) = true then sc3 else (k_5f a0 a1 ysl2 sc3))
def k_24 (a0 : Int) (a1 : Int) (a2 : List Int) : Bool :=
  LR.seq (LR.seq (k_5f a0 a1 a2 true) (fun ol2 => ol2) : Bool) (fun sc1 => sc1)
theorem k_91 (H : Heap) (a0 : Int) (a1 : Int) (va2 : Value) (a2 : List Int) (ha2 : RdS (intE .i64) H va2 a2) : Fv Tryz.prog (fnv 106) [.int .i64 a0, .int .i64 a1, va2] H (.bool (k_24 a0 a1 a2)) := by
 refine Fc.of_body (N := 28) func106 rfl kA rfl rfl ?_
 intro w0
 obtain ⟨Aa2, ca2, rfl, hca2, hda2, ha2⟩ := ha2.shape
 refine sR (aA ?_)
 refine nN (T.scope ?_)
 refine sR (aA ?_)
 refine nN (T.seq (T.label (Post.thnN ?_)))
 refine T.seq (sR (mA ?_))
 refine R.len underlying25 rfl rfl ?_
 refine mA ?_
 refine nN (T.cutK (ι := Bool) (fun a6 H' L' ds' => Has L' [] ∧ (LR.seq (k_5f a0 a1 a2 true) (fun ol2 => ol2) : Bool) = a6) (fun a6 => [(7, .bool (a6))]) ?_ ?_)
 refine T.block (T.loop (ι := Nat × Bool) (fun ⟨a3, a4⟩ H' L' ds' => a3 ≤ a2.length ∧ Has L' [] ∧ k_5f a0 a1 (a2.drop a3) a4 = k_5f a0 a1 a2 true) (fun ⟨a3, a4⟩ => [(12, .int .i64 (a3 : Int)), (0, .int .i64 a0), (1, .int .i64 a1), (7, .bool (a4)), (10, .slice Aa2 a2.length ca2), (11, .int .i64 (a2.length : Int))]) (fun ⟨a3, a4⟩ => a2.length - a3) (0, true) ?_ ?_ ?_)
 exact ⟨oA, Has.nil, (by rfl)⟩
 exact ⟨rfl, rfl, rfl, rfl, rfl, rfl, trivial⟩
 intro ⟨a3, a4⟩ σ_l2 H_l2 L_l2 ds_l2 a7 a8
 obtain ⟨hkl2, a8⟩ := a8
 obtain ⟨hLl2, b0⟩ := a8
 refine T.has hLl2 ?_
 refine sR (R.lss rfl rfl rfl ?_)
 refine nN (T.seq (T.condD rfl (fun c13 => ?_) (fun c13 => ?_)))
 have hltl2 : a3 < a2.length := by omega
 obtain ⟨b3, b1⟩ := getk (xs := a2) (k := a3) oA
 refine T.skip (Post.thnN (T.seq ?_))
 refine T.block (sR ?_)
 obtain ⟨b14, o14, i14, k14⟩ := RdS.elem (ha2.mono a7) b1
 obtain ⟨l14, g14, k14⟩ := k14
 obtain rfl : l14 = [.int .i64 b3] := g14
 refine R.ixp underlying25 sizeOf3 rfl rfl rfl oA i14 ?_
 refine R.ldC isAgg3 rfl rfl (k14 0 _ rfl) ?_
 refine aA ?_
 refine nN (T.seq (T.cutK (ι := Bool) (fun a5 H' L' ds' => Has L' [] ∧ (if a0 ≤ b3 then ((decide (b3 ≤ a1))) else false : Bool) = a5) (fun a5 => [(0, .int .i64 a0), (1, .int .i64 a1), (7, .bool (a5)), (10, .slice Aa2 a2.length ca2), (11, .int .i64 (a2.length : Int)), (12, .int .i64 (a3 : Int))]) ?_ ?_))
 refine T.region (mA ?_)
 refine mA ?_
 refine R.geq rfl rfl rfl ?_
 refine mA ?_
 refine TL.gsplitD 19 rfl (fun g19 => ?_) (fun g19 => ?_)
 refine mA ?_
 refine mA ?_
 refine R.leq rfl rfl rfl ?_
 refine R.pkTE rfl rfl cA ?_
 refine aA ?_
 refine nN ?_
 exact ⟨(decide (b3 ≤ a1)), HLe.refl _, ⟨Has.nil, (by rw [if_pos g19])⟩, rfl, rfl, rfl, rfl, rfl, rfl, trivial⟩
 refine oF ?_
 refine oF ?_
 refine oF ?_
 refine R.pkFE rfl rfl cA ?_
 refine aA ?_
 refine nN ?_
 exact ⟨false, HLe.refl _, ⟨Has.nil, (by rw [if_neg g19])⟩, rfl, rfl, rfl, rfl, rfl, rfl, trivial⟩
 intro a5 σ_c3 H_c3 L_c3 ds_c3 b4 b6
 obtain ⟨hLc3, b5⟩ := b6
 refine T.has hLc3 ?_
 refine sR (mA ?_)
 refine R.not rfl rfl ?_
 refine nN (T.cond rfl (fun a9 => ?_) (fun a9 => ?_))
 refine T.set 25 (.bool true) (congrArg Value.bool a9) ?_
 refine T.exit (Post.blkE rfl (Post.thnE (Post.thnE (Post.blkX ?_))))
 have b2 : k_5f a0 a1 a2 true = a5 := (by rw [← b0, k_8 b1, k_5f]; rw [b5, LR.seq_go, if_t a9])
 refine id (Post.thnN ?_)
 exact ⟨a5, (a7.trans b4), ⟨Has.nil, (by rw [b2, LR.seq_go])⟩, rfl, trivial⟩
 refine T.set 25 (.bool false) (congrArg Value.bool a9) ?_
 refine T.skip (Post.blkN ?_)
 refine id (Post.thnN (T.region ?_))
 refine R.addI rfl rfl rfl oA ?_
 refine mA ?_
 refine nN ?_
 exact ⟨(a3 + 1, a5), (a7.trans b4), ⟨oA, Has.nil, (by rw [← b0, k_8 b1, k_5f]; rw [b5, LR.seq_go, if_f a9])⟩, by show a2.length - (a3 + 1) < a2.length - a3; omega, rfl, rfl, rfl, rfl, rfl, rfl, trivial⟩
 refine T.exit (Post.thnE (Post.thnE (Post.blkX ?_)))
 have b2 : k_5f a0 a1 a2 true = a4 := (b0.symm.trans (by rw [show a3 = a2.length by omega, List.drop_length, k_5f]))
 refine id (Post.thnN ?_)
 exact ⟨a4, a7, ⟨Has.nil, (by rw [b2, LR.seq_go])⟩, rfl, trivial⟩
 intro a6 σ_c1 H_c1 L_c1 ds_c1 s_c1 b7
 obtain ⟨hLc1, hTc1⟩ := b7
 refine T.has hLc1 ?_
 refine sR (mA ?_)
 refine aA ?_
 refine nN (T.has Has.nil ?_)
 refine T.ret (Post.ngR ?_)
 have hM : k_24 a0 a1 a2 = a6 := by rw [k_24, hTc1, LR.seq_go]
 exact fin1L (v := .bool (a6)) [] rfl rfl (List.Sublist.refl _) ⟨rfl, by first | rw [hM] | rfl⟩
def k_99 (q0 : Int) (q1 : Int) (q2 : Int) : Bool :=
  if q0 = (k_42 0 q1 q2) then (if (k_24 1 1048578 [q2]) = true then ((k_24 0 7 [q1])) else false) else false
theorem identKind1_c (H : Heap) (a2 : Nat) (q0 : Int) (hb0 : H a2 = some (.cells #[.int .u64 q0] 39)) (a3 : Nat) (q1 : Int) (hb1 : H a3 = some (.cells #[.int .i64 q1] 3)) (a4 : Nat) (q2 : Int) (hb2 : H a4 = some (.cells #[.int .i64 q2] 3)) : Fv Tryz.prog (.func (.func 104) #[] ([.pointer (some ⟨a2, 0, none⟩), .pointer (some ⟨a3, 0, none⟩), .pointer (some ⟨a4, 0, none⟩)] : List Value).toArray) [] H (.bool (k_99 q0 q1 q2)) := by
 refine Fc.of_body (N := 19) func104 rfl kA rfl rfl ?_
 intro w0
 refine sR (aA ?_)
 refine nN (T.seq (T.draw k_2f kA ?_))
 refine vA 0 [1, 2, 3, 4, 5, 6, 7, 8, 9, 10, 11, 12, 13, 14, 15] rfl (fun _ _ h_ => R.ldH isAgg39 rfl rfl hb0 rfl (TL.nil h_)) ?_
 refine vA 1 [2, 3, 4, 5, 6, 7, 8, 9, 10, 11, 12, 13, 14, 15] rfl (fun _ _ h_ => R.ldH isAgg3 rfl rfl hb1 rfl (TL.nil h_)) ?_
 refine vA 2 [3, 4, 5, 6, 7, 8, 9, 10, 11, 12, 13, 14, 15] rfl (fun _ _ h_ => R.ldH isAgg3 rfl rfl hb2 rfl (TL.nil h_)) ?_
 refine vA 3 [4, 5, 6, 7, 8, 9, 10, 11, 12, 13, 14, 15] rfl (fun _ _ h_ => R.callv rfl rfl rfl (k_ac _ (0) (q1) (q2)) (TL.nil h_)) ?_
 refine vA 4 [5, 6, 7, 8, 9, 10, 11, 12, 13, 14, 15] rfl (fun _ _ h_ => R.eql rfl rfl rfl (TL.nil h_)) ?_
 refine vM 5 [6, 7, 8, 9, 10, 11, 12, 13, 14, 15] rfl rfl cA ?_
 refine Plan.gsplitD 9 rfl (fun g9 => ?_) (fun g9 => ?_)
 refine vA 6 [7, 8, 9, 10, 11, 12, 13, 14, 15] rfl (fun _ _ h_ => R.ldH isAgg3 rfl rfl hb2 rfl (TL.nil h_)) ?_
 refine Plan.s1 7 [8, 9, 10, 11, 12, 13, 14, 15] kA kA rfl ?_
 refine R.bs rfl (k_4 underlying25 sizeOf3 zeroValue3 rfl rfl) ?_
 intro b11
 have w11 := lit1 (E := (intE .i64)) (e := 3) (H := H) (b := b11) (y := q2) (a := [.int .i64 q2]) rfl
 refine eA ?_
 refine Plan.s1 8 [9, 10, 11, 12, 13, 14, 15] kA kA rfl ?_
 refine TL.shut .hd ?_
 intro a5 a0 a6
 have a7 := OwnS.read w11 a0 a6
 refine R.callv rfl rfl rfl (k_91 _ (1) (1048578) _ [q2] a7) ?_
 refine TL.nil (Plan.e1 (a0) ?_)
 refine vA 9 [10, 11, 12, 13, 14, 15] rfl (fun _ _ h_ => R.pkTE rfl rfl cA (TL.nil h_)) ?_
 refine vM 10 [11, 12, 13, 14, 15] rfl rfl cA ?_
 refine Plan.gsplit 14 rfl (fun g14 => ?_) (fun g14 => ?_)
 refine vA 11 [12, 13, 14, 15] rfl (fun _ _ h_ => R.ldH isAgg3 rfl rfl (a0 _ _ hb1) rfl (TL.nil h_)) ?_
 refine Plan.s1 12 [13, 14, 15] kA kA rfl ?_
 refine R.bs rfl (k_4 underlying25 sizeOf3 zeroValue3 rfl rfl) ?_
 intro b16
 have w16 := lit1 (E := (intE .i64)) (e := 3) (H := a5) (b := b16) (y := q1) (a := [.int .i64 q1]) rfl
 refine eA ?_
 refine Plan.s1 13 [14, 15] kA kA rfl ?_
 refine TL.shut .hd ?_
 intro HF16_4 a1 a8
 have a9 := OwnS.read w16 a1 a8
 refine R.callv rfl rfl rfl (k_91 _ (0) (7) _ [q1] a9) ?_
 refine TL.nil (Plan.e1 (a1) ?_)
 refine vA 14 [15] rfl (fun _ _ h_ => R.pkTE rfl rfl cA (TL.nil h_)) ?_
 refine vA 15 [] rfl (fun _ _ h_ => aA (TL.nil h_)) ?_
 refine Plan.done (Post.thnN ?_)
 refine T.has Has.nil ?_
 refine T.ret ?_
 have hM : k_99 q0 q1 q2 = (k_24 0 7 [q1]) := by rw [k_99, if_pos g9, if_t g14]
 exact fin1L (v := .bool ((k_24 0 7 [q1]))) [] rfl rfl (List.Sublist.refl _) ⟨rfl, by first | rw [hM] | rfl⟩
 refine vO 11 [12, 13, 14, 15] rfl rfl rfl rfl ?_
 refine vO 12 [13, 14, 15] rfl rfl rfl rfl ?_
 refine vO 13 [14, 15] rfl rfl rfl rfl ?_
 refine vA 14 [15] rfl (fun _ _ h_ => R.pkFE rfl rfl cA (TL.nil h_)) ?_
 refine vA 15 [] rfl (fun _ _ h_ => aA (TL.nil h_)) ?_
 refine Plan.done (Post.thnN ?_)
 refine T.has Has.nil ?_
 refine T.ret ?_
 have hM : k_99 q0 q1 q2 = false := by rw [k_99, if_pos g9, if_f g14]
 exact fin1L (v := .bool false) [] rfl rfl (List.Sublist.refl _) ⟨rfl, by first | rw [hM] | rfl⟩
 refine vO 6 [7, 8, 9, 10, 11, 12, 13, 14, 15] rfl rfl rfl rfl ?_
 refine vO 7 [8, 9, 10, 11, 12, 13, 14, 15] rfl rfl rfl rfl ?_
 refine vO 8 [9, 10, 11, 12, 13, 14, 15] rfl rfl rfl rfl ?_
 refine vA 9 [10, 11, 12, 13, 14, 15] rfl (fun _ _ h_ => R.pkFE rfl rfl cA (TL.nil h_)) ?_
 refine vM 10 [11, 12, 13, 14, 15] rfl rfl cA ?_
 refine vO 11 [12, 13, 14, 15] rfl rfl rfl rfl ?_
 refine vO 12 [13, 14, 15] rfl rfl rfl rfl ?_
 refine vO 13 [14, 15] rfl rfl rfl rfl ?_
 refine vA 14 [15] rfl (fun _ _ h_ => R.pkFE rfl rfl cA (TL.nil h_)) ?_
 refine vA 15 [] rfl (fun _ _ h_ => aA (TL.nil h_)) ?_
 refine Plan.done (Post.thnN ?_)
 refine T.has Has.nil ?_
 refine T.ret ?_
 have hM : k_99 q0 q1 q2 = false := by rw [k_99, if_neg g9]
 exact fin1L (v := .bool false) [] rfl rfl (List.Sublist.refl _) ⟨rfl, by first | rw [hM] | rfl⟩
def k_a5 (q0 : Int) (q1 : Int) : Bool :=
  if q0 = (k_42 4611686018427387904 0 q1) then ((k_24 1 24 [q1])) else false
theorem identKind2_c (H : Heap) (a0 : Nat) (q0 : Int) (hb0 : H a0 = some (.cells #[.int .u64 q0] 39)) (a1 : Nat) (q1 : Int) (hb1 : H a1 = some (.cells #[.int .i64 q1] 3)) : Fv Tryz.prog (.func (.func 107) #[] ([.pointer (some ⟨a0, 0, none⟩), .pointer (some ⟨a1, 0, none⟩)] : List Value).toArray) [] H (.bool (k_a5 q0 q1)) := by
 refine Fc.of_body (N := 12) func107 rfl kA rfl rfl ?_
 intro w0
 refine sR (aA ?_)
 refine nN (T.seq (T.draw k_2f kA ?_))
 refine vA 0 [1, 2, 3, 4, 5, 6, 7, 8, 9] rfl (fun _ _ h_ => R.ldH isAgg39 rfl rfl hb0 rfl (TL.nil h_)) ?_
 refine vA 1 [2, 3, 4, 5, 6, 7, 8, 9] rfl (fun _ _ h_ => R.ldH isAgg3 rfl rfl hb1 rfl (TL.nil h_)) ?_
 refine vA 2 [3, 4, 5, 6, 7, 8, 9] rfl (fun _ _ h_ => R.callv rfl rfl rfl (k_ac _ (4611686018427387904) (0) (q1)) (TL.nil h_)) ?_
 refine vA 3 [4, 5, 6, 7, 8, 9] rfl (fun _ _ h_ => R.eql rfl rfl rfl (TL.nil h_)) ?_
 refine vM 4 [5, 6, 7, 8, 9] rfl rfl cA ?_
 refine Plan.gsplitD 7 rfl (fun g7 => ?_) (fun g7 => ?_)
 refine vA 5 [6, 7, 8, 9] rfl (fun _ _ h_ => R.ldH isAgg3 rfl rfl hb1 rfl (TL.nil h_)) ?_
 refine Plan.s1 6 [7, 8, 9] kA kA rfl ?_
 refine R.bs rfl (k_4 underlying25 sizeOf3 zeroValue3 rfl rfl) ?_
 intro b9
 have w9 := lit1 (E := (intE .i64)) (e := 3) (H := H) (b := b9) (y := q1) (a := [.int .i64 q1]) rfl
 refine eA ?_
 refine Plan.s1 7 [8, 9] kA kA rfl ?_
 refine TL.shut .hd ?_
 intro HF9_2 a2 a3
 have a4 := OwnS.read w9 a2 a3
 refine R.callv rfl rfl rfl (k_91 _ (1) (24) _ [q1] a4) ?_
 refine TL.nil (Plan.e1 (a2) ?_)
 refine vA 8 [9] rfl (fun _ _ h_ => R.pkTE rfl rfl cA (TL.nil h_)) ?_
 refine vA 9 [] rfl (fun _ _ h_ => aA (TL.nil h_)) ?_
 refine Plan.done (Post.thnN ?_)
 refine T.has Has.nil ?_
 refine T.ret ?_
 have hM : k_a5 q0 q1 = (k_24 1 24 [q1]) := by rw [k_a5, if_pos g7]
 exact fin1L (v := .bool ((k_24 1 24 [q1]))) [] rfl rfl (List.Sublist.refl _) ⟨rfl, by first | rw [hM] | rfl⟩
 refine vO 5 [6, 7, 8, 9] rfl rfl rfl rfl ?_
 refine vO 6 [7, 8, 9] rfl rfl rfl rfl ?_
 refine vO 7 [8, 9] rfl rfl rfl rfl ?_
 refine vA 8 [9] rfl (fun _ _ h_ => R.pkFE rfl rfl cA (TL.nil h_)) ?_
 refine vA 9 [] rfl (fun _ _ h_ => aA (TL.nil h_)) ?_
 refine Plan.done (Post.thnN ?_)
 refine T.has Has.nil ?_
 refine T.ret ?_
 have hM : k_a5 q0 q1 = false := by rw [k_a5, if_neg g7]
 exact fin1L (v := .bool false) [] rfl rfl (List.Sublist.refl _) ⟨rfl, by first | rw [hM] | rfl⟩
def k_a4 (q0 : Int) (q1 : Int) (q2 : Int) : Bool :=
  if q0 = (k_42 9223372036854775808 q1 q2) then ((k_24 1 1048578 ([q1, q2]))) else false
theorem identKind3_c (H : Heap) (a1 : Nat) (q0 : Int) (hb0 : H a1 = some (.cells #[.int .u64 q0] 39)) (a2 : Nat) (q1 : Int) (hb1 : H a2 = some (.cells #[.int .i64 q1] 3)) (a3 : Nat) (q2 : Int) (hb2 : H a3 = some (.cells #[.int .i64 q2] 3)) : Fv Tryz.prog (.func (.func 108) #[] ([.pointer (some ⟨a1, 0, none⟩), .pointer (some ⟨a2, 0, none⟩), .pointer (some ⟨a3, 0, none⟩)] : List Value).toArray) [] H (.bool (k_a4 q0 q1 q2)) := by
 refine Fc.of_body (N := 15) func108 rfl kA rfl rfl ?_
 intro w0
 refine sR (aA ?_)
 refine nN (T.seq (T.draw k_2f kA ?_))
 refine vA 0 [1, 2, 3, 4, 5, 6, 7, 8, 9, 10, 11] rfl (fun _ _ h_ => R.ldH isAgg39 rfl rfl hb0 rfl (TL.nil h_)) ?_
 refine vA 1 [2, 3, 4, 5, 6, 7, 8, 9, 10, 11] rfl (fun _ _ h_ => R.ldH isAgg3 rfl rfl hb1 rfl (TL.nil h_)) ?_
 refine vA 2 [3, 4, 5, 6, 7, 8, 9, 10, 11] rfl (fun _ _ h_ => R.ldH isAgg3 rfl rfl hb2 rfl (TL.nil h_)) ?_
 refine vA 3 [4, 5, 6, 7, 8, 9, 10, 11] rfl (fun _ _ h_ => R.callv rfl rfl rfl (k_ac _ (9223372036854775808) (q1) (q2)) (TL.nil h_)) ?_
 refine vA 4 [5, 6, 7, 8, 9, 10, 11] rfl (fun _ _ h_ => R.eql rfl rfl rfl (TL.nil h_)) ?_
 refine vM 5 [6, 7, 8, 9, 10, 11] rfl rfl cA ?_
 refine Plan.gsplitD 9 rfl (fun g9 => ?_) (fun g9 => ?_)
 refine vA 6 [7, 8, 9, 10, 11] rfl (fun _ _ h_ => R.ldH isAgg3 rfl rfl hb1 rfl (TL.nil h_)) ?_
 refine vA 7 [8, 9, 10, 11] rfl (fun _ _ h_ => R.ldH isAgg3 rfl rfl hb2 rfl (TL.nil h_)) ?_
 refine Plan.s1 8 [9, 10, 11] kA kA rfl ?_
 refine R.bsN [.int .i64 q1, .int .i64 q2] rfl underlying25 sizeOf3 zeroValue3 rfl rfl rfl rfl rfl rfl ?_
 intro b12
 have w12 : OwnS (intE .i64) 3 H (.slice (some ⟨b12, 0, none⟩) 2 2) [q1, q2] [(b12, .cells #[.int .i64 q1, .int .i64 q2] 3)] := OwnS.lit (xs := [q1, q2]) (k_5 (a := [.int .i64 q1]) rfl (k_5 (a := [.int .i64 q2]) rfl k_7)) (by show 2 ≤ maxLen; decide)
 refine eA ?_
 refine Plan.s1 9 [10, 11] kA kA rfl ?_
 refine TL.shut .hd ?_
 intro HF12_2 a0 a4
 have a5 := OwnS.read w12 a0 a4
 refine R.callv rfl rfl rfl (k_91 _ (1) (1048578) _ ([q1, q2]) a5) ?_
 refine TL.nil (Plan.e1 (a0) ?_)
 refine vA 10 [11] rfl (fun _ _ h_ => R.pkTE rfl rfl cA (TL.nil h_)) ?_
 refine vA 11 [] rfl (fun _ _ h_ => aA (TL.nil h_)) ?_
 refine Plan.done (Post.thnN ?_)
 refine T.has Has.nil ?_
 refine T.ret ?_
 have hM : k_a4 q0 q1 q2 = (k_24 1 1048578 ([q1, q2])) := by rw [k_a4, if_pos g9]
 exact fin1L (v := .bool ((k_24 1 1048578 ([q1, q2])))) [] rfl rfl (List.Sublist.refl _) ⟨rfl, by first | rw [hM] | rfl⟩
 refine vO 6 [7, 8, 9, 10, 11] rfl rfl rfl rfl ?_
 refine vO 7 [8, 9, 10, 11] rfl rfl rfl rfl ?_
 refine vO 8 [9, 10, 11] rfl rfl rfl rfl ?_
 refine vO 9 [10, 11] rfl rfl rfl rfl ?_
 refine vA 10 [11] rfl (fun _ _ h_ => R.pkFE rfl rfl cA (TL.nil h_)) ?_
 refine vA 11 [] rfl (fun _ _ h_ => aA (TL.nil h_)) ?_
 refine Plan.done (Post.thnN ?_)
 refine T.has Has.nil ?_
 refine T.ret ?_
 have hM : k_a4 q0 q1 q2 = false := by rw [k_a4, if_neg g9]
 exact fin1L (v := .bool false) [] rfl rfl (List.Sublist.refl _) ⟨rfl, by first | rw [hM] | rfl⟩
def identKind4_m (q0 : Int) (q1 : Int) (q2 : Int) : Bool :=
  if q0 = (k_42 9223372036854775808 q1 q2) then ((k_24 0 1048578 ([q1, q2]))) else false
theorem identKind4_c (H : Heap) (a1 : Nat) (q0 : Int) (hb0 : H a1 = some (.cells #[.int .u64 q0] 39)) (a2 : Nat) (q1 : Int) (hb1 : H a2 = some (.cells #[.int .i64 q1] 3)) (a3 : Nat) (q2 : Int) (hb2 : H a3 = some (.cells #[.int .i64 q2] 3)) : Fv Tryz.prog (.func (.func 109) #[] ([.pointer (some ⟨a1, 0, none⟩), .pointer (some ⟨a2, 0, none⟩), .pointer (some ⟨a3, 0, none⟩)] : List Value).toArray) [] H (.bool (identKind4_m q0 q1 q2)) := by
 refine Fc.of_body (N := 15) func109 rfl kA rfl rfl ?_
 intro w0
 refine sR (aA ?_)
 refine nN (T.seq (T.draw k_2f kA ?_))
 refine vA 0 [1, 2, 3, 4, 5, 6, 7, 8, 9, 10, 11] rfl (fun _ _ h_ => R.ldH isAgg39 rfl rfl hb0 rfl (TL.nil h_)) ?_
 refine vA 1 [2, 3, 4, 5, 6, 7, 8, 9, 10, 11] rfl (fun _ _ h_ => R.ldH isAgg3 rfl rfl hb1 rfl (TL.nil h_)) ?_
 refine vA 2 [3, 4, 5, 6, 7, 8, 9, 10, 11] rfl (fun _ _ h_ => R.ldH isAgg3 rfl rfl hb2 rfl (TL.nil h_)) ?_
 refine vA 3 [4, 5, 6, 7, 8, 9, 10, 11] rfl (fun _ _ h_ => R.callv rfl rfl rfl (k_ac _ (9223372036854775808) (q1) (q2)) (TL.nil h_)) ?_
 refine vA 4 [5, 6, 7, 8, 9, 10, 11] rfl (fun _ _ h_ => R.eql rfl rfl rfl (TL.nil h_)) ?_
 refine vM 5 [6, 7, 8, 9, 10, 11] rfl rfl cA ?_
 refine Plan.gsplitD 9 rfl (fun g9 => ?_) (fun g9 => ?_)
 refine vA 6 [7, 8, 9, 10, 11] rfl (fun _ _ h_ => R.ldH isAgg3 rfl rfl hb1 rfl (TL.nil h_)) ?_
 refine vA 7 [8, 9, 10, 11] rfl (fun _ _ h_ => R.ldH isAgg3 rfl rfl hb2 rfl (TL.nil h_)) ?_
 refine Plan.s1 8 [9, 10, 11] kA kA rfl ?_
 refine R.bsN [.int .i64 q1, .int .i64 q2] rfl underlying25 sizeOf3 zeroValue3 rfl rfl rfl rfl rfl rfl ?_
 intro b12
 have w12 : OwnS (intE .i64) 3 H (.slice (some ⟨b12, 0, none⟩) 2 2) [q1, q2] [(b12, .cells #[.int .i64 q1, .int .i64 q2] 3)] := OwnS.lit (xs := [q1, q2]) (k_5 (a := [.int .i64 q1]) rfl (k_5 (a := [.int .i64 q2]) rfl k_7)) (by show 2 ≤ maxLen; decide)
 refine eA ?_
 refine Plan.s1 9 [10, 11] kA kA rfl ?_
 refine TL.shut .hd ?_
 intro HF12_2 a0 a4
 have a5 := OwnS.read w12 a0 a4
 refine R.callv rfl rfl rfl (k_91 _ (0) (1048578) _ ([q1, q2]) a5) ?_
 refine TL.nil (Plan.e1 (a0) ?_)
 refine vA 10 [11] rfl (fun _ _ h_ => R.pkTE rfl rfl cA (TL.nil h_)) ?_
 refine vA 11 [] rfl (fun _ _ h_ => aA (TL.nil h_)) ?_
 refine Plan.done (Post.thnN ?_)
 refine T.has Has.nil ?_
 refine T.ret ?_
 have hM : identKind4_m q0 q1 q2 = (k_24 0 1048578 ([q1, q2])) := by rw [identKind4_m, if_pos g9]
 exact fin1L (v := .bool ((k_24 0 1048578 ([q1, q2])))) [] rfl rfl (List.Sublist.refl _) ⟨rfl, by first | rw [hM] | rfl⟩
 refine vO 6 [7, 8, 9, 10, 11] rfl rfl rfl rfl ?_
 refine vO 7 [8, 9, 10, 11] rfl rfl rfl rfl ?_
 refine vO 8 [9, 10, 11] rfl rfl rfl rfl ?_
 refine vO 9 [10, 11] rfl rfl rfl rfl ?_
 refine vA 10 [11] rfl (fun _ _ h_ => R.pkFE rfl rfl cA (TL.nil h_)) ?_
 refine vA 11 [] rfl (fun _ _ h_ => aA (TL.nil h_)) ?_
 refine Plan.done (Post.thnN ?_)
 refine T.has Has.nil ?_
 refine T.ret ?_
 have hM : identKind4_m q0 q1 q2 = false := by rw [identKind4_m, if_neg g9]
 exact fin1L (v := .bool false) [] rfl rfl (List.Sublist.refl _) ⟨rfl, by first | rw [hM] | rfl⟩
end Go.SX
