/- SX: a region that draws its order. -/
import Derived.Test.YtkhjpgimjkofcaaSx4
import Derived.OrdersIn
set_option linter.unusedVariables false
set_option linter.unusedSimpArgs false
namespace Go.SX
open Go
attribute [local semireducible] T TL

def dsto (ol : List Oper) (i : Nat) : Option Nat := match nth ol i with
  | some o => o.dst
  | none => none
def opTmps (o : Oper) : List Nat := o.op.operands.toList.filterMap fun
  | .tmp t => some t
  | _ => none
def gslot (ol : List Oper) (o : Oper) : List Nat := match o.guard with
  | some (j, _) => (dsto ol j).toList
  | none => []
def looks (ol : List Oper) (o : Oper) : List Nat := gslot ol o ++ opTmps o
def preds (o : Oper) : List Nat := o.after.toList.filterMap fun e => if Region.binds .any e then some e.on else none
/-- op j's slot is named by those alone that wait for j. -/
def freshOk (ol : List Oper) (j : Nat) : Bool := match dsto ol j with
  | none => true
  | some d => (List.range ol.length).all fun i => match nth ol i with
    | some p => (!(looks ol p).contains d && (i == j || !(p.dst == some d))) || (preds p).contains j
    | none => true
/-- Whoever writes a slot that another one names waits for it, or is waited for. -/
def sepOk (N : Nat) (ol : List Oper) : Bool := (List.range ol.length).all fun k => match nth ol k with
  | some o => (match o.op with | .defer _ => false | .select .. => false | _ => true) && ((preds o).all fun j => Nat.blt j k) && match o.dst with
    | none => true
    | some d => Nat.blt d N && (List.range ol.length).all fun j => j == k || match nth ol j with
      | some p => (!(looks ol p).contains d && !(p.dst == some d)) || (preds p).contains k || (preds o).contains j
      | none => true
  | none => true
def vready (ol : List Oper) (pend : List Nat) (i : Nat) : Bool := match nth ol i with
  | some o => (preds o).all fun j => !pend.contains j
  | none => false

/-- What is asked behind one operation. -/
def nextP (ds : List Nat) (K : Env → Heap → Own → Prop) : Post
  | .normal, σ, H, L, ds' => ds' = ds ∧ K σ H L
  | _, _, _, _, _ => False

/-- Operation o yields v wherever what can be read from H can be read, and turns nothing. -/
def PV (fr : Fr) (ol : List Oper) (o : Oper) (σ : Env) (H : Heap) (ds : List Nat) (σ' : Env) : Prop :=
  ∀ (x : Cx) (Q' : Post), Q' .normal σ' H [] ds → TL fr x ol [o] Q' σ H [] ds

def Plan (fr : Fr) (x : Cx) (ol : List Oper) (Q : Post) (ds : List Nat) : Nat → List Nat → Env → Heap → Own → Prop
  | 0, pend, σ, H, L => pend = [] ∧ Q .normal σ H L ds
  | n + 1, pend, σ, H, L =>
    (∃ i o σ', i ∈ pend ∧ vready ol pend i = true ∧ freshOk ol i = true ∧ nth ol i = some o ∧ (∀ t, o.dst ≠ some t → σ' t = σ t) ∧ PV fr ol o σ H ds σ' ∧ Plan fr x ol Q ds n (pend.erase i) σ' H L) ∨
    (∀ i ∈ pend, vready ol pend i = true → ∃ o, nth ol i = some o ∧ TL fr x ol [o] (nextP ds (fun σ' H' L' => HLe H H' ∧ (∀ t, o.dst ≠ some t → σ' t = σ t) ∧ Plan fr x ol Q ds n (pend.erase i) σ' H' L')) σ H L ds)

theorem getElem_of {N : Nat} {s t : Array Value} (hs : s.size = N) (ht : t.size = N) {i : Nat} (h : s.getD i undef = t.getD i undef) : s[i]? = t[i]? := by
  by_cases hi : i < N
  · rw [Array.getD_eq_getD_getElem?, Array.getD_eq_getD_getElem?, Array.getElem?_eq_getElem (by omega), Array.getElem?_eq_getElem (by omega)] at h
    simp only [Option.getD_some] at h
    rw [Array.getElem?_eq_getElem (by omega), Array.getElem?_eq_getElem (by omega), h]
  · rw [Array.getElem?_eq_none (by omega), Array.getElem?_eq_none (by omega)]

/-- An operation's step, from another frame that is the same where it looks. -/
theorem op_transfer {rd : Option (Nat × Loop)} {P : Program} {N : Nat} {ol : List Oper} {Q' Q : Exit → Act → World → Prop} {o : Oper} {i : Nat} {a b : Act} {w : World} {K : Act → World → Prop}
    (hi : nth ol i = some o) (hnd : isDefer o.op = false) (hns : ∀ cs b, o.op ≠ .select cs b) (hsa : a.tmps.size = N) (hsb : b.tmps.size = N)
    (hag : ∀ t ∈ looks ol o, a.tmps.getD t undef = b.tmps.getD t undef) (h : wpLo (fence rd) P ol.toArray Q' [o] b w)
    (hQ : ∀ e c w', e ≠ .normal → ¬ Q' e c w') (hdf : ∀ d v w', ¬ Q' .normal ({ b with defers := d :: b.defers }.put o.dst v) w')
    (hK : ∀ v w', Q' .normal (b.put o.dst v) w' → K (a.put o.dst v) w') : wpOpIn (fence rd) 0 P ol.toArray Q i K a w := by
  have hi' : ol.toArray[i]? = some o := by rw [List.getElem?_toArray, ← nth_eq]; exact hi
  have hop : ∀ X ∈ o.op.operands, a.eval X = b.eval X := by
    intro X hX
    cases X with
    | tmp t =>
      refine hag t (List.mem_append_right _ ?_)
      unfold opTmps
      exact List.mem_filterMap.2 ⟨.tmp t, by simpa using hX, rfl⟩
    | _ => rfl
  have hexec := execOp_congr (ρ := a.eval) (ρ' := b.eval) o hns hop
  have hwant : Region.wanted o (yielded ol.toArray a.tmps) = Region.wanted o (yielded ol.toArray b.tmps) := by
    unfold Region.wanted
    cases hg : o.guard with
    | none => rfl
    | some q =>
      obtain ⟨j, want⟩ := q
      have : yielded ol.toArray a.tmps j = yielded ol.toArray b.tmps j := by
        unfold yielded
        rw [List.getElem?_toArray, ← nth_eq]
        cases hj : nth ol j with
        | none => rfl
        | some oj =>
          simp only [Option.bind_some]
          cases hd : oj.dst with
          | none => rfl
          | some t =>
            simp only [Option.bind_some]
            rw [getElem_of hsa hsb (hag t (List.mem_append_left _ (by unfold gslot; rw [hg]; simp [dsto, hj, hd])))]
      simp only [this]
  have lets : ¬ LetsOut Q' := fun ⟨c, w', hc⟩ => hQ _ c w' (by simp) hc
  unfold wpOpIn
  simp only [hi']
  unfold wpLo at h
  rw [hwant]
  split
  · rename_i hw
    rw [if_pos hw] at h
    refine ⟨fun f _ => fenceFn _ f, ?_⟩
    have h2 := h.2
    rw [semAt_of hnd] at h2 ⊢
    rw [hexec]
    generalize (execOp b.eval o).run P w = r at h2
    cases r with
    | ok n w' =>
      cases n <;> simp only [Oper.uponIn, wpLo] at h2 ⊢
      case value v => exact hK v w' h2
      case skip => exact hK _ w' h2
      case defer d => exact (hdf d _ w' h2).elim
      case enter f args => exact ⟨h2.1, CallsIn.mono h2.2 (fun e w'' he => by
        cases e with
        | returned v => exact hK v w'' he
        | panicked ch => exact (hQ _ _ _ (by simp) he).elim
        | outgrown => exact (lets he).elim)⟩
      case row row args => exact ⟨h2.1, RowsIn.mono h2.2 (fun v w'' he => hK v w'' he)⟩
      case round l f tmps ag body => exact ⟨h2.1, RoundIn.mono h2.2 (fun e w'' he => by
        cases e with
        | returned v => exact hK v w'' he
        | panicked ch => exact (hQ _ _ _ (by simp) he).elim
        | outgrown => exact (lets he).elim)⟩
    | halt x w' => cases x <;> simp only [Oper.uponIn] at h2 ⊢; exact (hQ _ _ _ (by simp) h2).elim
  · rename_i hw
    rw [if_neg hw] at h
    exact ⟨fun f _ => fenceFn _ f, hK _ w h.2⟩

def envArr (N : Nat) (σ : Env) : Array Value := ((List.range N).map σ).toArray
theorem envArr_sim {N : Nat} {σ : Env} (h : ∀ t, N ≤ t → σ t = undef) : Sim N σ (envArr N σ) := by
  refine ⟨by simp [envArr], fun i => ?_⟩
  rw [Array.getD_eq_getD_getElem?]
  unfold envArr
  rw [List.getElem?_toArray, List.getElem?_map]
  by_cases hi : i < N
  · rw [List.getElem?_range hi]; rfl
  · rw [List.getElem?_eq_none (by simpa using hi)]
    exact (h i (by omega)).symm

/-- What is known of an operation that is done in thought alone. -/
def VOk (fr : Fr) (ol : List Oper) (ds : List Nat) (pend : List Nat) (σ : Env) (H : Heap) (j : Nat) : Prop :=
  ∃ o σ0 σ1 H0, nth ol j = some o ∧ freshOk ol j = true ∧ (∀ k ∈ preds o, k ∉ pend) ∧ (∀ t, fr.N ≤ t → σ0 t = undef) ∧ (∀ t ∈ looks ol o, σ0 t = σ t) ∧ (∀ t, o.dst = some t → σ1 t = σ t) ∧ (∀ t, o.dst ≠ some t → σ1 t = σ0 t) ∧
    HLe H0 H ∧ PV fr ol o σ0 H0 ds σ1

theorem fresh_spec {ol : List Oper} {j d i : Nat} {p : Oper} (h : freshOk ol j = true) (hd : dsto ol j = some d) (hi : i < ol.length) (hp : nth ol i = some p) (hn : d ∈ looks ol p ∨ (i ≠ j ∧ p.dst = some d)) : j ∈ preds p := by
  unfold freshOk at h
  rw [hd] at h
  simp only [List.all_eq_true, List.mem_range] at h
  have := h i hi
  rw [hp] at this
  simp only [Bool.or_eq_true, Bool.and_eq_true, Bool.not_eq_true', List.contains_eq_mem, decide_eq_true_eq, decide_eq_false_iff_not, beq_iff_eq, beq_eq_false_iff_ne] at this
  rcases this with ⟨h1, h2⟩ | h1
  · rcases hn with hn | ⟨hn1, hn2⟩
    · exact absurd hn h1
    · rcases h2 with h2 | h2
      · exact absurd h2 hn1
      · exact absurd hn2 h2
  · exact h1
theorem sep_spec {N : Nat} {ol : List Oper} (h : sepOk N ol = true) {k : Nat} {o : Oper} (hk : k < ol.length) (ho : nth ol k = some o) :
    isDefer o.op = false ∧ (∀ cs b, o.op ≠ .select cs b) ∧ (∀ j ∈ preds o, j < k) ∧ (∀ d, o.dst = some d → Nat.blt d N = true) ∧
    ∀ d j p, o.dst = some d → j ≠ k → j < ol.length → nth ol j = some p → (d ∈ looks ol p ∨ p.dst = some d) → k ∈ preds p ∨ j ∈ preds o := by
  unfold sepOk at h
  simp only [List.all_eq_true, List.mem_range] at h
  have h1 := h k hk
  rw [ho] at h1
  simp only [Bool.and_eq_true, List.all_eq_true] at h1
  obtain ⟨⟨h2, h3⟩, h4⟩ := h1
  refine ⟨?_, ?_, fun j hj => Nat.blt_eq.mp (h3 j hj), ?_, ?_⟩
  · cases hop : o.op <;> first | rfl | (rw [hop] at h2; simp at h2)
  · intro cs b e; rw [e] at h2; simp at h2
  · intro d hd
    rw [hd] at h4
    simp only [Bool.and_eq_true] at h4
    exact h4.1
  · intro d j p hd hjk hj hp hn
    rw [hd] at h4
    simp only [Bool.and_eq_true, List.all_eq_true, List.mem_range] at h4
    have h5 := h4.2 j hj
    rw [hp] at h5
    simp only [Bool.or_eq_true, Bool.and_eq_true, Bool.not_eq_true', List.contains_eq_mem, decide_eq_true_eq, decide_eq_false_iff_not, beq_iff_eq, beq_eq_false_iff_ne] at h5
    rcases h5 with h5 | (⟨h5, h6⟩ | h5) | h5
    · exact absurd h5 hjk
    · rcases hn with hn | hn
      · exact absurd hn h5
      · exact absurd hn h6
    · exact .inl h5
    · exact .inr h5

theorem St.up {w w' : World} {H0 H : Heap} {C : Chunk} (h : Sat H C w) (hl : HLe H0 H) (k : St ⟨w, H0, C⟩ H0 C w') : St ⟨w, H, C⟩ H C w' := by
  refine ⟨⟨fun b o hb => ?_, k.sat.l, k.sat.nd, h.dj⟩, k.chg, HLe.refl _, fun b o h1 h2 => ?_, fun b hb => .inl hb⟩
  · have h1 := h.h b o hb
    rw [k.chg.same b (heap_lt h1) (fun hc => ?_)]
    · exact h1
    · obtain ⟨q, hq, rfl⟩ := List.mem_map.1 hc
      have := h.dj q hq
      rw [hb] at this; cases this
  · have h3 : H b = none := h2
    rw [h3] at h1; cases h1

section
variable {fr : Fr} {x : Cx} {ol : List Oper} {Q : Post} {ds : List Nat}

structure Inv (fr : Fr) (ol : List Oper) (ds : List Nat) (pend virt : List Nat) (listed : Array Bool) (σ : Env) (H : Heap) (a : Act) : Prop where
  pn : pend.Nodup
  vn : virt.Nodup
  dj : ∀ i ∈ pend, i ∉ virt
  pl : ∀ i ∈ pend, i < ol.length
  vl : ∀ i ∈ virt, i < ol.length
  ls : ∀ i, i < ol.length → (listed.getD i true = false ↔ i ∈ pend ∨ i ∈ virt)
  lz : listed.size = ol.length
  sz : a.tmps.size = fr.N
  un : ∀ t, fr.N ≤ t → σ t = undef
  ag : ∀ t, (∀ j ∈ virt, dsto ol j ≠ some t) → a.tmps.getD t undef = σ t
  df : a.defers = ds.map mk
  vo : ∀ j ∈ virt, VOk fr ol ds pend σ H j

theorem dsto_eq {i : Nat} {o : Oper} (h : nth ol i = some o) : dsto ol i = o.dst := by unfold dsto; rw [h]
theorem nth_lt {i : Nat} {o : Oper} (h : nth ol i = some o) : i < ol.length := by rw [nth_eq] at h; exact (List.getElem?_eq_some_iff.1 h).1
theorem lt_nth {i : Nat} (h : i < ol.length) : ∃ o, nth ol i = some o := ⟨ol[i], by rw [nth_eq]; exact List.getElem?_eq_getElem h⟩

theorem ready_spec {listed : Array Bool} {i : Nat} (h : i ∈ Region.ready .any ol.toArray listed) : ∃ o, nth ol i = some o ∧ listed.getD i true = false ∧ ∀ j ∈ preds o, listed.getD j false = true := by
  obtain ⟨h1, o, h2, h3⟩ := mem_ready.1 h
  refine ⟨o, by rw [nth_eq]; simpa using h2, h1, fun j hj => ?_⟩
  unfold preds at hj
  obtain ⟨e, he, hb⟩ := List.mem_filterMap.1 hj
  split at hb
  · rename_i hbi
    injection hb with hb
    subst hb
    exact h3 e (by simpa using he) hbi
  · cases hb

/-- The least operation that is not listed can be done. -/
theorem ready_ne {pend virt : List Nat} {listed : Array Bool} {σ : Env} {H : Heap} {a : Act} (hsep : sepOk fr.N ol = true) (h : Inv fr ol ds pend virt listed σ H a) (hr : Region.ready .any ol.toArray listed = []) : pend = [] ∧ virt = [] := by
  have key : ∀ n i, i = n → (i ∈ pend ∨ i ∈ virt) → False := by
    intro n
    induction n using Nat.strongRecOn with
    | _ n ih =>
      intro i hin hi
      have hil : i < ol.length := hi.elim (h.pl i) (h.vl i)
      obtain ⟨o, ho⟩ := lt_nth (ol := ol) hil
      have hs := sep_spec hsep hil ho
      have hmem : i ∈ Region.ready .any ol.toArray listed := by
        refine mem_ready.2 ⟨(h.ls i hil).2 hi, o, by rw [List.getElem?_toArray, ← nth_eq]; exact ho, fun e he hb => ?_⟩
        have hp : e.on ∈ preds o := by
          unfold preds
          exact List.mem_filterMap.2 ⟨e, by simpa using he, by rw [if_pos hb]⟩
        have hlt := hs.2.2.1 _ hp
        have hel : e.on < ol.length := Nat.lt_trans hlt hil
        cases hg : listed.getD e.on true with
        | false => exact (ih e.on (hin ▸ hlt) e.on rfl ((h.ls _ hel).1 hg)).elim
        | true =>
          have hsz := h.lz
          rw [Array.getD_eq_getD_getElem?, Array.getElem?_eq_getElem (by omega)] at hg ⊢
          simpa using hg
      rw [hr] at hmem
      cases hmem
  constructor
  · cases pend with
    | nil => rfl
    | cons i r => exact (key i i rfl (.inl (List.mem_cons_self ..))).elim
  · cases virt with
    | nil => rfl
    | cons i r => exact (key i i rfl (.inr (List.mem_cons_self ..))).elim

theorem getD_false_of {listed : Array Bool} {j : Nat} (h : listed.getD j false = true) : listed.getD j true = true := by
  rw [Array.getD_eq_getD_getElem?] at h ⊢
  cases hj : listed[j]? with
  | none => rfl
  | some b => rw [hj] at h; exact h

/-- A slot that a ready operation looks at is none of those that are filled in thought alone. -/
theorem looks_ag {pend virt : List Nat} {listed : Array Bool} {σ : Env} {H : Heap} {a : Act} (h : Inv fr ol ds pend virt listed σ H a) {i : Nat} {o : Oper} (ho : nth ol i = some o) (hp : ∀ j ∈ preds o, listed.getD j false = true) :
    ∀ t ∈ looks ol o, a.tmps.getD t undef = σ t := by
  intro t ht
  refine h.ag t (fun j hj hd => ?_)
  obtain ⟨oj, _, _, _, hoj, hf, _⟩ := h.vo j hj
  have := fresh_spec hf hd (nth_lt ho) ho (.inl ht)
  have h1 := getD_false_of (hp j this)
  have h2 := (h.ls j (h.vl j hj)).2 (.inr hj)
  rw [h1] at h2; cases h2

theorem set_listed {listed : Array Bool} {i k : Nat} (hk : k < listed.size) (d : Bool) : (listed.setIfInBounds i true).getD k d = if k = i then true else listed.getD k d := by
  rw [Array.getD_eq_getD_getElem?, Array.getD_eq_getD_getElem?, Array.getElem?_setIfInBounds]
  by_cases h : k = i
  · subst h; simp [hk]
  · rw [if_neg (fun e => h e.symm), if_neg h]

theorem put_getD {a : Act} {dst : Option Tmp} {v : Value} {N t : Nat} (hs : a.tmps.size = N) (hd : ∀ d, dst = some d → Nat.blt d N = true) : (a.put dst v).tmps.getD t undef = if dst = some t then v else a.tmps.getD t undef := by
  cases dst with
  | none => simp [Act.put]
  | some d =>
    have hlt : d < a.tmps.size := by rw [hs]; exact Nat.blt_eq.mp (hd d rfl)
    simp only [Act.put, Array.getD_eq_getD_getElem?, Array.getElem?_setIfInBounds]
    by_cases e : d = t
    · subst e; simp [hlt]
    · simp [e]
theorem put_size {a : Act} {dst : Option Tmp} {v : Value} : (a.put dst v).tmps.size = a.tmps.size := by cases dst <;> simp [Act.put]
theorem put_defers' {a : Act} {dst : Option Tmp} {v : Value} : (a.put dst v).defers = a.defers := by cases dst <;> simp [Act.put]

/-- An operation that was done in thought is done. -/
theorem exec_virt (hsep : sepOk fr.N ol = true) {fuel : Nat} {pend virt : List Nat} {listed : Array Bool} {σ : Env} {H : Heap} {L : Own} {a : Act} {w : World} (h : Inv fr ol ds pend virt listed σ H a)
    (hst : St x H (L.flatten ++ hid fr.rd ds) w) {i : Nat} {o : Oper} (ho : nth ol i = some o) (hiv : i ∈ virt) (hpl : ∀ j ∈ preds o, listed.getD j false = true)
    (K : ∀ a' w', Inv fr ol ds pend (virt.erase i) (listed.setIfInBounds i true) σ H a' → St x H (L.flatten ++ hid fr.rd ds) w' → wpAnyIn (fence fr.rd) 0 fr.P .any ol.toArray (lift fr x Q) fuel (listed.setIfInBounds i true) a' w') :
    wpOpIn (fence fr.rd) 0 fr.P ol.toArray (lift fr x Q) i (wpAnyIn (fence fr.rd) 0 fr.P .any ol.toArray (lift fr x Q) fuel (listed.setIfInBounds i true)) a w := by
  obtain ⟨oj, σ0, σ1, H0, h1, h2, h3, h4, h5, h6, h7, h8, h9⟩ := h.vo i hiv
  rw [ho] at h1
  injection h1 with h1
  subst h1
  have hil := nth_lt ho
  have hs := sep_spec hsep hil ho
  have hlk := looks_ag h ho hpl
  have hsim := envArr_sim (N := fr.N) h4
  have hsat : Sat H (hid fr.rd ds) w := hst.sat.sub (List.sublist_append_right _ _)
  have hst0 : St ⟨w, H0, hid fr.rd ds⟩ H0 (([] : Own).flatten ++ hid fr.rd ds) w := St.init (hsat.weak h8)
  have hrun := h9 ⟨w, H0, hid fr.rd ds⟩ (fun e σ2 H2 L2 ds2 => e = .normal ∧ σ2 = σ1 ∧ H2 = H0 ∧ L2 = [] ∧ ds2 = ds) ⟨rfl, rfl, rfl, rfl, rfl⟩ ⟨envArr fr.N σ0, ds.map mk⟩ w hsim rfl hst0
  refine op_transfer (b := ⟨envArr fr.N σ0, ds.map mk⟩) ho hs.1 hs.2.1 h.sz (by simp [envArr]) (fun t ht => ?_) hrun ?_ ?_ ?_
  · rw [hlk t ht, ← h5 t ht, hsim.val]
  · rintro e c w' he ⟨_, _, _, _, _, _, _, hq, _⟩; exact he hq
  · rintro d v w' ⟨_, _, _, ds2, _, hdd, _, _, _, _, _, rfl⟩
    rw [put_defers'] at hdd
    have := congrArg List.length hdd
    simp at this
  · rintro v w' ⟨σ2, H2, L2, ds2, hs2, hd2, hst2, _, rfl, rfl, rfl, rfl⟩
    have hj : St x H (L.flatten ++ hid fr.rd ds2) w' := by
      have k := St.up hsat h8 (by simpa using hst2)
      have := (hst.perm (L' := hid fr.rd ds2 ++ L.flatten) List.perm_append_comm).join k
      exact this.perm List.perm_append_comm
    refine K _ w' ⟨h.pn, h.vn.erase i, fun k hk hc => h.dj k hk (List.mem_of_mem_erase hc), h.pl, fun k hk => h.vl k (List.mem_of_mem_erase hk), ?_, by simp [h.lz], by rw [put_size]; exact h.sz, h.un, ?_, by rw [put_defers']; exact h.df, fun j hj => h.vo j (List.mem_of_mem_erase hj)⟩ hj
    · intro k hk
      rw [set_listed (by rw [h.lz]; exact hk)]
      by_cases e : k = i
      · subst e
        simp only [if_true]
        constructor
        · intro hc; cases hc
        · rintro (hc | hc)
          · exact absurd hiv (h.dj k hc)
          · exact absurd hc (List.Nodup.not_mem_erase h.vn)
      · rw [if_neg e, h.ls k hk, List.mem_erase_of_ne e]
    · intro t ht
      rw [put_getD h.sz hs.2.2.2.1]
      by_cases e : o.dst = some t
      · rw [if_pos e]
        have := hs2.val t
        rw [put_getD (by simp [envArr]) hs.2.2.2.1, if_pos e] at this
        rw [this, h6 t e]
      · rw [if_neg e]
        refine h.ag t (fun j hj => ?_)
        by_cases ej : j = i
        · subst ej; rw [dsto_eq ho]; exact e
        · exact ht j ((List.mem_erase_of_ne ej).2 hj)

theorem Plan.sound (hsep : sepOk fr.N ol = true) : ∀ (fuel n : Nat) (pend virt : List Nat) (listed : Array Bool) (σ : Env) (H : Heap) (L : Own) (a : Act) (w : World),
    fuel = pend.length + virt.length → n = pend.length → Inv fr ol ds pend virt listed σ H a → St x H (L.flatten ++ hid fr.rd ds) w → Plan fr x ol Q ds n pend σ H L →
    wpAnyIn (fence fr.rd) 0 fr.P .any ol.toArray (lift fr x Q) fuel listed a w := by
  intro fuel
  induction fuel with
  | zero =>
    intro n pend virt listed σ H L a w hf hn h hst hp
    have hpe : pend = [] := List.length_eq_zero_iff.1 (by omega)
    have hve : virt = [] := List.length_eq_zero_iff.1 (by omega)
    subst hpe; subst hve
    have hn0 : n = 0 := by simpa using hn
    subst hn0
    refine ⟨?_, σ, H, L, ds, ⟨h.sz, fun i => h.ag i (fun j hj => by cases hj)⟩, h.df, hst, hp.2⟩
    cases hr : Region.ready .any ol.toArray listed with
    | nil => rfl
    | cons i r =>
      obtain ⟨o, ho, hl, _⟩ := ready_spec (ol := ol) (i := i) (listed := listed) (by rw [hr]; exact List.mem_cons_self ..)
      have := (h.ls i (nth_lt ho)).1 hl
      simp at this
  | succ fuel ihf =>
    intro n
    induction n with
    | zero =>
      intro pend virt listed σ H L a w hf hn h hst hp
      have hpe : pend = [] := hp.1
      subst hpe
      refine ⟨fun hr => ?_, fun i hi => ?_⟩
      · have := (ready_ne hsep h hr).2
        subst this
        simp at hf
      · obtain ⟨o, ho, hl, hpl⟩ := ready_spec hi
        have hiv : i ∈ virt := ((h.ls i (nth_lt ho)).1 hl).resolve_left (by simp)
        refine exec_virt hsep h hst ho hiv hpl (fun a' w' hi' hst' => ihf 0 [] (virt.erase i) _ σ H L a' w' ?_ rfl hi' hst' hp)
        rw [List.length_erase_of_mem hiv]
        simp only [List.length_nil, Nat.zero_add] at hf ⊢
        omega
    | succ n ihn =>
      intro pend virt listed σ H L a w hf hn h hst hp
      rcases hp with ⟨i, o, σ', hip, hvr, hfr, ho, hσ, hpv, hplan⟩ | hstep
      · -- done in thought
        have hil := h.pl i hip
        have hs := sep_spec hsep hil ho
        have hprd : ∀ k ∈ preds o, k ∉ pend := by
          unfold vready at hvr
          rw [ho] at hvr
          simp only [List.all_eq_true, Bool.not_eq_true', List.contains_eq_mem, decide_eq_false_iff_not] at hvr
          exact hvr
        have hne : ∀ j ∈ virt, j ≠ i := fun j hj e => h.dj i hip (e ▸ hj)
        refine ihn (pend.erase i) (i :: virt) listed σ' H L a w ?_ ?_ ⟨h.pn.erase i, List.nodup_cons.2 ⟨h.dj i hip, h.vn⟩, ?_, fun k hk => h.pl k (List.mem_of_mem_erase hk), ?_, ?_, h.lz, h.sz, ?_, ?_, h.df, ?_⟩ hst hplan
        · rw [List.length_erase_of_mem hip, List.length_cons]
          have : 0 < pend.length := List.length_pos_of_mem hip
          omega
        · rw [List.length_erase_of_mem hip]; omega
        · intro k hk hc
          rcases List.mem_cons.1 hc with rfl | hc
          · exact (List.Nodup.not_mem_erase h.pn) hk
          · exact h.dj k (List.mem_of_mem_erase hk) hc
        · intro k hk
          rcases List.mem_cons.1 hk with rfl | hk
          · exact hil
          · exact h.vl k hk
        · intro k hk
          rw [h.ls k hk]
          by_cases e : k = i
          · subst e; simp [hip]
          · simp only [List.mem_cons, e, false_or]
            rw [List.mem_erase_of_ne e]
        · intro t ht
          rw [hσ t (fun e => by have := Nat.blt_eq.mp (hs.2.2.2.1 t e); omega)]
          exact h.un t ht
        · intro t ht
          have h1 : dsto ol i ≠ some t := ht i (List.mem_cons_self ..)
          rw [dsto_eq ho] at h1
          rw [hσ t h1]
          exact h.ag t (fun j hj => ht j (List.mem_cons_of_mem _ hj))
        · intro j hj
          rcases List.mem_cons.1 hj with rfl | hj
          · refine ⟨o, σ, σ', H, ho, hfr, fun k hk hc => hprd k hk (List.mem_of_mem_erase hc), h.un, fun t ht => ?_, fun t _ => rfl, hσ, HLe.refl _, hpv⟩
            refine (hσ t (fun e => ?_)).symm
            have := fresh_spec hfr (by rw [dsto_eq ho]; exact e) hil ho (.inl ht)
            exact hprd _ this hip
          · obtain ⟨oj, σ0, σ1, H0, h1, h2, h3, h4, h5, h6, h7, h8, h9⟩ := h.vo j hj
            refine ⟨oj, σ0, σ1, H0, h1, h2, fun k hk hc => h3 k hk (List.mem_of_mem_erase hc), h4, fun t ht => ?_, fun t ht => ?_, h7, h8, h9⟩
            · rw [h5 t ht]
              refine (hσ t (fun e => ?_)).symm
              exact h3 i (fresh_spec hfr (by rw [dsto_eq ho]; exact e) (nth_lt h1) h1 (.inl ht)) hip
            · rw [h6 t ht]
              refine (hσ t (fun e => ?_)).symm
              exact h3 i (fresh_spec hfr (by rw [dsto_eq ho]; exact e) (nth_lt h1) h1 (.inr ⟨hne j hj, ht⟩)) hip
      · refine ⟨fun hr => ?_, fun i hi => ?_⟩
        · have := (ready_ne hsep h hr)
          rw [this.1, this.2] at hf
          simp at hf
        · obtain ⟨o, ho, hl, hpl⟩ := ready_spec hi
          have hil := nth_lt ho
          rcases (h.ls i hil).1 hl with hip | hiv
          · have hs := sep_spec hsep hil ho
            have hnp : ∀ j ∈ preds o, j ∉ pend ∧ j ∉ virt := fun j hj => by
              have h1 := getD_false_of (hpl j hj)
              have hjl : j < ol.length := Nat.lt_trans (hs.2.2.1 j hj) hil
              constructor
              · intro hc; have := (h.ls j hjl).2 (.inl hc); rw [h1] at this; cases this
              · intro hc; have := (h.ls j hjl).2 (.inr hc); rw [h1] at this; cases this
            have hvr : vready ol pend i = true := by
              unfold vready
              rw [ho]
              simp only [List.all_eq_true, Bool.not_eq_true', List.contains_eq_mem, decide_eq_false_iff_not]
              exact fun j hj => (hnp j hj).1
            obtain ⟨o', ho', hT⟩ := hstep i hip hvr
            rw [ho] at ho'
            injection ho' with ho'
            subst ho'
            have hlk := looks_ag h ho hpl
            have hsim := envArr_sim (N := fr.N) h.un
            have hrun := hT ⟨envArr fr.N σ, ds.map mk⟩ w hsim rfl hst
            have hne : ∀ j ∈ virt, j ≠ i := fun j hj e => h.dj i hip (e ▸ hj)
            refine op_transfer (b := ⟨envArr fr.N σ, ds.map mk⟩) ho hs.1 hs.2.1 h.sz (by simp [envArr]) (fun t ht => ?_) hrun ?_ ?_ ?_
            · rw [hlk t ht, hsim.val]
            · rintro e c w' he ⟨_, _, _, _, _, _, _, hq⟩
              cases e <;> first | exact he rfl | exact hq.elim
            · rintro d v w' ⟨_, _, _, ds2, _, hdd, _, hq, _⟩
              subst hq
              rw [put_defers'] at hdd
              have := congrArg List.length hdd
              simp at this
            · rintro v w' ⟨σ', H', L', ds2, hs2, hd2, hst2, rfl, hle, hσ, hplan⟩
              refine ihf n (pend.erase i) virt _ σ' H' L' _ w' ?_ ?_ ⟨h.pn.erase i, h.vn, fun k hk => h.dj k (List.mem_of_mem_erase hk), fun k hk => h.pl k (List.mem_of_mem_erase hk), h.vl, ?_, by simp [h.lz], by rw [put_size]; exact h.sz, ?_, ?_, by rw [put_defers']; exact h.df, ?_⟩ hst2 hplan
              · rw [List.length_erase_of_mem hip]
                have : 0 < pend.length := List.length_pos_of_mem hip
                omega
              · rw [List.length_erase_of_mem hip]; omega
              · intro k hk
                rw [set_listed (by rw [h.lz]; exact hk)]
                by_cases e : k = i
                · subst e
                  simp only [if_true]
                  constructor
                  · intro hc; cases hc
                  · rintro (hc | hc)
                    · exact absurd hc (List.Nodup.not_mem_erase h.pn)
                    · exact absurd hc (h.dj k hip)
                · rw [if_neg e, h.ls k hk, List.mem_erase_of_ne e]
              · intro t ht
                rw [hσ t (fun e => by have := Nat.blt_eq.mp (hs.2.2.2.1 t e); omega)]
                exact h.un t ht
              · intro t ht
                rw [put_getD h.sz hs.2.2.2.1]
                by_cases e : o.dst = some t
                · rw [if_pos e]
                  have := hs2.val t
                  rw [put_getD (by simp [envArr]) hs.2.2.2.1, if_pos e] at this
                  exact this
                · rw [if_neg e, hσ t e]
                  exact h.ag t ht
              · intro j hj
                obtain ⟨oj, σ0, σ1, H0, h1, h2, h3, h4, h5, h6, h7, h8, h9⟩ := h.vo j hj
                have hsep' : ∀ t, o.dst = some t → (t ∈ looks ol oj ∨ oj.dst = some t) → False := fun t e hn => by
                  rcases hs.2.2.2.2 t j oj e (hne j hj) (nth_lt h1) h1 hn with h10 | h10
                  · exact h3 i h10 hip
                  · exact (hnp j h10).2 hj
                refine ⟨oj, σ0, σ1, H0, h1, h2, fun k hk hc => h3 k hk (List.mem_of_mem_erase hc), h4, fun t ht => ?_, fun t ht => ?_, h7, h8.trans hle, h9⟩
                · rw [h5 t ht]; exact (hσ t (fun e => hsep' t e (.inl ht))).symm
                · rw [h6 t ht]; exact (hσ t (fun e => hsep' t e (.inr ht))).symm
          · refine exec_virt hsep h hst ho hiv hpl (fun a' w' hi' hst' => ihf (n + 1) pend (virt.erase i) _ σ H L a' w' ?_ hn hi' hst' (.inr hstep))
            rw [List.length_erase_of_mem hiv]
            have : 0 < virt.length := List.length_pos_of_mem hiv
            omega

/-- A region that draws its order, out of a plan. -/
theorem T.draw {σ : Env} {H : Heap} {L : Own} {id : Nat} {l : List Oper} (hm : fr.P.follows .mixedOrders = true) (hsep : sepOk fr.N l = true)
    (h : Plan fr x l Q ds l.length (List.range l.length) σ H L) : T fr x (.region id l.toArray true) Q σ H L ds := by
  intro a w hs hd hst
  refine wpIn_region_any hm ?_
  have hsz : l.toArray.size = l.length := by simp
  rw [hsz]
  refine Plan.sound hsep l.length l.length (List.range l.length) [] _ σ H L a _ (by simp) (by simp) ⟨List.nodup_range, List.nodup_nil, (fun i _ hc => by cases hc), (fun i hi => List.mem_range.1 hi), (fun i hi => by cases hi), ?_, by simp, hs.size, (fun t ht => by rw [← hs.val t, Array.getD_eq_getD_getElem?, Array.getElem?_eq_none (by rw [hs.size]; exact ht)]; rfl), fun t _ => hs.val t, hd, (fun j hj => by cases hj)⟩ hst.drew h
  intro i hi
  rw [Array.getD_eq_getD_getElem?, Array.getElem?_replicate, if_pos hi]
  simp [hi]

theorem Plan.v {n : Nat} {pend : List Nat} {σ : Env} {H : Heap} {L : Own} {d : Nat} {op : Op} {ty : TypeId} {p : String} {af : Array Edge} {g : Option (Nat × Bool)} {v : Value} (i : Nat) (pend' : List Nat)
    (hi : pend.contains i = true) (he : pend.erase i = pend') (hv : vready ol pend i = true) (hf : freshOk ol i = true) (ho : nth ol i = some ⟨some d, op, ty, p, af, g⟩)
    (hp : PV fr ol ⟨some d, op, ty, p, af, g⟩ σ H ds (upd σ d v)) (h : Plan fr x ol Q ds n pend' (upd σ d v) H L) : Plan fr x ol Q ds (n + 1) pend σ H L :=
  .inl ⟨i, _, _, by simpa using hi, hv, hf, ho, fun t ht => upd_other _ _ _ _ (fun e => ht (by rw [e])), hp, by rw [he]; exact h⟩
theorem Plan.s1 {n : Nat} {pend : List Nat} {σ : Env} {H : Heap} {L : Own} {o : Oper} (i : Nat) (pend' : List Nat) (hr : pend.filter (vready ol pend) = [i]) (he : pend.erase i = pend') (ho : nth ol i = some o)
    (h : TL fr x ol [o] (nextP ds (fun σ' H' L' => HLe H H' ∧ (∀ t, o.dst ≠ some t → σ' t = σ t) ∧ Plan fr x ol Q ds n pend' σ' H' L')) σ H L ds) : Plan fr x ol Q ds (n + 1) pend σ H L :=
  .inr (fun j hj hv => by
    have : j ∈ pend.filter (vready ol pend) := List.mem_filter.2 ⟨hj, hv⟩
    rw [hr] at this
    simp only [List.mem_singleton] at this
    subst this
    exact ⟨o, ho, by rw [he]; exact h⟩)
theorem Plan.s2 {n : Nat} {pend : List Nat} {σ : Env} {H : Heap} {L : Own} {o1 o2 : Oper} (i1 i2 : Nat) (p1 p2 : List Nat) (hr : pend.filter (vready ol pend) = [i1, i2]) (e1 : pend.erase i1 = p1) (e2 : pend.erase i2 = p2) (ho1 : nth ol i1 = some o1) (ho2 : nth ol i2 = some o2)
    (h1 : TL fr x ol [o1] (nextP ds (fun σ' H' L' => HLe H H' ∧ (∀ t, o1.dst ≠ some t → σ' t = σ t) ∧ Plan fr x ol Q ds n p1 σ' H' L')) σ H L ds)
    (h2 : TL fr x ol [o2] (nextP ds (fun σ' H' L' => HLe H H' ∧ (∀ t, o2.dst ≠ some t → σ' t = σ t) ∧ Plan fr x ol Q ds n p2 σ' H' L')) σ H L ds) : Plan fr x ol Q ds (n + 1) pend σ H L :=
  .inr (fun j hj hv => by
    have : j ∈ pend.filter (vready ol pend) := List.mem_filter.2 ⟨hj, hv⟩
    rw [hr] at this
    simp only [List.mem_cons, List.not_mem_nil, or_false] at this
    rcases this with rfl | rfl
    · exact ⟨o1, ho1, by rw [e1]; exact h1⟩
    · exact ⟨o2, ho2, by rw [e2]; exact h2⟩)
theorem Plan.s3 {n : Nat} {pend : List Nat} {σ : Env} {H : Heap} {L : Own} {o1 o2 o3 : Oper} (i1 i2 i3 : Nat) (p1 p2 p3 : List Nat) (hr : pend.filter (vready ol pend) = [i1, i2, i3]) (e1 : pend.erase i1 = p1) (e2 : pend.erase i2 = p2) (e3 : pend.erase i3 = p3) (ho1 : nth ol i1 = some o1) (ho2 : nth ol i2 = some o2) (ho3 : nth ol i3 = some o3)
    (h1 : TL fr x ol [o1] (nextP ds (fun σ' H' L' => HLe H H' ∧ (∀ t, o1.dst ≠ some t → σ' t = σ t) ∧ Plan fr x ol Q ds n p1 σ' H' L')) σ H L ds)
    (h2 : TL fr x ol [o2] (nextP ds (fun σ' H' L' => HLe H H' ∧ (∀ t, o2.dst ≠ some t → σ' t = σ t) ∧ Plan fr x ol Q ds n p2 σ' H' L')) σ H L ds)
    (h3 : TL fr x ol [o3] (nextP ds (fun σ' H' L' => HLe H H' ∧ (∀ t, o3.dst ≠ some t → σ' t = σ t) ∧ Plan fr x ol Q ds n p3 σ' H' L')) σ H L ds) : Plan fr x ol Q ds (n + 1) pend σ H L :=
  .inr (fun j hj hv => by
    have : j ∈ pend.filter (vready ol pend) := List.mem_filter.2 ⟨hj, hv⟩
    rw [hr] at this
    simp only [List.mem_cons, List.not_mem_nil, or_false] at this
    rcases this with rfl | rfl | rfl
    · exact ⟨o1, ho1, by rw [e1]; exact h1⟩
    · exact ⟨o2, ho2, by rw [e2]; exact h2⟩
    · exact ⟨o3, ho3, by rw [e3]; exact h3⟩)
theorem Plan.e1 {n : Nat} {pend : List Nat} {σ : Env} {H H' : Heap} {L' : Own} {d : Nat} {op : Op} {ty : TypeId} {p : String} {af : Array Edge} {g : Option (Nat × Bool)} {v : Value} (hl : HLe H H') (h : Plan fr x ol Q ds n pend (upd σ d v) H' L') :
    nextP ds (fun σ' H' L' => HLe H H' ∧ (∀ t, (⟨some d, op, ty, p, af, g⟩ : Oper).dst ≠ some t → σ' t = σ t) ∧ Plan fr x ol Q ds n pend σ' H' L') .normal (upd σ d v) H' L' ds :=
  ⟨rfl, hl, fun t ht => upd_other _ _ _ _ (fun e => ht (by rw [e])), h⟩
theorem Plan.e0 {n : Nat} {pend : List Nat} {σ : Env} {H H' : Heap} {L' : Own} {op : Op} {ty : TypeId} {p : String} {af : Array Edge} {g : Option (Nat × Bool)} (hl : HLe H H') (h : Plan fr x ol Q ds n pend σ H' L') :
    nextP ds (fun σ' H' L' => HLe H H' ∧ (∀ t, (⟨none, op, ty, p, af, g⟩ : Oper).dst ≠ some t → σ' t = σ t) ∧ Plan fr x ol Q ds n pend σ' H' L') .normal σ H' L' ds :=
  ⟨rfl, hl, fun _ _ => rfl, h⟩
theorem Plan.done {σ : Env} {H : Heap} {L : Own} (h : Q .normal σ H L ds) : Plan fr x ol Q ds 0 [] σ H L := ⟨rfl, h⟩
theorem Plan.set {n : Nat} {pend : List Nat} {σ : Env} {H : Heap} {L : Own} (t : Nat) (v : Value) (hb : σ t = v) (h : Plan fr x ol Q ds n pend (upd σ t v) H L) : Plan fr x ol Q ds n pend σ H L := by
  rwa [upd_self _ _ _ hb] at h
theorem Plan.gsplit {n : Nat} {pend : List Nat} {σ : Env} {H : Heap} {L : Own} (t : Nat) {b : Bool} (hb : σ t = .bool b) (h1 : b = true → Plan fr x ol Q ds n pend (upd σ t (.bool true)) H L) (h2 : b = false → Plan fr x ol Q ds n pend (upd σ t (.bool false)) H L) : Plan fr x ol Q ds n pend σ H L := by
  cases b with
  | true => exact Plan.set t _ hb (h1 rfl)
  | false => exact Plan.set t _ hb (h2 rfl)
theorem Plan.gsplitD {n : Nat} {pend : List Nat} {σ : Env} {H : Heap} {L : Own} (t : Nat) {q : Prop} [Decidable q] (hb : σ t = .bool (decide q)) (h1 : q → Plan fr x ol Q ds n pend (upd σ t (.bool true)) H L) (h2 : ¬q → Plan fr x ol Q ds n pend (upd σ t (.bool false)) H L) : Plan fr x ol Q ds n pend σ H L :=
  Plan.gsplit t hb (fun h => h1 (of_decide_eq_true h)) (fun h => h2 (of_decide_eq_false h))
attribute [irreducible] Plan
end
end Go.SX
