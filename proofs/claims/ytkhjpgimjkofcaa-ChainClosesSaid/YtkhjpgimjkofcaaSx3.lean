/- SX: contracts and calls; memory: boxes, slices that are read, slices that are owned. -/
import Derived.Test.YtkhjpgimjkofcaaSx2
set_option linter.unusedVariables false
set_option linter.unusedSimpArgs false
namespace Go.SX
open Go
attribute [local semireducible] T TL

def CallV (P : Program) (fv : Value) (vs : List Value) (w : World) (R : Ending → World → Prop) : Prop :=
  ∃ nx w1, Sem.run P (do let d ← Deferred.ofValue fv vs.toArray; invoke d.target d.args) w = .ok nx w1 ∧
    match nx with
    | .enter f ag => CallsIn Fence.wide 0 P f ag w1 R
    | .round l fn tmps ag body => RoundIn Fence.wide 0 P l fn tmps ag body w1 R
    | _ => False

/-- What a call comes to: v, more that can be read, and what is owned of what was handed over. -/
def Fc (P : Program) (fv : Value) (vs : List Value) (H : Heap) (L : Own) (post : Value → Heap → Own → Prop) : Prop :=
  ∀ w, Sat H L.flatten w → CallV P fv vs w (fun e w' => ∃ v H' L', e = .returned v ∧ St ⟨w, H, L.flatten⟩ H' (List.flatten L') w' ∧ post v H' L')
/-- A call that hands back what can be read. -/
def Fp (P : Program) (fv : Value) (vs : List Value) (H : Heap) (post : Value → Heap → Prop) : Prop :=
  Fc P fv vs H [] (fun v H' L' => L' = [] ∧ post v H')
/-- A call that hands back v. -/
def Fv (P : Program) (fv : Value) (vs : List Value) (H : Heap) (v : Value) : Prop := Fp P fv vs H (fun v' _ => v' = v)

abbrev fnv (f : FuncId) : Value := .func (.func f) #[] #[]

def split : List Bool → Own → Own × Own
  | [], L => ([], L)
  | _ :: _, [] => ([], [])
  | true :: m, c :: L => let r := split m L; (c :: r.1, r.2)
  | false :: m, c :: L => let r := split m L; (r.1, c :: r.2)

theorem split_perm : ∀ (m : List Bool) (L : Own), L.flatten.Perm ((split m L).1.flatten ++ (split m L).2.flatten)
  | [], L => by simp [split]
  | b :: _, [] => by cases b <;> simp [split]
  | true :: m, c :: L => by
    simp only [split, List.flatten_cons, List.append_assoc]
    exact (split_perm m L).append_left c
  | false :: m, c :: L => by
    simp only [split, List.flatten_cons]
    refine ((split_perm m L).append_left c).trans ?_
    rw [← List.append_assoc, ← List.append_assoc]
    exact List.Perm.append_right _ List.perm_append_comm

theorem CallV.mono {P : Program} {fv : Value} {vs : List Value} {w : World} {R R' : Ending → World → Prop} (h : CallV P fv vs w R) (hr : ∀ e w', R e w' → R' e w') : CallV P fv vs w R' := by
  obtain ⟨nx, w1, h1, h2⟩ := h
  refine ⟨nx, w1, h1, ?_⟩
  cases nx with
  | enter f ag => exact CallsIn.mono h2 hr
  | round l fn tmps ag body => exact RoundIn.mono h2 hr
  | _ => exact h2
theorem Fc.mono {P : Program} {fv : Value} {vs : List Value} {H : Heap} {L : Own} {p q : Value → Heap → Own → Prop} (h : Fc P fv vs H L p) (hq : ∀ v H' L', HLe H H' → p v H' L' → q v H' L') : Fc P fv vs H L q :=
  fun w hs => (h w hs).mono fun _ _ ⟨v, H', L', h1, h2, h3⟩ => ⟨v, H', L', h1, h2, hq v H' L' h2.le h3⟩
theorem Fp.mono {P : Program} {fv : Value} {vs : List Value} {H : Heap} {p q : Value → Heap → Prop} (h : Fp P fv vs H p) (hq : ∀ v H', HLe H H' → p v H' → q v H') : Fp P fv vs H q :=
  Fc.mono h fun v H' _ hl ⟨h1, h2⟩ => ⟨h1, hq v H' hl h2⟩
theorem Fv.to {P : Program} {fv : Value} {vs : List Value} {H : Heap} {v v' : Value} (h : Fv P fv vs H v) (e : v = v') : Fv P fv vs H v' := e ▸ h

section
variable {fr : Fr} {x : Cx} {Q : Post} {σ : Env} {H : Heap} {L : Own} {ds : List Nat} {ol rest : List Oper}
variable {d : Nat} {ty : TypeId} {p : String} {af : Array Edge} {g : Option (Nat × Bool)}

theorem resolve_value {ρ : Operand → Value} {F : Operand} {ag : List Operand} {ats : Array TypeId} {ty : TypeId} :
    (do let d ← resolve ρ { callee := .value F, args := ag.toArray, argTypes := ats } ty; invoke d.target d.args : Sem Next) = (do let d ← Deferred.ofValue (ρ F) (ag.map ρ).toArray; invoke d.target d.args) := by
  simp [resolve]

theorem calls_fence {P : Program} {rd : Option (Nat × Loop)} {n : Nat} {f : FuncId} {args : Array Value} {w : World} {R : Ending → World → Prop} (h : CallsIn Fence.wide 0 P f args w R) : CallsIn (fence rd) n P f args w R :=
  ⟨trivial, fun cs _ => h.2 cs (room_wide _)⟩
theorem round_fence {P : Program} {rd : Option (Nat × Loop)} {n : Nat} {l : Nat} {f : FuncId} {tmps : Array Value} {ag body : Code} {w : World} {R : Ending → World → Prop} (h : RoundIn Fence.wide 0 P l f tmps ag body w R) : RoundIn (fence rd) n P l f tmps ag body w R :=
  ⟨trivial, fun c cs _ => h.2 c cs (room_wide _)⟩

/-- A call: m marks the chunks that are handed over. -/
theorem TL.call {F : Operand} {ag : List Operand} {ats : Array TypeId} {fv : Value} {vs : List Value} {post : Value → Heap → Own → Prop} (m : List Bool) (hw : wan fr.N ol σ d g = true)
    (hf : ev σ F = fv) (ha : ag.map (ev σ) = vs) (hc : Fc fr.P fv vs H (split m L).1 post)
    (h : ∀ v H' L', HLe H H' → post v H' L' → TL fr x ol rest Q (upd σ d v) H' (L' ++ (split m L).2) ds) :
    TL fr x ol (⟨some d, .call { callee := .value F, args := ag.toArray, argTypes := ats }, ty, p, af, g⟩ :: rest) Q σ H L ds := by
  intro a w hs hd hst
  obtain ⟨hdN, hwn⟩ := wan_lt hw
  have hst' : St x H ((split m L).1.flatten ++ ((split m L).2.flatten ++ hid fr.rd ds)) w := by
    refine hst.perm ?_
    rw [← List.append_assoc]
    exact (split_perm m L).append_right _
  have hsub : Sat H (split m L).1.flatten w := hst'.sat.sub (List.sublist_append_left _ _)
  obtain ⟨nx, w1, hrun, hnx⟩ := hc w hsub
  unfold wpLo
  rw [if_pos (wanted_of hs hwn)]
  refine ⟨fun f _ => fenceFn _ f, ?_⟩
  rw [semAt_of rfl, hs.eval]
  simp only [execOp]
  rw [resolve_value, hf, ha, hrun]
  have fin : ∀ (e : Ending) w', (∃ v H' L', e = .returned v ∧ St ⟨w, H, (split m L).1.flatten⟩ H' (List.flatten L') w' ∧ post v H' L') →
      (match e with
        | .returned v => wpLo (fence fr.rd) fr.P ol.toArray (lift fr x Q) rest (a.put (some d) v) w'
        | .panicked chain => lift fr x Q (.panic chain) a w'
        | .outgrown => LetsOut (lift fr x Q)) := by
    rintro e w' ⟨v, H', L', rfl, h2, h3⟩
    have hj := hst'.join h2
    rw [← List.append_assoc, ← List.flatten_append] at hj
    exact h v H' L' h2.le h3 _ w' (hs.putA d v hdN) hd hj
  cases nx with
  | enter f ag' => exact ⟨(fun h => by cases h), CallsIn.mono (calls_fence hnx) (fun e w' q => by have := fin e w' q; cases e <;> exact this)⟩
  | round l fn tmps ag' body => exact ⟨(fun h => by cases h), RoundIn.mono (round_fence hnx) (fun e w' q => by have := fin e w' q; cases e <;> exact this)⟩
  | _ => exact hnx.elim
/-- A call without a result. -/
theorem TL.call0 {F : Operand} {ag : List Operand} {ats : Array TypeId} {fv : Value} {vs : List Value} {post : Value → Heap → Own → Prop} (m : List Bool) (hw : wants ol σ g = true)
    (hf : ev σ F = fv) (ha : ag.map (ev σ) = vs) (hc : Fc fr.P fv vs H (split m L).1 post)
    (h : ∀ v H' L', HLe H H' → post v H' L' → TL fr x ol rest Q σ H' (L' ++ (split m L).2) ds) :
    TL fr x ol (⟨none, .call { callee := .value F, args := ag.toArray, argTypes := ats }, ty, p, af, g⟩ :: rest) Q σ H L ds := by
  intro a w hs hd hst
  have hst' : St x H ((split m L).1.flatten ++ ((split m L).2.flatten ++ hid fr.rd ds)) w := by
    refine hst.perm ?_
    rw [← List.append_assoc]
    exact (split_perm m L).append_right _
  have hsub : Sat H (split m L).1.flatten w := hst'.sat.sub (List.sublist_append_left _ _)
  obtain ⟨nx, w1, hrun, hnx⟩ := hc w hsub
  unfold wpLo
  rw [if_pos (wanted_of hs hw)]
  refine ⟨fun f _ => fenceFn _ f, ?_⟩
  rw [semAt_of rfl, hs.eval]
  simp only [execOp]
  rw [resolve_value, hf, ha, hrun]
  have fin : ∀ (e : Ending) w', (∃ v H' L', e = .returned v ∧ St ⟨w, H, (split m L).1.flatten⟩ H' (List.flatten L') w' ∧ post v H' L') →
      (match e with
        | .returned v => wpLo (fence fr.rd) fr.P ol.toArray (lift fr x Q) rest (a.put none v) w'
        | .panicked chain => lift fr x Q (.panic chain) a w'
        | .outgrown => LetsOut (lift fr x Q)) := by
    rintro e w' ⟨v, H', L', rfl, h2, h3⟩
    have hj := hst'.join h2
    rw [← List.append_assoc, ← List.flatten_append] at hj
    exact h v H' L' h2.le h3 _ w' hs hd hj
  cases nx with
  | enter f ag' => exact ⟨(fun h => by cases h), CallsIn.mono (calls_fence hnx) (fun e w' q => by have := fin e w' q; cases e <;> exact this)⟩
  | round l fn tmps ag' body => exact ⟨(fun h => by cases h), RoundIn.mono (round_fence hnx) (fun e w' q => by have := fin e w' q; cases e <;> exact this)⟩
  | _ => exact hnx.elim

theorem TL.weak {H' : Heap} {l : List Oper} (h : TL fr x ol l Q σ H L ds) (hl : HLe H H') (h0 : HLe x.H H) : TL fr x ol l Q σ H' L ds :=
  fun a w hs hd hst => h a w hs hd (hst.weak hl h0)

/-- A call that hands back what can be read. -/
theorem R.callp {F : Operand} {ag : List Operand} {ats : Array TypeId} {fv : Value} {vs : List Value} {post : Value → Heap → Prop} (hw : wan fr.N ol σ d g = true)
    (hf : ev σ F = fv) (ha : ag.map (ev σ) = vs) (hc : Fp fr.P fv vs H post) (h : ∀ v H', HLe H H' → post v H' → TL fr x ol rest Q (upd σ d v) H' L ds) :
    TL fr x ol (⟨some d, .call { callee := .value F, args := ag.toArray, argTypes := ats }, ty, p, af, g⟩ :: rest) Q σ H L ds :=
  TL.call [] hw hf ha hc (fun v H' L' hl ⟨h1, h2⟩ => by subst h1; exact h v H' hl h2)
/-- A call that hands back v. -/
theorem R.callv {F : Operand} {ag : List Operand} {ats : Array TypeId} {fv : Value} {vs : List Value} {v : Value} (hw : wan fr.N ol σ d g = true)
    (hf : ev σ F = fv) (ha : ag.map (ev σ) = vs) (hc : Fv fr.P fv vs H v) (h : TL fr x ol rest Q (upd σ d v) H L ds) :
    TL fr x ol (⟨some d, .call { callee := .value F, args := ag.toArray, argTypes := ats }, ty, p, af, g⟩ :: rest) Q σ H L ds := by
  intro a w hs hd hst
  have h0 := hst.le
  exact R.callp hw hf ha hc (fun v' H' hl e => by subst e; exact h.weak hl h0) a w hs hd hst

/-! ### Chunks -/
inductive In : Own → Chunk → Prop
  | hd {c : Chunk} {L : Own} : In (c :: L) c
  | tl {c e : Chunk} {L : Own} : In L c → In (e :: L) c
inductive Del : Own → Chunk → Own → Prop
  | hd {c : Chunk} {L : Own} : Del (c :: L) c L
  | tl {c e : Chunk} {L R : Own} : Del L c R → Del (e :: L) c (e :: R)
inductive Rep : Own → Chunk → Chunk → Own → Prop
  | hd {c c' : Chunk} {L : Own} : Rep (c :: L) c c' (c' :: L)
  | tl {c c' e : Chunk} {L R : Own} : Rep L c c' R → Rep (e :: L) c c' (e :: R)
theorem In.mem {L : Own} {c : Chunk} (h : In L c) {q : Nat × Obj} (hq : q ∈ c) : q ∈ L.flatten := by
  induction h with
  | hd => simp [hq]
  | tl _ ih => simp only [List.flatten_cons, List.mem_append]; exact .inr (ih hq)
theorem Del.perm {L R : Own} {c : Chunk} (h : Del L c R) : L.flatten.Perm (c ++ R.flatten) := by
  induction h with
  | hd => simp
  | tl _ ih =>
    simp only [List.flatten_cons]
    refine (ih.append_left _).trans ?_
    rw [← List.append_assoc, ← List.append_assoc]
    exact List.Perm.append_right _ List.perm_append_comm
theorem Rep.perm {L L' : Own} {c c' : Chunk} (h : Rep L c c' L') : ∃ R : Chunk, L.flatten.Perm (c ++ R) ∧ L'.flatten.Perm (c' ++ R) := by
  induction h with
  | hd => exact ⟨_, by simp; rfl, by simp⟩
  | @tl c c' e L R _ ih =>
    obtain ⟨S, h1, h2⟩ := ih
    refine ⟨e ++ S, ?_, ?_⟩
    · simp only [List.flatten_cons]
      refine (h1.append_left e).trans ?_
      rw [← List.append_assoc, ← List.append_assoc]
      exact List.Perm.append_right _ List.perm_append_comm
    · simp only [List.flatten_cons]
      refine (h2.append_left e).trans ?_
      rw [← List.append_assoc, ← List.append_assoc]
      exact List.Perm.append_right _ List.perm_append_comm

theorem St.del {H : Heap} {L R : Own} {c hd : Chunk} {w : World} (h : St x H (L.flatten ++ hd) w) (hdel : Del L c R) : St x H (R.flatten ++ hd) w := by
  refine (h.perm (L' := c ++ (R.flatten ++ hd)) ?_).sub (List.sublist_append_right _ _)
  rw [← List.append_assoc]
  exact hdel.perm.append_right _
theorem TL.del {R : Own} {c : Chunk} {l : List Oper} (hdel : Del L c R) (h : TL fr x ol l Q σ H R ds) : TL fr x ol l Q σ H L ds :=
  fun a w hs hd hst => h a w hs hd (hst.del hdel)
theorem T.del {R : Own} {c : Chunk} {cd : Code} (hdel : Del L c R) (h : T fr x cd Q σ H R ds) : T fr x cd Q σ H L ds :=
  fun a w hs hd hst => h a w hs hd (hst.del hdel)
/-- All that is owned is forgotten. -/
theorem TL.drop {l : List Oper} (h : TL fr x ol l Q σ H [] ds) : TL fr x ol l Q σ H L ds :=
  fun a w hs hd hst => h a w hs hd (hst.sub (List.sublist_append_right _ _))
/-- A chunk is shut for good. -/
theorem St.shut {H : Heap} {L R : Own} {c hd : Chunk} {w : World} (h : St x H (L.flatten ++ hd) w) (hdel : Del L c R) : ∃ H', HLe H H' ∧ (∀ q ∈ c, H' q.1 = some q.2) ∧ St x H' (R.flatten ++ hd) w := by
  have h1 : St x H (c ++ (R.flatten ++ hd)) w := h.perm (by rw [← List.append_assoc]; exact hdel.perm.append_right _)
  have hnd := h1.sat.nd
  rw [keys_append, List.nodup_append] at hnd
  exact ⟨hadd H c, hadd_le (fun q hq => h1.sat.dj q (List.mem_append_left _ hq)), fun q hq => hadd_at hnd.1 q hq, h1.persist⟩
theorem TL.shut {R : Own} {c : Chunk} {l : List Oper} (hdel : Del L c R) (h : ∀ H', HLe H H' → (∀ q ∈ c, H' q.1 = some q.2) → TL fr x ol l Q σ H' R ds) : TL fr x ol l Q σ H L ds := by
  intro a w hs hd hst
  obtain ⟨H', h1, h2, h3⟩ := hst.shut hdel
  exact h H' h1 h2 a w hs hd h3
theorem T.shut {R : Own} {c : Chunk} {cd : Code} (hdel : Del L c R) (h : ∀ H', HLe H H' → (∀ q ∈ c, H' q.1 = some q.2) → T fr x cd Q σ H' R ds) : T fr x cd Q σ H L ds := by
  intro a w hs hd hst
  obtain ⟨H', h1, h2, h3⟩ := hst.shut hdel
  exact h H' h1 h2 a w hs hd h3

/-! ### New blocks, loads, stores -/
theorem St.new {hd : Chunk} {w : World} (h : St x H (L.flatten ++ hd) w) (o : Obj) : St x H (List.flatten ([(w.heap.size, o)] :: L) ++ hd) (w.alloc o) := by
  have := h.alloc o
  simpa using this

theorem R.alloc {t : TypeId} {z : Value} (hz : ∀ w, (zeroValue t).run fr.P w = .ok z w) (hw : wan fr.N ol σ d g = true) (h : ∀ b, TL fr x ol rest Q (upd σ d (.pointer (some ⟨b, 0, none⟩))) H ([(b, .cells z.cells t)] :: L) ds) :
    TL fr x ol (⟨some d, .alloc t, ty, p, af, g⟩ :: rest) Q σ H L ds :=
  TL.value hw rfl (fun w hst => ⟨_, w.alloc (.cells z.cells t), H, _, by simp [execOp, Instr.alloc, hz, newVar, newRow], hst.new _, h w.heap.size⟩)
theorem R.box {t : TypeId} {X : Operand} {v : Value} (hw : wan fr.N ol σ d g = true) (hx : ev σ X = v) (h : ∀ b, TL fr x ol rest Q (upd σ d (.pointer (some ⟨b, 0, none⟩))) H ([(b, .cells v.cells t)] :: L) ds) :
    TL fr x ol (⟨some d, .box t X, ty, p, af, g⟩ :: rest) Q σ H L ds :=
  TL.value hw rfl (fun w hst => ⟨_, w.alloc (.cells v.cells t), H, _, by simp [execOp, Instr.box, newVar, newRow, hx], hst.new _, h w.heap.size⟩)

theorem cell_of_heap {w : World} {b o : Nat} {cs : Array Value} {t : TypeId} {fz : Nat × Nat} {v : Value} (hb : w.heap[b]? = some (.cells cs t fz)) (hv : cs[o]? = some v) : w.cell? ⟨b, o, none⟩ = some v := by
  simp [World.cell?, hb, hv]

/-- A load of one cell that is owned. -/
theorem R.ld {t : TypeId} {A : Operand} {b o : Nat} {cs : Array Value} {et : TypeId} {fz : Nat × Nat} {v : Value} (hagg : ∀ w, (isAgg t).run fr.P w = .ok false w) (hw : wan fr.N ol σ d g = true) (ha : ev σ A = .pointer (some ⟨b, o, none⟩))
    (hin : In L [(b, .cells cs et fz)]) (hv : cs[o]? = some v) (h : TL fr x ol rest Q (upd σ d v) H L ds) : TL fr x ol (⟨some d, .load t A, ty, p, af, g⟩ :: rest) Q σ H L ds :=
  TL.value hw rfl (fun w hst => by
    have hb := hst.sat.l (b, .cells cs et fz) (List.mem_append_left _ (hin.mem (List.mem_singleton.2 rfl)))
    have hc := cell_of_heap hb hv
    exact ⟨v, w, H, L, by simp [execOp, Instr.loadAt, Instr.sureAddr, loadVar, ha, hagg, hc], hst, h⟩)
/-- A load of one cell that can be read. -/
theorem R.ldH {t : TypeId} {A : Operand} {b o : Nat} {cs : Array Value} {et : TypeId} {fz : Nat × Nat} {v : Value} (hagg : ∀ w, (isAgg t).run fr.P w = .ok false w) (hw : wan fr.N ol σ d g = true) (ha : ev σ A = .pointer (some ⟨b, o, none⟩))
    (hin : H b = some (.cells cs et fz)) (hv : cs[o]? = some v) (h : TL fr x ol rest Q (upd σ d v) H L ds) : TL fr x ol (⟨some d, .load t A, ty, p, af, g⟩ :: rest) Q σ H L ds :=
  TL.value hw rfl (fun w hst => by
    have hc := cell_of_heap (hst.sat.h b _ hin) hv
    exact ⟨v, w, H, L, by simp [execOp, Instr.loadAt, Instr.sureAddr, loadVar, ha, hagg, hc], hst, h⟩)

/-- A store into a box. -/
theorem R.st {t : TypeId} {A X : Operand} {b : Nat} {old v : Value} {et : TypeId} {L' : Own} (hsz : ∀ w, (sizeOf t).run fr.P w = .ok 1 w) (hw : wants ol σ g = true) (ha : ev σ A = .pointer (some ⟨b, 0, none⟩)) (hx : ev σ X = v) (h1 : v.oneCell' = true)
    (hrep : Rep L [(b, .cells #[old] et)] [(b, .cells #[v] et)] L') (h : TL fr x ol rest Q σ H L' ds) :
    TL fr x ol (⟨none, .store t A X, ty, p, af, g⟩ :: rest) Q σ H L ds := by
  intro a w hs hd hst
  obtain ⟨R, hp1, hp2⟩ := hrep.perm
  have hst1 : St x H ((b, .cells #[old] et) :: (R ++ hid fr.rd ds)) w := hst.perm (by
    have := hp1.append_right (hid fr.rd ds)
    simpa using this)
  have hb := hst1.sat.l (b, .cells #[old] et) (List.mem_cons_self ..)
  have hc : w.cell? ⟨b, 0, none⟩ = some old := cell_of_heap hb rfl
  have hfz : w.frozen? ⟨b, 0, none⟩ = false := by simp only [] at hb; simp [World.frozen?, hb]
  have hcs : v.cells = #[v] := by cases v <;> first | rfl | cases h1
  have hst2 : St x H ((b, .cells #[v] et) :: (R ++ hid fr.rd ds)) (w.setCell ⟨b, 0, none⟩ v) := hst1.turn rfl rfl rfl (by simp) (by simp only [] at hb; simp [World.setCell, Array.getElem?_modify, hb]) (fun c hc => by
    simp only [World.setCell, Array.getElem?_modify]
    rw [if_neg (fun e => hc e.symm)])
  have hst3 : St x H (L'.flatten ++ hid fr.rd ds) (w.setCell ⟨b, 0, none⟩ v) := hst2.perm (by
    have := (hp2.append_right (hid fr.rd ds)).symm
    simpa using this)
  unfold wpLo
  rw [if_pos (wanted_of hs hw)]
  refine ⟨fun f _ => fenceFn _ f, ?_⟩
  rw [semAt_of rfl, hs.eval]
  have hrun : (execOp (ev σ) ⟨none, .store t A X, ty, p, af, g⟩).run fr.P w = .ok .skip (w.setCell ⟨b, 0, none⟩ v) := by
    simp [execOp, Instr.storeAt, Instr.sureAddr, storeVar, ha, hx, hsz, hcs, storeCells, run_store _ _ _ _ _ h1, Addr.add_zero', hc, hfz]
  rw [hrun]
  exact h _ _ hs hd hst3
end

/-! ### Function entry -/
def ent (l : List Value) : Env := fun i => match nth l i with
  | some v => v
  | none => undef

def resOk (P : Program) (fn : Func) (N : Nat) (σ : Env) (H : Heap) (L : Own) (v : Value) : Prop :=
  ∀ tmps w, Sim N σ tmps → Sat H L.flatten w → (results fn tmps).run P w = .ok v w
def fnPost (P : Program) (fn : Func) (N : Nat) (post : Value → Heap → Own → Prop) : Post
  | .normal, σ, H, L, _ | .ret, σ, H, L, _ => ∃ v L', List.Sublist L' L ∧ resOk P fn N σ H L v ∧ post v H L'
  | _, _, _, _, _ => False

theorem sublist_flatten {A B : Own} (h : List.Sublist A B) : List.Sublist A.flatten B.flatten := by
  induction h with
  | slnil => exact List.Sublist.refl _
  | cons c _ ih => rw [List.flatten_cons]; exact ih.trans (List.sublist_append_right _ _)
  | cons_cons c _ ih => rw [List.flatten_cons, List.flatten_cons]; exact ih.append_left c
theorem hid_none (ds : List Nat) : hid none ds = ds.map (fun D => (D, Obj.deferred (some []))) := rfl

theorem leaves_of {P : Program} {fn : Func} {N : Nat} {tmps : Array Value} {x : Cx} {σ : Env} {H : Heap} {L : Own} {v : Value} {R : Ending → World → Prop}
    (hs : Sim N σ tmps) (hv : resOk P fn N σ H L v) (hR : ∀ w, St x H L.flatten w → R (.returned v) w) : ∀ (ds : List Nat) (w : World), St x H (L.flatten ++ ds.map (fun D => (D, Obj.deferred (some [])))) w →
    LeavesInM Fence.wide 0 P fn tmps R (ds.map mk) .returning w := by
  intro ds
  induction ds with
  | nil =>
    intro w hst
    simp only [List.map_nil, List.append_nil] at hst
    exact ⟨v, hv tmps w hs hst.sat, hR w hst⟩
  | cons D ds ih =>
    intro w hst
    have hst1 : St x H ((D, Obj.deferred (some [])) :: (L.flatten ++ ds.map (fun D => (D, Obj.deferred (some []))))) w := hst.perm (by
      simp only [List.map_cons]
      exact List.perm_middle)
    have hb := hst1.sat.l (D, Obj.deferred (some [])) (List.mem_cons_self ..)
    have hlt := heap_lt hb
    refine ⟨by simp, .inl ⟨D, w.putObj D (.deferred none), rfl, run_takeDeferred hb, ?_⟩⟩
    have hst2 : St x H ((D, Obj.deferred none) :: (L.flatten ++ ds.map (fun D => (D, Obj.deferred (some []))))) (w.putObj D (.deferred none)) :=
      hst1.turn rfl rfl rfl (by simp [World.putObj]) (World.putObj_heap_same hlt) (fun c hc => World.putObj_heap_other (fun e => hc (by first | exact e | exact e.symm)))
    exact ih _ (hst2.sub (List.sublist_cons_self _ _))

theorem Fc.of_body {P : Program} {f : FuncId} {fn : Func} {c : Code} {N : Nat} {caps vs : List Value} {H : Heap} {L : Own} {post : Value → Heap → Own → Prop}
    (hf : P.funcs[f]? = some fn) (hb : fn.body = some c) (hname : (fn.name == "runtime.NumGoroutine") = false) (hN : fn.ntmps = N) (hle : Nat.ble (vs.length + caps.length) N = true)
    (h : ∀ w, T ⟨P, N, none⟩ ⟨w, H, L.flatten⟩ c (fnPost P fn N post) (ent (vs ++ caps)) H L []) : Fc P (.func (.func f) #[] caps.toArray) vs H L post := by
  intro w hsat
  have hle' : vs.length + caps.length ≤ N := Nat.le_of_ble_eq_true hle
  refine ⟨.enter f (vs ++ caps).toArray, w, ?_, ?_⟩
  · have he := Go.Proofs.enters_of (P := P) hf hname hb (vs ++ caps).toArray w
    simp [Deferred.ofValue, invoke, he]
  · refine callsIn_of_wp_marks hf hb trivial ?_
    have hsim : Sim N (ent (vs ++ caps)) ((vs ++ caps).toArray ++ Array.replicate (fn.ntmps - (vs ++ caps).toArray.size) undef) := by
      rw [hN]
      refine ⟨by simp; omega, fun i => ?_⟩
      rw [Array.getD_eq_getD_getElem?]
      unfold ent
      rw [nth_eq]
      by_cases hi : i < (vs ++ caps).length
      · rw [Array.getElem?_append_left (by simpa using hi)]
        simp only [List.getElem?_toArray]
        rw [List.getElem?_eq_getElem hi]
        rfl
      · rw [Array.getElem?_append_right (by simpa using Nat.le_of_not_lt hi)]
        rw [List.getElem?_eq_none (Nat.le_of_not_lt hi)]
        simp only [Array.getElem?_replicate]
        split <;> rfl
    have hst0 : St ⟨w, H, L.flatten⟩ H (L.flatten ++ hid none []) w := by
      have := St.init hsat
      simpa [hid] using this
    refine wpIn_mono (h w _ w hsim rfl hst0) ?_
    rintro e a w' ⟨σ', H', L', ds, hs, hd, hst, hq⟩
    have key : ∀ (v : Value) (L1 : Own), List.Sublist L1 L' → resOk P fn N σ' H' L' v → post v H' L1 →
        LeavesInM Fence.wide 0 P fn a.tmps (fun e w' => ∃ v H' L', e = .returned v ∧ St ⟨w, H, L.flatten⟩ H' (List.flatten L') w' ∧ post v H' L') a.defers .returning w' := by
      intro v L1 hsub hv hp
      rw [hd]
      exact leaves_of hs hv (fun w2 h2 => ⟨v, H', L1, rfl, h2.sub (sublist_flatten hsub), hp⟩) ds w' hst
    cases e with
    | normal => obtain ⟨v, L1, h1, h2, h3⟩ := hq; exact key v L1 h1 h2 h3
    | ret => obtain ⟨v, L1, h1, h2, h3⟩ := hq; exact key v L1 h1 h2 h3
    | _ => exact hq.elim

theorem fin1 {P : Program} {fn : Func} {N t : Nat} {post : Value → Heap → Own → Prop} {σ : Env} {H : Heap} {L : Own} {ds : List Nat} {v : Value} (hr : fn.results = #[.tmp t]) (hv : σ t = v) (h : post v H []) : fnPost P fn N post .ret σ H L ds :=
  ⟨v, [], List.nil_sublist _, fun tmps w hs _ => by rw [results_tmp hr, hs.val, hv], h⟩
theorem fin2 {P : Program} {fn : Func} {N t u : Nat} {post : Value → Heap → Own → Prop} {σ : Env} {H : Heap} {L : Own} {ds : List Nat} {v v' : Value} (hr : fn.results = #[.tmp t, .tmp u]) (hv : σ t = v) (hv' : σ u = v') (h : post (.tuple #[v, v']) H []) : fnPost P fn N post .ret σ H L ds :=
  ⟨_, [], List.nil_sublist _, fun tmps w hs _ => by rw [results_tmp2 hr, hs.val, hs.val, hv, hv'], h⟩
theorem fin1L {P : Program} {fn : Func} {N t : Nat} {post : Value → Heap → Own → Prop} {σ : Env} {H : Heap} {L : Own} {ds : List Nat} {v : Value} (L' : Own) (hr : fn.results = #[.tmp t]) (hv : σ t = v) (hL : List.Sublist L' L) (h : post v H L') : fnPost P fn N post .ret σ H L ds :=
  ⟨v, L', hL, fun tmps w hs _ => by rw [results_tmp hr, hs.val, hv], h⟩
theorem fin0L {P : Program} {fn : Func} {N : Nat} {post : Value → Heap → Own → Prop} {σ : Env} {H : Heap} {L : Own} {ds : List Nat} (L' : Own) (hr : fn.results = #[]) (hL : List.Sublist L' L) (h : post (.tuple #[]) H L') : fnPost P fn N post .ret σ H L ds :=
  ⟨_, L', hL, fun tmps w _ _ => results_none hr tmps P w, h⟩
theorem fin0N {P : Program} {fn : Func} {N : Nat} {post : Value → Heap → Own → Prop} {σ : Env} {H : Heap} {L : Own} {ds : List Nat} (L' : Own) (hr : fn.results = #[]) (hL : List.Sublist L' L) (h : post (.tuple #[]) H L') : fnPost P fn N post .normal σ H L ds :=
  ⟨_, L', hL, fun tmps w _ _ => results_none hr tmps P w, h⟩
end Go.SX
