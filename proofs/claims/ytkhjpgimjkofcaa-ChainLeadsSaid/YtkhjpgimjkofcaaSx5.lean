/- SX: a range over a function: the iterator's contract, the statement. -/
import Derived.Test.YtkhjpgimjkofcaaSx4
set_option linter.unusedVariables false
set_option linter.unusedSimpArgs false
namespace Go.SX
open Go
attribute [local semireducible] T TL

abbrev yieldv (l : Nat) : Value := .func (.yield l) #[] #[]

/-- v, called with a loop's yield, hands over the members of xs in their order, until it is told to stop. -/
def Iter {α : Type} (P : Program) (v : Value) (Y : Heap → List Value → α → Prop) (H0 : Heap) (xs : List α) : Prop :=
  ∀ (l : Nat) (J Jx : List α → Heap → Own → Prop) (H : Heap) (Lc : Own), HLe H0 H →
    (∀ pre H H' L, HLe H H' → J pre H L → J pre H' L) → (∀ pre H H' L, HLe H H' → Jx pre H L → Jx pre H' L) →
    (∀ pre y vs H2 L, HLe H H2 → (pre ++ [y]) <+: xs → J pre H2 L → Y H2 vs y →
      Fc P (yieldv l) vs H2 L (fun v H' L' => (v = .bool true ∧ J (pre ++ [y]) H' L') ∨ (v = .bool false ∧ Jx (pre ++ [y]) H' L'))) →
    J [] H Lc →
    Fc P v [yieldv l] H Lc (fun _ H' L' => J xs H' L' ∨ ∃ pre y, (pre ++ [y]) <+: xs ∧ Jx (pre ++ [y]) H' L')
theorem Iter.mono {α : Type} {P : Program} {v : Value} {Y : Heap → List Value → α → Prop} {H H' : Heap} {xs : List α} (h : Iter P v Y H xs) (hl : HLe H H') : Iter P v Y H' xs :=
  fun l J Jx H1 Lc h1 h2 h3 h4 h5 => h l J Jx H1 Lc (hl.trans h1) h2 h3 h4 h5

/-- A call to which all but the first k chunks are handed over. -/
theorem TL.callT {fr : Fr} {x : Cx} {Q : Post} {σ : Env} {H : Heap} {L : Own} {ds : List Nat} {ol rest : List Oper} {d : Nat} {ty : TypeId} {p : String} {af : Array Edge} {g : Option (Nat × Bool)}
    {F : Operand} {ag : List Operand} {ats : Array TypeId} {fv : Value} {vs : List Value} {post : Value → Heap → Own → Prop} (k : Nat) (hw : wan fr.N ol σ d g = true)
    (hf : ev σ F = fv) (ha : ag.map (ev σ) = vs) (hc : Fc fr.P fv vs H (L.drop k) post)
    (h : ∀ v H' L', HLe H H' → post v H' L' → TL fr x ol rest Q (upd σ d v) H' (L.take k ++ L') ds) :
    TL fr x ol (⟨some d, .call { callee := .value F, args := ag.toArray, argTypes := ats }, ty, p, af, g⟩ :: rest) Q σ H L ds := by
  intro a w hs hd hst
  have e : L.flatten = (L.take k).flatten ++ (L.drop k).flatten := by rw [← List.flatten_append, List.take_append_drop]
  have hp : L.flatten.Perm ((L.drop k).flatten ++ (L.take k).flatten) := by rw [e]; exact List.perm_append_comm
  have hst' : St x H ((L.drop k ++ L.take k : Own).flatten ++ hid fr.rd ds) w := hst.perm (by rw [List.flatten_append]; exact hp.append_right _)
  have hm : split (List.replicate (L.drop k).length true) (L.drop k ++ L.take k) = (L.drop k, L.take k) := by
    generalize L.drop k = A
    generalize L.take k = B
    induction A with
    | nil => simp [split]
    | cons c A ih => simp only [List.length_cons, List.replicate_succ, List.cons_append, split, ih]
  refine TL.call (L := L.drop k ++ L.take k) (List.replicate (L.drop k).length true) hw hf ha (by rw [hm]; exact hc) (fun v H' L' hl hq => ?_) a w hs hd hst'
  rw [hm]
  intro a w hs hd hst
  refine h v H' L' hl hq a w hs hd (hst.perm ?_)
  simp only [List.flatten_append]
  exact List.Perm.append_right _ List.perm_append_comm

def setps : Env → List Nat → List Value → Env
  | σ, p :: ps, v :: vs => setps (upd σ p v) ps vs
  | σ, _, _ => σ
theorem Sim.setps {N : Nat} : ∀ (ps : List Nat) (vs : List Value) {σ : Env} {t : Array Value}, Sim N σ t → ps.all (fun q => Nat.blt q N) = true →
    Sim N (SX.setps σ ps vs) ((ps.zip vs).foldl (fun t (q : Nat × Value) => t.setIfInBounds q.1 q.2) t)
  | [], vs, σ, t, h, _ => by simpa [SX.setps] using h
  | p :: ps, [], σ, t, h, _ => by simpa [SX.setps] using h
  | p :: ps, v :: vs, σ, t, h, hp => by
    simp only [List.all_cons, Bool.and_eq_true] at hp
    have := Sim.setps ps vs (h.put p v hp.1) hp.2
    simpa [SX.setps] using this
theorem foldl_zip (ps : List Nat) (vs : List Value) (t : Array Value) : (ps.toArray.zip vs.toArray).foldl (fun t (q : Nat × Value) => t.setIfInBounds q.1 q.2) t = (ps.zip vs).foldl (fun t (q : Nat × Value) => t.setIfInBounds q.1 q.2) t := by
  rw [← Array.foldl_toList]; simp

def rndPost {α : Type} (I : List α → Heap → Own → Prop) (Ix : Code → List α → Heap → Own → Prop) (xs : List α) : Post
  | .normal, _, H, L, _ => I xs H L
  | .ret, _, H, L, _ => Ix .ret xs H L
  | .exit id, _, H, L, _ => Ix (.exit id) xs H L
  | .goto t, _, H, L, _ => Ix (.goto t) xs H L
  | _, _, _, _, _ => False
def onlyN (K : Env → Heap → Own → Prop) : Post
  | .normal, σ, H, L, ds => ds = [] ∧ K σ H L
  | _, _, _, _, _ => False
theorem onlyN.mk {K : Env → Heap → Own → Prop} {σ : Env} {H : Heap} {L : Own} (h : K σ H L) : onlyN K .normal σ H L [] := ⟨rfl, h⟩
def rc (l : Nat) (r : Loop) : Chunk := [(l, .loop r), (r.defers, .deferred (some []))]

section
variable {α : Type} {P : Program} {N : Nat} {Q : Post} {σ : Env} {H : Heap} {L : Own} {ds : List Nat} {x : Cx}

/-- One round's contract out of the walks of the assignments and the body. -/
theorem yield_Fc {l : Nat} {r : Loop} {ps : List Nat} {vs : List Value} {L1 : Own} {I : List α → Heap → Own → Prop} {Ix : Code → List α → Heap → Own → Prop} {pre : List α} {y : α}
    (hrs : r.state = .ready) (hrp : r.params = ps.toArray) (hlen : vs.length = ps.length) (hsim : Sim N σ r.tmps) (hps : ps.all (fun q => Nat.blt q N) = true)
    (hb : ∀ w1 : Cx, T ⟨P, N, some (l, r)⟩ w1 r.assign (onlyN (fun σ2 H2 L2 => T ⟨P, N, some (l, { r with state := .busy })⟩ w1 r.body (rndPost I Ix (pre ++ [y])) σ2 H2 L2 [])) (setps σ ps vs) H L1 []) :
    Fc P (yieldv l) vs H (rc l r :: L1) (fun v H' L' =>
      (v = .bool true ∧ ∃ L2, L' = rc l { r with state := .ready, pending := none } :: L2 ∧ I (pre ++ [y]) H' L2) ∨
      (v = .bool false ∧ ∃ c L2, L' = rc l { r with state := .done, pending := some c } :: L2 ∧ Ix c (pre ++ [y]) H' L2)) := by
  intro w hsat
  have hl0 : w.heap[l]? = some (.loop r) := hsat.l (l, .loop r) (by simp [rc])
  have hy := run_yield (P := P) (args := vs.toArray) hl0 (by rw [hrp]; simpa using hlen)
  refine ⟨.round l r.fn ((r.params.zip vs.toArray).foldl (fun t (q : Nat × Value) => t.setIfInBounds q.1 q.2) r.tmps) r.assign r.body, w, ?_, ?_⟩
  · have e : (do let d ← Deferred.ofValue (yieldv l) vs.toArray; invoke d.target d.args : Sem Next) = Instr.yield l vs.toArray := by simp [Deferred.ofValue, invoke]
    rw [e]; exact hy
  simp only
  have hst0 : St ⟨w, H, (rc l r :: L1 : Own).flatten⟩ H (L1.flatten ++ hid (some (l, r)) []) w := by
    refine (St.init hsat).perm ?_
    simp only [List.flatten_cons, hid, List.map_nil, List.append_nil]
    exact List.perm_append_comm
  refine roundIn_of_wpIn (F := Fence.wide) (n := 0) trivial ?_
  have hs1 : Sim N (setps σ ps vs) ((r.params.zip vs.toArray).foldl (fun t (q : Nat × Value) => t.setIfInBounds q.1 q.2) r.tmps) := by
    rw [hrp, foldl_zip]; exact hsim.setps ps vs hps
  have hT := hb ⟨w, H, (rc l r :: L1 : Own).flatten⟩ { tmps := (r.params.zip vs.toArray).foldl (fun t (q : Nat × Value) => t.setIfInBounds q.1 q.2) r.tmps, defers := [] } w hs1 rfl hst0
  refine wpIn_mono hT ?_
  -- what the record is turned to
  have turn : ∀ (r1 r2 : Loop) (H3 : Heap) (L3 : Own) (ds3 : List Nat) (w3 : World), r2.defers = r1.defers → St ⟨w, H, (rc l r :: L1 : Own).flatten⟩ H3 (L3.flatten ++ hid (some (l, r1)) ds3) w3 →
      w3.heap[l]? = some (.loop r1) ∧ St ⟨w, H, (rc l r :: L1 : Own).flatten⟩ H3 (L3.flatten ++ hid (some (l, r2)) []) (w3.putObj l (.loop r2)) := by
    intro r1 r2 H3 L3 ds3 w3 hd h3
    have h4 : St ⟨w, H, (rc l r :: L1 : Own).flatten⟩ H3 ((l, .loop r1) :: (L3.flatten ++ ((r1.defers, Obj.deferred (some [])) :: ds3.map (fun D => (D, Obj.deferred (some [])))))) w3 := h3.perm (by
      simp only [hid, List.cons_append, List.nil_append]
      exact List.perm_middle)
    have hl1 : w3.heap[l]? = some (.loop r1) := h4.sat.l (l, .loop r1) (List.mem_cons_self ..)
    refine ⟨hl1, ?_⟩
    have h5 := h4.turn (w' := w3.putObj l (.loop r2)) (o' := .loop r2) rfl rfl rfl (by simp [World.putObj]) (World.putObj_heap_same (heap_lt hl1)) (fun c hc => World.putObj_heap_other (by first | exact hc | exact fun e => hc e.symm))
    have h6 := h5.sub (L' := (l, .loop r2) :: (L3.flatten ++ [(r1.defers, Obj.deferred (some []))])) (List.Sublist.cons_cons _ (List.Sublist.append_left (List.Sublist.cons_cons _ (List.nil_sublist _)) _))
    refine h6.perm ?_
    simp only [hid, List.map_nil, List.append_nil, hd]
    exact List.perm_middle.symm
  rintro e a1 w1 ⟨σ2, H2, L2, ds2, hs2, hd2, hst2, hq⟩
  cases e with
  | normal =>
    obtain ⟨rfl, hq'⟩ := hq
    obtain ⟨hl1, hst3⟩ := turn r { r with state := .busy } H2 L2 [] w1 rfl hst2
    refine ⟨_, run_beginRound hl1 hrs, ?_⟩
    refine wpIn_mono (hq' a1 _ hs2 hd2 hst3) ?_
    rintro e2 a2 w2 ⟨σ4, H4, L4, ds4, hs4, hd4, hst4, hq4⟩
    have fin : ∀ (jump : Option Code), (Instr.endRound l jump).run P w2 = .ok (.bool jump.isNone) (w2.putObj l (.loop { r with state := if jump.isNone then .ready else .done, pending := jump })) ∧
        St ⟨w, H, (rc l r :: L1 : Own).flatten⟩ H4 ((rc l { r with state := if jump.isNone then .ready else .done, pending := jump } :: L4 : Own).flatten) (w2.putObj l (.loop { r with state := if jump.isNone then .ready else .done, pending := jump })) := by
      intro jump
      obtain ⟨hl2, hst5⟩ := turn { r with state := .busy } { r with state := if jump.isNone then .ready else .done, pending := jump } H4 L4 ds4 w2 rfl hst4
      refine ⟨by have := run_endRound (P := P) jump hl2; exact this, hst5.perm ?_⟩
      simp only [hid, List.map_nil, List.append_nil, List.flatten_cons, rc]
      exact List.perm_append_comm
    cases e2 with
    | normal =>
      obtain ⟨h1, h2⟩ := fin none
      exact ⟨_, _, h1, _, H4, _, rfl, h2, .inl ⟨rfl, L4, rfl, hq4⟩⟩
    | ret =>
      obtain ⟨h1, h2⟩ := fin (some .ret)
      exact ⟨_, _, h1, _, H4, _, rfl, h2, .inr ⟨rfl, _, L4, rfl, hq4⟩⟩
    | exit id =>
      obtain ⟨h1, h2⟩ := fin (some (.exit id))
      exact ⟨_, _, h1, _, H4, _, rfl, h2, .inr ⟨rfl, _, L4, rfl, hq4⟩⟩
    | goto t =>
      obtain ⟨h1, h2⟩ := fin (some (.goto t))
      exact ⟨_, _, h1, _, H4, _, rfl, h2, .inr ⟨rfl, _, L4, rfl, hq4⟩⟩
    | panic ch => exact hq4.elim
    | outgrown => exact hq4.elim
  | _ => exact hq.elim

/-- 'for .. := range g { .. }', in a function's own frame. -/
theorem T.rangeFunc {G : Operand} {ps : List Nat} {ag body : Code} {v : Value} {gf : Nat} {lb : Array Value} {Y : Heap → List Value → α → Prop} {xs : List α} (hg : ev σ G = v) (hv : v = .func (.func gf) #[] lb) (hen : Go.Proofs.Enters P gf) (hit : Iter P v Y H xs)
    (hYl : ∀ H vs y, Y H vs y → vs.length = ps.length) (hps : ps.all (fun q => Nat.blt q N) = true)
    (I : List α → Heap → Own → Prop) (Ix : Code → List α → Heap → Own → Prop) (hI : ∀ pre H H' L, HLe H H' → I pre H L → I pre H' L) (hIx : ∀ c pre H H' L, HLe H H' → Ix c pre H L → Ix c pre H' L)
    (h0 : I [] H L)
    (hbody : ∀ l r w1 pre y vs H1 L1, HLe H H1 → (pre ++ [y]) <+: xs → I pre H1 L1 → Y H1 vs y →
      T ⟨P, N, some (l, r)⟩ w1 ag (onlyN (fun σ2 H2 L2 => T ⟨P, N, some (l, { r with state := .busy })⟩ w1 body (rndPost I Ix (pre ++ [y])) σ2 H2 L2 [])) (setps σ ps vs) H1 L1 [])
    (hdone : ∀ D H1 L1, HLe H H1 → I xs H1 L1 → Q .normal σ H1 L1 (D :: ds))
    (hstop : ∀ D c pre y H1 L1, HLe H H1 → (pre ++ [y]) <+: xs → Ix c (pre ++ [y]) H1 L1 → T ⟨P, N, none⟩ x c Q σ H1 L1 (D :: ds)) :
    T ⟨P, N, none⟩ x (.rangeFunc G ps.toArray ag body) Q σ H L ds := by
  intro a w hs hd hst
  refine wpIn_rangeFunc ?_
  intro fn _
  obtain ⟨r0, hr0⟩ : ∃ r0 : Loop, r0 = { state := .ready, pending := none, fn, tmps := a.tmps, params := ps.toArray, assign := ag, body, defers := w.heap.size } := ⟨_, rfl⟩
  have hst1 := (hst.alloc (.deferred (some []))).alloc (.loop r0)
  rw [World.size_alloc] at hst1
  generalize hw1 : (w.alloc (.deferred (some []))).alloc (.loop r0) = w1 at hst1
  have hl : r0.defers = w.heap.size := by rw [hr0]
  -- the iterator's call
  have hcall := hit (w.heap.size + 1)
    (fun pre H' L' => ∃ L1, L' = rc (w.heap.size + 1) r0 :: L1 ∧ I pre H' L1)
    (fun pre H' L' => ∃ c L1, L' = rc (w.heap.size + 1) { r0 with state := .done, pending := some c } :: L1 ∧ Ix c pre H' L1)
    H (rc (w.heap.size + 1) r0 :: L) (HLe.refl _)
    (fun pre H H' L hle ⟨L1, h1, h2⟩ => ⟨L1, h1, hI pre H H' L1 hle h2⟩)
    (fun pre H H' L hle ⟨c, L1, h1, h2⟩ => ⟨c, L1, h1, hIx c pre H H' L1 hle h2⟩)
    (fun pre y vs H2 L' hle hpre ⟨L1, h1, h2⟩ hY => by
      subst h1
      refine (yield_Fc (ps := ps) (σ := σ) (N := N) (I := I) (Ix := Ix) (pre := pre) (y := y) (by rw [hr0]) (by rw [hr0]) (hYl _ _ _ hY) (by rw [hr0]; exact hs) hps (fun w1 => ?_)).mono ?_
      · rw [hr0]; exact hbody _ _ w1 pre y vs H2 L1 hle hpre h2 hY
      · rintro v H' L' _ (⟨h3, L2, h4, h5⟩ | ⟨h3, c, L2, h4, h5⟩)
        · refine .inl ⟨h3, L2, ?_, h5⟩
          rw [h4, hr0]
        · exact .inr ⟨h3, c, L2, h4, h5⟩)
    ⟨L, rfl, h0⟩
  have hsatc : Sat H (rc (w.heap.size + 1) r0 :: L : Own).flatten w1 := by
    refine (hst1.sat.sub (L' := (w.heap.size + 1, .loop r0) :: (w.heap.size, .deferred (some [])) :: L.flatten) ?_).perm ?_
    · exact List.Sublist.cons_cons _ (List.Sublist.cons_cons _ (List.sublist_append_left _ _))
    · simp only [List.flatten_cons, rc, hl]; exact List.Perm.refl _
  obtain ⟨nx, w2, hrun, hnx⟩ := hcall w1 hsatc
  have hst1' : St x H ((rc (w.heap.size + 1) r0 :: L : Own).flatten ++ hid none ds) w1 := by
    refine hst1.perm ?_
    simp only [List.flatten_cons, rc, hl, List.cons_append, List.nil_append]
    exact List.Perm.refl _
  have hev : (ev σ G) = a.eval G := by rw [hs.eval]
  subst hv
  have hd1 : (Deferred.ofValue (.func (.func gf) #[] lb) #[yieldv (w.heap.size + 1)]).run P w1 = .ok { target := .fn (.func gf) lb, args := #[yieldv (w.heap.size + 1)] } w1 := by simp [Deferred.ofValue]
  have hd2 : (invoke (.fn (.func gf) lb) #[yieldv (w.heap.size + 1)]).run P w1 = .ok (.enter gf (#[yieldv (w.heap.size + 1)] ++ lb)) w1 := by
    simp only [invoke]; exact hen _ _
  have hnx2 : nx = .enter gf (#[yieldv (w.heap.size + 1)] ++ lb) ∧ w2 = w1 := by
    have h1 : Sem.run P (do let d ← Deferred.ofValue (.func (.func gf) #[] lb) [yieldv (w.heap.size + 1)].toArray; invoke d.target d.args) w1 = .ok (.enter gf (#[yieldv (w.heap.size + 1)] ++ lb)) w1 := by
      rw [Sem.run_bind, hd1]; exact hd2
    rw [h1] at hrun
    injection hrun with h2 h3
    exact ⟨h2.symm, h3.symm⟩
  obtain ⟨rfl, rfl⟩ := hnx2
  refine ⟨w.heap.size + 1, [mk w.heap.size], w2, { target := .fn (.func gf) lb, args := #[yieldv (w.heap.size + 1)] }, w2, gf, #[yieldv (w.heap.size + 1)] ++ lb, w2, ?_, ?_, fun f' _ => trivial, hd2, (fun h => by cases h), ?_⟩
  · rw [← hw1, hr0]; exact run_enterLoop_outer fn a.tmps ps.toArray ag body
  · simp only [resolve]
    rw [← hev, hg]
    simpa [Act.eval] using hd1
  · refine CallsIn.mono (calls_fence hnx) ?_
    rintro e w3 ⟨v3, H3, L3, rfl, hst3, hpost⟩
    have hj := hst1'.join hst3
    rcases hpost with ⟨L1, rfl, hI1⟩ | ⟨pre, y, hpre, c, L1, rfl, hI1⟩
    · have h4 : St x H3 ((w.heap.size + 1, .loop r0) :: ((w.heap.size, .deferred (some [])) :: (L1.flatten ++ hid none ds))) w3 := by
        have := hj; simpa [rc, hl] using this
      have hl3 := h4.sat.l _ (List.mem_cons_self ..)
      refine ⟨none, _, by have := run_endLoop (P := P) hl3 (by rw [hr0]; simp); rw [hr0] at this; exact this, ?_⟩
      have h5 := h4.turn (w' := w3.putObj (w.heap.size + 1) (.loop { r0 with state := .exhausted })) (o' := .loop { r0 with state := .exhausted }) rfl rfl rfl (by simp [World.putObj]) (World.putObj_heap_same (heap_lt hl3)) (fun c hc => World.putObj_heap_other (by first | exact hc | exact fun e => hc e.symm))
      refine lift_intro (ds := w.heap.size :: ds) hs (by simp [hd]) ?_ (hdone _ H3 L1 hst3.le hI1)
      have h6 := (h5.sub (List.sublist_cons_self _ _)).perm (L' := L1.flatten ++ hid none (w.heap.size :: ds)) (by
        simp only [hid, List.map_cons, List.nil_append]
        exact List.perm_middle.symm)
      rw [hr0] at h6
      exact h6
    · have h4 : St x H3 ((w.heap.size + 1, .loop { r0 with state := .done, pending := some c }) :: ((w.heap.size, .deferred (some [])) :: (L1.flatten ++ hid none ds))) w3 := by
        have := hj; simpa [rc, hl] using this
      have hl3 := h4.sat.l _ (List.mem_cons_self ..)
      refine ⟨some c, _, by have := run_endLoop (P := P) hl3 (by simp); exact this, ?_⟩
      have h5 := h4.turn (w' := w3.putObj (w.heap.size + 1) (.loop { { r0 with state := .done, pending := some c } with state := .exhausted })) (o' := .loop { { r0 with state := .done, pending := some c } with state := .exhausted }) rfl rfl rfl (by simp [World.putObj]) (World.putObj_heap_same (heap_lt hl3)) (fun c hc => World.putObj_heap_other (by first | exact hc | exact fun e => hc e.symm))
      refine hstop w.heap.size c pre y H3 L1 hst3.le hpre hI1 _ _ hs (by simp [hd]) ?_
      exact (h5.sub (List.sublist_cons_self _ _)).perm (L' := L1.flatten ++ hid none (w.heap.size :: ds)) (by
        simp only [hid, List.map_cons, List.nil_append]
        exact List.perm_middle.symm)
end
end Go.SX
