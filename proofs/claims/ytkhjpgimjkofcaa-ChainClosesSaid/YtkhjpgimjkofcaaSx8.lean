/- SX: arrays and structs as values, and in memory; literals that are shut at once. -/
import Derived.Test.YtkhjpgimjkofcaaSx7
set_option linter.unusedVariables false
set_option linter.unusedSimpArgs false
namespace Go.SX
open Go
attribute [local semireducible] T TL

/-- A literal's row, shut for good. -/
theorem RdS.lit {α : Type} {E : ER α} {H : Heap} {b : Nat} {cs : List Value} {e : TypeId} {xs : List α} (hb : H b = some (.cells cs.toArray e)) (hc : CellsOf E H cs xs) (hl : xs.length ≤ maxLen) : RdS E H (.slice (some ⟨b, 0, none⟩) xs.length xs.length) xs := by
  refine ⟨_, xs.length, rfl, Nat.le_refl _, hl, fun i x hx => ⟨b, 0, rfl, ?_⟩⟩
  obtain ⟨l, h1, h2⟩ := hc.get i x hx
  refine ⟨l, h1, fun j v hj => ?_⟩
  unfold cellAt
  rw [hb, Nat.zero_add]
  simp only [List.getElem?_toArray]
  exact h2 j v hj
theorem RdS.lit1 {H : Heap} {b : Nat} {k : IntKind} {x : Int} {e : TypeId} (hb : ∀ q ∈ [(b, Obj.cells #[.int k x] e)], H q.1 = some q.2) : RdS (intE k) H (.slice (some ⟨b, 0, none⟩) 1 1) [x] :=
  RdS.lit (cs := [.int k x]) (xs := [x]) (hb _ (List.mem_singleton.2 rfl)) ⟨[.int k x], [], rfl, rfl, rfl⟩ (by unfold maxLen; simp)
theorem RdS.lit2 {H : Heap} {b : Nat} {k : IntKind} {x y : Int} {e : TypeId} (hb : ∀ q ∈ [(b, Obj.cells #[.int k x, .int k y] e)], H q.1 = some q.2) : RdS (intE k) H (.slice (some ⟨b, 0, none⟩) 2 2) [x, y] :=
  RdS.lit (cs := [.int k x, .int k y]) (xs := [x, y]) (hb _ (List.mem_singleton.2 rfl)) ⟨[.int k x], [.int k y], rfl, rfl, [.int k y], [], rfl, rfl, rfl⟩ (by unfold maxLen; simp)
theorem shut1 {H : Heap} {b : Nat} {o : Obj} (h : ∀ q ∈ [(b, o)], H q.1 = some q.2) : H b = some o := h _ (List.mem_singleton.2 rfl)

def idx : Nat → List Value → List (Nat × Value)
  | _, [] => []
  | i, v :: r => (i, v) :: idx (i + 1) r
theorem fill_idx : ∀ (vs : List Value) (k : Nat) (pre rest : List Value), pre.length = k → vs.length ≤ rest.length → (∀ v ∈ vs, v.oneCell' = true) →
    Instr.fill (fun i => some (i * 1, 1)) (pre ++ rest).toArray (idx k vs) = some (pre ++ vs ++ rest.drop vs.length).toArray
  | [], k, pre, rest, _, _, _ => by simp [idx, Instr.fill]
  | v :: vs, k, pre, [], _, h, _ => by simp at h
  | v :: vs, k, pre, r :: rest, hk, h, h1 => by
    have h1v := h1 v (List.mem_cons_self ..)
    have hcv : v.cells = #[v] := by cases v <;> first | rfl | cases h1v
    have hset : (pre ++ r :: rest).set k v = pre ++ v :: rest := by
      rw [List.set_append_right _ _ (by omega), hk, Nat.sub_self]; rfl
    have ih := fill_idx vs (k + 1) (pre ++ [v]) rest (by simp [hk]) (by simpa using h) (fun u hu => h1 u (List.mem_cons_of_mem _ hu))
    simp only [List.append_assoc, List.singleton_append] at ih
    have e1 : (#[v] : Array Value).zipIdx.foldl (fun cs (q : Value × Nat) => cs.setIfInBounds (k * 1 + q.2) q.1) (pre ++ r :: rest).toArray = (pre ++ v :: rest).toArray := by simp [hset]
    have hsz : ¬ ((#[v] : Array Value).size ≠ 1 ∨ k * 1 + (#[v] : Array Value).size > (pre ++ r :: rest).toArray.size) := by
      simp only [List.size_toArray, List.length_append, List.length_cons, List.length_nil]; omega
    have hsz' : ((decide ((#[v] : Array Value).size ≠ 1)) || decide (k * 1 + (#[v] : Array Value).size > (pre ++ r :: rest).toArray.size)) = false := by
      rw [Bool.or_eq_false_iff]; exact ⟨decide_eq_false fun h => hsz (.inl h), decide_eq_false fun h => hsz (.inr h)⟩
    simp only [idx, Instr.fill, hcv]
    rw [if_neg (by first | exact hsz | (rw [hsz']; simp))]
    refine Eq.trans (congrArg (fun c => Instr.fill (fun i => some (i * 1, 1)) c (idx (k + 1) vs)) e1) ?_
    rw [ih]
    simp
theorem run_bsN {P : Program} {t e : TypeId} {z : Value} {vs : List Value} (ht : P.underlying t = some (.slice e)) (hsz : ∀ w, (sizeOf e).run P w = .ok 1 w) (hz : ∀ w, (zeroValue e).run P w = .ok z w) (hz1 : z.oneCell' = true) (h1 : vs.all (fun v => v.oneCell') = true) (hn : Nat.ble vs.length 1000 = true) (h0 : vs.length ≠ 0) (w : World) :
    (Instr.buildSlice t vs.length (idx 0 vs).toArray).run P w = .ok (.slice (some ⟨w.heap.size, 0, none⟩) vs.length vs.length) (w.alloc (.cells vs.toArray e)) := by
  have hcz : z.cells = #[z] := by cases z <;> first | rfl | cases hz1
  have hn' := Nat.le_of_ble_eq_true hn
  have hf := fill_idx vs 0 [] ((List.range vs.length).map (fun _ => z)) rfl (by simp) (by simpa using h1)
  simp only [List.nil_append, List.map_const', List.length_range, List.drop_replicate, Nat.sub_self, List.replicate_zero, List.append_nil] at hf
  have hb : ¬ 16777216 < vs.length := by omega
  have hzs : (Array.range vs.length).map (fun x => [z][x % 1]?.getD default) = (List.replicate vs.length z).toArray := by
    refine Array.ext (by simp) (fun i h1 h2 => ?_)
    simp [Nat.mod_one]
  have hf' := hf
  simp only [Nat.mul_one] at hf'
  rw [show (List.replicate vs.length z).toArray = Array.replicate vs.length z by simp] at hf'
  simp [Instr.buildSlice, run_underlying ht, hsz, hz, hcz, newRow, hb, h0, hzs, hf']
section
variable {fr : Fr} {x : Cx} {Q : Post} {σ : Env} {H : Heap} {L : Own} {ds : List Nat} {ol rest : List Oper}
variable {d : Nat} {ty : TypeId} {p : String} {af : Array Edge} {g : Option (Nat × Bool)}

/-- A literal's row of one-cell elements, each given. -/
theorem R.bsN {t e : TypeId} {n : Nat} {ps : List (Nat × Operand)} {z : Value} (vs : List Value) (hw : wan fr.N ol σ d g = true)
    (ht : fr.P.underlying t = some (.slice e)) (hsz : ∀ w, (sizeOf e).run fr.P w = .ok 1 w) (hz : ∀ w, (zeroValue e).run fr.P w = .ok z w) (hz1 : z.oneCell' = true) (hps : ps.map (fun q => (q.1, ev σ q.2)) = idx 0 vs) (hn : vs.length = n) (h1 : vs.all (fun v => v.oneCell') = true) (hb : Nat.ble vs.length 1000 = true) (h0 : Nat.beq vs.length 0 = false)
    (h : ∀ b, TL fr x ol rest Q (upd σ d (.slice (some ⟨b, 0, none⟩) n n)) H ([(b, .cells vs.toArray e)] :: L) ds) : TL fr x ol (⟨some d, .buildSlice t n ps.toArray, ty, p, af, g⟩ :: rest) Q σ H L ds := by
  subst hn
  refine R.bs hw (fun w => ?_) h
  rw [hps]
  exact run_bsN ht hsz hz hz1 h1 hb (fun e => by rw [e] at h0; cases h0) w
/-- An array's, a struct's value. -/
theorem R.bld {t : TypeId} {ps : List (Nat × Operand)} {cs : List Value} (hw : wan fr.N ol σ d g = true)
    (hrun : ∀ w, (Instr.build t ((ps.map (fun q => (q.1, ev σ q.2))).toArray)).run fr.P w = .ok (.agg cs.toArray) w)
    (h : TL fr x ol rest Q (upd σ d (.agg cs.toArray)) H L ds) : TL fr x ol (⟨some d, .build t ps.toArray, ty, p, af, g⟩ :: rest) Q σ H L ds := by
  refine TL.pureE hw rfl (fun w => ?_) h
  simp only [execOp, List.map_toArray]
  simp [hrun]
/-- An element's address, of an array in memory. -/
theorem R.ixA {t e : TypeId} {X I : Operand} {b o n sz : Nat} {k : IntKind} {i : Int} (ht : fr.P.underlying t = some (.array n e)) (hsz : ∀ w, (sizeOf e).run fr.P w = .ok sz w)
    (hw : wan fr.N ol σ d g = true) (hv : ev σ X = .pointer (some ⟨b, o, none⟩)) (hi : ev σ I = .int k i) (h0 : 0 ≤ i) (hlt : i < n)
    (h : TL fr x ol rest Q (upd σ d (.pointer (some ⟨b, o + i.toNat * sz, none⟩))) H L ds) : TL fr x ol (⟨some d, .indexAddr t X I, ty, p, af, g⟩ :: rest) Q σ H L ds := by
  refine TL.pureE hw rfl (fun w => ?_) h
  simp [execOp, Instr.indexAt, hv, hi, asIntOf, run_underlying ht, h0, hlt, hsz, Instr.sureAddr, Addr.add_lit]
/-- A field's address. -/
theorem R.fldA {t : TypeId} {fs : Array Field} {f : Field} {X : Operand} {b o i sz : Nat} (ht : fr.P.underlying t = some (.struct fs)) (hf : fs[i]? = some f) (hsz : ∀ w, (sizeOf f.type).run fr.P w = .ok sz w) (hs0 : sz ≠ 0)
    (hw : wan fr.N ol σ d g = true) (hv : ev σ X = .pointer (some ⟨b, o, none⟩))
    (h : TL fr x ol rest Q (upd σ d (.pointer (some ⟨b, o + f.offset, none⟩))) H L ds) : TL fr x ol (⟨some d, .fieldAddr t X i, ty, p, af, g⟩ :: rest) Q σ H L ds := by
  refine TL.pureE hw rfl (fun w => ?_) h
  simp [execOp, Instr.fieldAt, hv, run_underlying ht, hf, Instr.sureAddr, fieldPlace, hsz, hs0, Addr.add_lit]
/-- A store of a whole array, a whole struct. -/
theorem R.stA {t : TypeId} {A X : Operand} {b n : Nat} {old new : List Value} {et : TypeId} {L' : Own} (hsz : ∀ w, (sizeOf t).run fr.P w = .ok n w) (hw : wants ol σ g = true) (ha : ev σ A = .pointer (some ⟨b, 0, none⟩)) (hx : ev σ X = .agg new.toArray)
    (hn : new.length = n) (ho : old.length = n) (h1 : ∀ v ∈ new, v.oneCell' = true)
    (hrep : Rep L [(b, .cells old.toArray et)] [(b, .cells new.toArray et)] L') (h : TL fr x ol rest Q σ H L' ds) :
    TL fr x ol (⟨none, .store t A X, ty, p, af, g⟩ :: rest) Q σ H L ds := by
  intro a w hs hd hst
  obtain ⟨R, hp1, hp2⟩ := hrep.perm
  have hst1 : St x H ((b, .cells old.toArray et) :: (R ++ hid fr.rd ds)) w := hst.perm (by
    have := hp1.append_right (hid fr.rd ds)
    simpa using this)
  have hb := hst1.sat.l (b, .cells old.toArray et) (List.mem_cons_self ..)
  simp only at hb
  have hstore := run_storeCells_at fr.P b 0 et new 0 old.toArray w hb (by simp; omega) h1
  have hrow : (old.toArray.toList.take (0 + 0) ++ new ++ old.toArray.toList.drop (0 + 0 + new.length)) = new := by
    simp; omega
  rw [hrow] at hstore
  have hst2 : St x H ((b, .cells new.toArray et) :: (R ++ hid fr.rd ds)) (w.setRow b new.toArray) := hst1.turn rfl rfl rfl (by simp [World.setRow]) (by simp only [World.setRow]; rw [Array.getElem?_modify, if_pos rfl, hb]; rfl) (fun c hc => by
    simp only [World.setRow, Array.getElem?_modify]
    rw [if_neg (fun e => hc e.symm)])
  have hst3 : St x H (L'.flatten ++ hid fr.rd ds) (w.setRow b new.toArray) := hst2.perm (by
    have := (hp2.append_right (hid fr.rd ds)).symm
    simpa using this)
  unfold wpLo
  rw [if_pos (wanted_of hs hw)]
  refine ⟨fun f _ => fenceFn _ f, ?_⟩
  rw [semAt_of rfl, hs.eval]
  have hrun : (execOp (ev σ) ⟨none, .store t A X, ty, p, af, g⟩).run fr.P w = .ok .skip (w.setRow b new.toArray) := by
    simp [execOp, Instr.storeAt, Instr.sureAddr, storeVar, ha, hx, hsz, Value.cells, hn, hstore]
  rw [hrun]
  exact h _ _ hs hd hst3
/-- A load of a whole array, a whole struct that is owned. -/
theorem R.ldAO {t : TypeId} {A : Operand} {b n : Nat} {cs : List Value} {et : TypeId} (hagg : ∀ w, (isAgg t).run fr.P w = .ok true w) (hsz : ∀ w, (sizeOf t).run fr.P w = .ok n w) (hw : wan fr.N ol σ d g = true) (ha : ev σ A = .pointer (some ⟨b, 0, none⟩))
    (hn : cs.length = n) (hin : In L [(b, .cells cs.toArray et)]) (h : TL fr x ol rest Q (upd σ d (.agg cs.toArray)) H L ds) : TL fr x ol (⟨some d, .load t A, ty, p, af, g⟩ :: rest) Q σ H L ds :=
  TL.value hw rfl (fun w hst => by
    have hb := hst.sat.l (b, .cells cs.toArray et) (List.mem_append_left _ (hin.mem (List.mem_singleton.2 rfl)))
    have hl := run_loadCells_list (P := fr.P) w ⟨b, 0, none⟩ cs (fun j u hj => by rw [Addr.add_lit, Nat.zero_add]; exact cell_of_heap hb (by simpa using hj))
    rw [hn] at hl
    exact ⟨_, w, H, L, by simp [execOp, Instr.loadAt, Instr.sureAddr, loadVar, ha, hagg, hsz, hl], hst, h⟩)
/-- The same, of one that can be read. -/
theorem R.ldAH {t : TypeId} {A : Operand} {b n : Nat} {cs : List Value} {et : TypeId} (hagg : ∀ w, (isAgg t).run fr.P w = .ok true w) (hsz : ∀ w, (sizeOf t).run fr.P w = .ok n w) (hw : wan fr.N ol σ d g = true) (ha : ev σ A = .pointer (some ⟨b, 0, none⟩))
    (hn : cs.length = n) (hin : H b = some (.cells cs.toArray et)) (h : TL fr x ol rest Q (upd σ d (.agg cs.toArray)) H L ds) : TL fr x ol (⟨some d, .load t A, ty, p, af, g⟩ :: rest) Q σ H L ds :=
  TL.value hw rfl (fun w hst => by
    have hb := hst.sat.h b _ hin
    have hl := run_loadCells_list (P := fr.P) w ⟨b, 0, none⟩ cs (fun j u hj => by rw [Addr.add_lit, Nat.zero_add]; exact cell_of_heap hb (by simpa using hj))
    rw [hn] at hl
    exact ⟨_, w, H, L, by simp [execOp, Instr.loadAt, Instr.sureAddr, loadVar, ha, hagg, hsz, hl], hst, h⟩)
/-- A field of a struct's value, of one cell. -/
theorem R.fld {t : TypeId} {fs : Array Field} {f : Field} {X : Operand} {cs : List Value} {v : Value} {i : Nat} (ht : fr.P.underlying t = some (.struct fs)) (hf : fs[i]? = some f) (hagg : ∀ w, (isAgg f.type).run fr.P w = .ok false w)
    (hw : wan fr.N ol σ d g = true) (hx : ev σ X = .agg cs.toArray) (hv : nth cs f.offset = some v)
    (h : TL fr x ol rest Q (upd σ d v) H L ds) : TL fr x ol (⟨some d, .field t X i, ty, p, af, g⟩ :: rest) Q σ H L ds := by
  refine TL.pureE hw rfl (fun w => ?_) h
  rw [nth_eq] at hv
  simp [execOp, Instr.field, hx, run_underlying ht, hf, part, hagg, asAgg, hv]
end
end Go.SX
