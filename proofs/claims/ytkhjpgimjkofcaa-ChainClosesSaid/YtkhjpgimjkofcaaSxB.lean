/- SX: maps with int keys, of one's own and read; chunks in another order. -/
import Derived.Test.YtkhjpgimjkofcaaSxA
set_option linter.unusedVariables false
set_option linter.unusedSimpArgs false
namespace Go.SX
open Go
attribute [local semireducible] T TL

abbrev MapL := List (Int × Value)
def mget (m : MapL) (k : Int) : Option Value := (m.find? (fun q => q.1 == k)).map (·.2)
def mput : MapL → Int → Value → MapL
  | [], k, v => [(k, v)]
  | q :: m, k, v => if q.1 = k then (k, v) :: m else q :: mput m k v
theorem mput_some : ∀ (m : MapL) (k : Int) (v : Value) (j : Nat), m.findIdx? (fun q => q.1 == k) = some j → mput m k v = m.set j (k, v)
  | [], k, v, j, h => by simp at h
  | q :: m, k, v, j, h => by
    rw [List.findIdx?_cons] at h
    unfold mput
    by_cases hk : q.1 = k
    · have e : (q.1 == k) = true := by simpa using hk
      rw [e] at h
      simp at h
      subst h
      rw [if_pos hk]; rfl
    · have e : (q.1 == k) = false := by simpa using hk
      rw [e] at h
      simp only [Bool.false_eq_true, if_false] at h
      cases hf : m.findIdx? (fun q => q.1 == k) with
      | none => rw [hf] at h; cases h
      | some i =>
        rw [hf] at h
        simp at h
        subst h
        rw [if_neg hk, mput_some m k v i hf]; rfl
theorem mput_none : ∀ (m : MapL) (k : Int) (v : Value), m.findIdx? (fun q => q.1 == k) = none → mput m k v = m ++ [(k, v)]
  | [], k, v, _ => rfl
  | q :: m, k, v, h => by
    rw [List.findIdx?_cons] at h
    by_cases hk : q.1 = k
    · have e : (q.1 == k) = true := by simpa using hk
      rw [e] at h; simp at h
    · have e : (q.1 == k) = false := by simpa using hk
      rw [e] at h
      simp only [Bool.false_eq_true, if_false] at h
      cases hf : m.findIdx? (fun q => q.1 == k) with
      | some i => rw [hf] at h; simp at h
      | none =>
        unfold mput
        rw [if_neg hk, mput_none m k v hf]; rfl
theorem mget_idx (m : MapL) (k : Int) : (m.findIdx? (fun q => q.1 == k) = none ∧ mget m k = none) ∨ ∃ j v, m.findIdx? (fun q => q.1 == k) = some j ∧ mget m k = some v ∧ m[j]? = some (k, v) := by
  induction m with
  | nil => exact .inl ⟨rfl, rfl⟩
  | cons q m ih =>
    by_cases hk : q.1 = k
    · refine .inr ⟨0, q.2, by simp [List.findIdx?_cons, hk], by simp [mget, hk], ?_⟩
      subst hk; rfl
    · have e : (q.1 == k) = false := by simpa using hk
      rcases ih with ⟨h1, h2⟩ | ⟨j, v, h1, h2, h3⟩
      · exact .inl ⟨by simp [List.findIdx?_cons, e, h1], by unfold mget at h2 ⊢; simp only [List.find?_cons, e]; exact h2⟩
      · exact .inr ⟨j + 1, v, by simp [List.findIdx?_cons, e, h1], by unfold mget at h2 ⊢; simp only [List.find?_cons, e]; exact h2, by simpa using h3⟩
/-- The entries are m, in their order. -/
def MapIs (ik : IntKind) (es : Array MapEntry) (m : MapL) : Prop := es.toList.map (fun e => (e.key, e.val)) = m.map (fun q => (.int ik q.1, q.2))

theorem findNow_is {ik : IntKind} {k : Int} : ∀ (es : List MapEntry) (m : MapL) (i : Nat), es.map (fun e => (e.key, e.val)) = m.map (fun q => (Value.int ik q.1, q.2)) →
    Instr.findNow (.int ik) (.int ik k) es i = some (((m.findIdx? (fun q => q.1 == k)).bind (fun j => (mget m k).map (fun v => (i + j, v)))))
  | [], [], i, _ => by simp [Instr.findNow, mget]
  | [], _ :: _, i, h => by simp at h
  | _ :: _, [], i, h => by simp at h
  | e :: es, q :: m, i, h => by
    simp only [List.map_cons, List.cons.injEq, Prod.mk.injEq] at h
    obtain ⟨⟨h1, h2⟩, h3⟩ := h
    unfold Instr.findNow
    rw [h1]
    simp only [Instr.sameNow, if_true]
    by_cases hk : k = q.1
    · subst hk
      simp [List.findIdx?_cons, mget, h2]
    · have e1 : (k == q.1) = false := by simpa using hk
      have e2 : (q.1 == k) = false := by simpa using fun h => hk h.symm
      rw [e1]
      simp only
      rw [findNow_is es m (i + 1) h3]
      simp only [List.findIdx?_cons, e2, mget, List.find?_cons]
      simp only [Bool.false_eq_true, if_false]
      cases hf : m.findIdx? (fun q => q.1 == k) with
      | none => rfl
      | some j =>
        simp only [Option.bind_some, Option.map_some]
        cases m.find? (fun q => q.1 == k) with
        | none => rfl
        | some q => simp; omega

section
variable {P : Program} {w : World} {t kt et : TypeId} {ik : IntKind} {es : Array MapEntry} {clock b : Nat} {m : MapL} {k : Int}
theorem run_checkKey_n (hk : P.underlying kt = some (.int ik)) (em : Bool) (n : Nat) : (Instr.checkKey em (n + 1) kt (.int ik k)).run P w = .ok () w := by
  simp [Instr.checkKey, run_underlying hk]
theorem run_checkKey_int (hk : P.underlying kt = some (.int ik)) (em : Bool) : (Instr.checkKey em 10000 kt (.int ik k)).run P w = .ok () w := run_checkKey_n hk em 9999
theorem run_findKey_is (hk : P.underlying kt = some (.int ik)) (hi : MapIs ik es m) : (Instr.findKey kt (.int ik k) es.toList).run P w = .ok ((m.findIdx? (fun q => q.1 == k)).bind (fun j => (mget m k).map (fun v => (0 + j, v)))) w := by
  unfold Instr.findKey
  simp only [Sem.run_bind, run_underlying hk, Result.andThen]
  rw [findNow_is es.toList m 0 hi]
  rfl
theorem run_lookup_is {z : Value} (hm : P.underlying t = some (.map kt et)) (hk : P.underlying kt = some (.int ik)) (hz : ∀ w, (zeroValue et).run P w = .ok z w) (hb : w.heap[b]? = some (.map es clock)) (hi : MapIs ik es m) :
    (Instr.lookup t (.map (some b)) (.int ik k) false).run P w = .ok ((mget m k).getD z) w := by
  have hf := run_findKey_is (P := P) (w := w) (k := k) hk hi
  rcases mget_idx m k with ⟨h1, h2⟩ | ⟨j, v, h1, h2, _⟩
  · rw [h1] at hf
    simp [Instr.lookup, run_underlying hm, run_getObj_map (w := w) b es clock hb, run_checkKey_int hk, hf, hz, h2]
  · rw [h1, h2] at hf
    simp only [Option.bind_some, Option.map_some] at hf
    simp [Instr.lookup, run_underlying hm, run_getObj_map (w := w) b es clock hb, run_checkKey_int hk, hf, hz, h2]
theorem run_mapUpdate_is {v : Value} (hm : P.underlying t = some (.map kt et)) (hk : P.underlying kt = some (.int ik)) (hb : w.heap[b]? = some (.map es clock)) (hi : MapIs ik es m) :
    ∃ es' clock', (Instr.mapUpdate t (.map (some b)) (.int ik k) v).run P w = .ok () (w.putObj b (.map es' clock')) ∧ MapIs ik es' (mput m k v) := by
  have hf := run_findKey_is (P := P) (w := w) (k := k) hk hi
  have hset : ∀ o, (setObj b o).run P w = .ok () (w.putObj b o) := fun o => by rw [MapKept.run_setObj_map o hb]; rfl
  rcases mget_idx m k with ⟨h1, h2⟩ | ⟨j, u, h1, h2, h3⟩
  · rw [h1] at hf
    refine ⟨es.push ⟨.int ik k, v, clock⟩, clock + 1, ?_, ?_⟩
    · simp [Instr.mapUpdate, run_underlying hm, run_getObj_map (w := w) b es clock hb, run_checkKey_int hk, hf, hset]
    · rw [mput_none m k v h1]
      unfold MapIs at hi ⊢
      simp [hi]
  · rw [h1, h2] at hf
    simp only [Option.bind_some, Option.map_some, Nat.zero_add] at hf
    have hej : (es[j]?).map (·.key) = some (.int ik k) := by
      have := congrArg (fun l => l[j]?) hi
      simp only [List.getElem?_map, h3, Option.map_some, Array.getElem?_toList] at this
      cases he : es[j]? with
      | none => rw [he] at this; cases this
      | some e => rw [he] at this; simp at this; simp [this.1]
    have hks : (Instr.keyThatStays (.int ik k) (.int ik k)).run P w = .ok (.int ik k) w := by simp [Instr.keyThatStays, Instr.sameBits]
    refine ⟨es.modify j (fun e => { e with key := .int ik k, val := v }), clock, ?_, ?_⟩
    · simp [Instr.mapUpdate, run_underlying hm, run_getObj_map (w := w) b es clock hb, run_checkKey_int hk, hf, hej, hks, hset]
    · rw [mput_some m k v j h1]
      unfold MapIs at hi ⊢
      refine List.ext_getElem? (fun i => ?_)
      have hie := congrArg (fun l => l[i]?) hi
      simp only [List.getElem?_map, Array.getElem?_toList] at hie ⊢
      rw [Array.getElem?_modify]
      by_cases e : j = i
      · subst e
        rw [if_pos rfl, List.getElem?_set_self (List.getElem?_eq_some_iff.1 h3).1]
        cases he : es[j]? with
        | none => rw [he] at hej; cases hej
        | some x => simp
      · rw [if_neg e, List.getElem?_set_ne e]
        exact hie
end
section
variable {fr : Fr} {x : Cx} {Q : Post} {σ : Env} {H : Heap} {L : Own} {ds : List Nat} {ol rest : List Oper}
variable {d : Nat} {ty : TypeId} {p : String} {af : Array Edge} {g : Option (Nat × Bool)}
/-- The same chunks, in another order, or cut otherwise. -/
theorem T.permL {L' : Own} {c : Code} (hp : L.flatten.Perm L'.flatten) (h : T fr x c Q σ H L' ds) : T fr x c Q σ H L ds := fun a w hs hd hst => h a w hs hd (hst.perm (hp.append_right _))
theorem TL.permL {L' : Own} {l : List Oper} (hp : L.flatten.Perm L'.flatten) (h : TL fr x ol l Q σ H L' ds) : TL fr x ol l Q σ H L ds := fun a w hs hd hst => h a w hs hd (hst.perm (hp.append_right _))
theorem mapIs_nil (ik : IntKind) : MapIs ik #[] [] := rfl
theorem R.mkm {t : TypeId} (hw : wan fr.N ol σ d g = true) (h : ∀ b, TL fr x ol rest Q (upd σ d (.map (some b))) H ([(b, .map #[] 0)] :: L) ds) :
    TL fr x ol (⟨some d, .makeMap t none, ty, p, af, g⟩ :: rest) Q σ H L ds :=
  TL.value hw rfl (fun w hst => ⟨_, w.alloc (.map #[] 0), H, _, by simp [execOp, Instr.makeMap], hst.new _, h w.heap.size⟩)
/-- m[k] of a map of one's own. -/
theorem R.lku {t kt et : TypeId} {M K : Operand} {b clock : Nat} {es : Array MapEntry} {m : MapL} {ik : IntKind} {k : Int} {z : Value} (hm : fr.P.underlying t = some (.map kt et)) (hk : fr.P.underlying kt = some (.int ik)) (hz : ∀ w, (zeroValue et).run fr.P w = .ok z w)
    (hw : wan fr.N ol σ d g = true) (hM : ev σ M = .map (some b)) (hK : ev σ K = .int ik k) (hin : In L [(b, .map es clock)]) (hi : MapIs ik es m)
    (h : TL fr x ol rest Q (upd σ d ((mget m k).getD z)) H L ds) : TL fr x ol (⟨some d, .lookup t M K false, ty, p, af, g⟩ :: rest) Q σ H L ds :=
  TL.value hw rfl (fun w hst => by
    have hb := hst.sat.l (b, .map es clock) (List.mem_append_left _ (hin.mem (List.mem_singleton.2 rfl)))
    have hr := run_lookup_is (P := fr.P) (w := w) (k := k) hm hk hz hb hi
    exact ⟨_, w, H, L, by simp [execOp, hM, hK, hr], hst, h⟩)
/-- m[k] of a map that can be read. -/
theorem R.lkuH {t kt et : TypeId} {M K : Operand} {b clock : Nat} {es : Array MapEntry} {m : MapL} {ik : IntKind} {k : Int} {z : Value} (hm : fr.P.underlying t = some (.map kt et)) (hk : fr.P.underlying kt = some (.int ik)) (hz : ∀ w, (zeroValue et).run fr.P w = .ok z w)
    (hw : wan fr.N ol σ d g = true) (hM : ev σ M = .map (some b)) (hK : ev σ K = .int ik k) (hin : H b = some (.map es clock)) (hi : MapIs ik es m)
    (h : TL fr x ol rest Q (upd σ d ((mget m k).getD z)) H L ds) : TL fr x ol (⟨some d, .lookup t M K false, ty, p, af, g⟩ :: rest) Q σ H L ds :=
  TL.value hw rfl (fun w hst => by
    have hr := run_lookup_is (P := fr.P) (w := w) (k := k) hm hk hz (hst.sat.h b _ hin) hi
    exact ⟨_, w, H, L, by simp [execOp, hM, hK, hr], hst, h⟩)
/-- m[k] = v. -/
theorem R.mup {t kt et : TypeId} {M K X : Operand} {b clock : Nat} {es : Array MapEntry} {m : MapL} {ik : IntKind} {k : Int} {v : Value} {R : Own} (hm : fr.P.underlying t = some (.map kt et)) (hk : fr.P.underlying kt = some (.int ik))
    (hw : wants ol σ g = true) (hM : ev σ M = .map (some b)) (hK : ev σ K = .int ik k) (hX : ev σ X = v) (hdel : Del L [(b, .map es clock)] R) (hi : MapIs ik es m)
    (h : ∀ es' clock', MapIs ik es' (mput m k v) → TL fr x ol rest Q σ H ([(b, .map es' clock')] :: R) ds) : TL fr x ol (⟨none, .mapUpdate t M K X, ty, p, af, g⟩ :: rest) Q σ H L ds := by
  intro a w hs hd hst
  have hst1 : St x H ((b, .map es clock) :: (R.flatten ++ hid fr.rd ds)) w := hst.perm (by
    have := hdel.perm.append_right (hid fr.rd ds)
    simpa using this)
  have hb := hst1.sat.l (b, .map es clock) (List.mem_cons_self ..)
  simp only at hb
  obtain ⟨es', clock', hrun, hi'⟩ := run_mapUpdate_is (P := fr.P) (w := w) (k := k) (v := v) hm hk hb hi
  have hst2 : St x H ((b, .map es' clock') :: (R.flatten ++ hid fr.rd ds)) (w.putObj b (.map es' clock')) :=
    hst1.turn rfl rfl rfl (by simp [World.putObj]) (World.putObj_heap_same (heap_lt hb)) (fun c hc => World.putObj_heap_other (by first | exact hc | exact fun e => hc e.symm))
  unfold wpLo
  rw [if_pos (wanted_of hs hw)]
  refine ⟨fun f _ => fenceFn _ f, ?_⟩
  rw [semAt_of rfl, hs.eval]
  have hr : (execOp (ev σ) ⟨none, .mapUpdate t M K X, ty, p, af, g⟩).run fr.P w = .ok .skip (w.putObj b (.map es' clock')) := by
    simp [execOp, hM, hK, hX, hrun]
  rw [hr]
  exact h es' clock' hi' _ _ hs hd (by simpa using hst2)
theorem R.ins {t kt et : TypeId} {M K X : Operand} {b clock : Nat} {es : Array MapEntry} {m : MapL} {ik : IntKind} {k : Int} {v : Value} {R : Own} (hm : fr.P.underlying t = some (.map kt et)) (hk : fr.P.underlying kt = some (.int ik))
    (hw : wants ol σ g = true) (hM : ev σ M = .map (some b)) (hK : ev σ K = .int ik k) (hX : ev σ X = v) (hdel : Del L [(b, .map es clock)] R) (hi : MapIs ik es m)
    (h : ∀ es' clock', MapIs ik es' (mput m k v) → TL fr x ol rest Q σ H ([(b, .map es' clock')] :: R) ds) : TL fr x ol (⟨none, .insert t M K X, ty, p, af, g⟩ :: rest) Q σ H L ds := by
  intro a w hs hd hst
  have hst1 : St x H ((b, .map es clock) :: (R.flatten ++ hid fr.rd ds)) w := hst.perm (by
    have := hdel.perm.append_right (hid fr.rd ds)
    simpa using this)
  have hb := hst1.sat.l (b, .map es clock) (List.mem_cons_self ..)
  simp only at hb
  obtain ⟨es', clock', hrun, hi'⟩ := run_mapUpdate_is (P := fr.P) (w := w) (k := k) (v := v) hm hk hb hi
  have hst2 : St x H ((b, .map es' clock') :: (R.flatten ++ hid fr.rd ds)) (w.putObj b (.map es' clock')) :=
    hst1.turn rfl rfl rfl (by simp [World.putObj]) (World.putObj_heap_same (heap_lt hb)) (fun c hc => World.putObj_heap_other (by first | exact hc | exact fun e => hc e.symm))
  unfold wpLo
  rw [if_pos (wanted_of hs hw)]
  refine ⟨fun f _ => fenceFn _ f, ?_⟩
  rw [semAt_of rfl, hs.eval]
  have hr : (execOp (ev σ) ⟨none, .insert t M K X, ty, p, af, g⟩).run fr.P w = .ok .skip (w.putObj b (.map es' clock')) := by
    simp [execOp, hM, hK, hX, hrun]
  rw [hr]
  exact h es' clock' hi' _ _ hs hd (by simpa using hst2)
end
/-- A row that can be read, as a source, whatever is owned. -/
theorem Src.rdA {α : Type} {E : ER α} {H : Heap} {v : Value} {xs : List α} (h : RdS E H v xs) : ∃ cs, CellsOf E H cs xs ∧ ∀ L, Src H L v xs.length cs := by
  obtain ⟨cs, h1, A, c, h2, h3, h4⟩ := Src.rd (L := []) h
  exact ⟨cs, h1, fun L => ⟨A, c, h2, h3, fun b o e hd w hs => h4 b o e (L.flatten ++ hd) w (by simpa using hs)⟩⟩
end Go.SX
