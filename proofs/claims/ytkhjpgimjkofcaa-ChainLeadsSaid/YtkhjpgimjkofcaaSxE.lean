/- SX: a map of one's own is gone through. -/
import Derived.Test.YtkhjpgimjkofcaaSxD
import Derived.Maps.RangeRun
set_option linter.unusedVariables false
set_option linter.unusedSimpArgs false
namespace Go.SX
open Go
attribute [local semireducible] T TL
/-- The stamps rise, and lie below the clock. -/
def BornOk (es : Array MapEntry) (clock : Nat) : Prop := (es.toList.map (·.born)).Pairwise (· < ·) ∧ ∀ e ∈ es.toList, e.born < clock
def MapK (ik : IntKind) (es : Array MapEntry) (clock : Nat) (m : MapL) : Prop := MapIs ik es m ∧ BornOk es clock
theorem MapK.nil (ik : IntKind) : MapK ik #[] 0 [] := ⟨mapIs_nil ik, by simp, fun e h => by simp at h⟩
theorem run_mapUpdate_k {P : Program} {w : World} {t kt et : TypeId} {ik : IntKind} {es : Array MapEntry} {clock b : Nat} {m : MapL} {k : Int} {v : Value} (hm : P.underlying t = some (.map kt et)) (hk : P.underlying kt = some (.int ik)) (hb : w.heap[b]? = some (.map es clock)) (hi : MapK ik es clock m) :
    ∃ es' clock', (Instr.mapUpdate t (.map (some b)) (.int ik k) v).run P w = .ok () (w.putObj b (.map es' clock')) ∧ MapK ik es' clock' (mput m k v) := by
  obtain ⟨hi, hbo1, hbo2⟩ := hi
  have hf := run_findKey_is (P := P) (w := w) (k := k) hk hi
  have hset : ∀ o, (setObj b o).run P w = .ok () (w.putObj b o) := fun o => by rw [MapKept.run_setObj_map o hb]; rfl
  rcases mget_idx m k with ⟨h1, h2⟩ | ⟨j, u, h1, h2, h3⟩
  · rw [h1] at hf
    refine ⟨es.push ⟨.int ik k, v, clock⟩, clock + 1, ?_, ?_, ?_, ?_⟩
    · simp [Instr.mapUpdate, run_underlying hm, run_getObj_map (w := w) b es clock hb, run_checkKey_int hk, hf, hset]
    · rw [mput_none m k v h1]
      unfold MapIs at hi ⊢
      simp [hi]
    · simp only [Array.toList_push, List.map_append, List.map_cons, List.map_nil]
      refine List.pairwise_append.2 ⟨hbo1, List.pairwise_singleton _ _, fun x hx y hy => ?_⟩
      simp at hy; subst hy
      obtain ⟨e, he, rfl⟩ := List.mem_map.1 hx
      exact hbo2 e he
    · intro e he
      simp only [Array.toList_push, List.mem_append, List.mem_singleton] at he
      rcases he with he | rfl
      · have := hbo2 e he; omega
      · exact Nat.lt_succ_self _
  · rw [h1, h2] at hf
    simp only [Option.bind_some, Option.map_some, Nat.zero_add] at hf
    have hej : (es[j]?).map (·.key) = some (.int ik k) := by
      have := congrArg (fun l => l[j]?) hi
      simp only [List.getElem?_map, h3, Option.map_some, Array.getElem?_toList] at this
      cases he : es[j]? with
      | none => rw [he] at this; cases this
      | some e => rw [he] at this; simp at this; simp [this.1]
    have hks : (Instr.keyThatStays (.int ik k) (.int ik k)).run P w = .ok (.int ik k) w := by simp [Instr.keyThatStays, Instr.sameBits]
    have hborn : (es.modify j (fun e => { e with key := .int ik k, val := v })).toList.map (·.born) = es.toList.map (·.born) := by
      refine List.ext_getElem? (fun i => ?_)
      simp only [List.getElem?_map, Array.getElem?_toList]
      rw [Array.getElem?_modify]
      by_cases e : j = i
      · subst e; rw [if_pos rfl]; cases es[j]? <;> simp
      · rw [if_neg e]
    refine ⟨es.modify j (fun e => { e with key := .int ik k, val := v }), clock, ?_, ?_, by rw [hborn]; exact hbo1, fun e he => ?_⟩
    · simp [Instr.mapUpdate, run_underlying hm, run_getObj_map (w := w) b es clock hb, run_checkKey_int hk, hf, hej, hks, hset]
    · rw [mput_some m k v j h1]
      unfold MapIs at hi ⊢
      refine List.ext_getElem? (fun i => ?_)
      have hie := congrArg (fun l => l[i]?) hi
      simp only [List.getElem?_map, Array.getElem?_toList] at hie ⊢
      rw [Array.getElem?_modify]
      by_cases e : j = i
      · subst e
        rw [if_pos rfl, List.getElem?_set_self (List.getElem?_eq_some_iff.1 h3).1]
        cases he : es[j]? with
        | none => rw [he] at hej; cases hej
        | some x => simp
      · rw [if_neg e, List.getElem?_set_ne e]
        exact hie
    · have : e.born ∈ es.toList.map (·.born) := by rw [← hborn]; exact List.mem_map.2 ⟨e, he, rfl⟩
      obtain ⟨e2, he2, h9⟩ := List.mem_map.1 this
      rw [← h9]; exact hbo2 e2 he2
section
variable {fr : Fr} {x : Cx} {Q : Post} {σ : Env} {H : Heap} {L : Own} {ds : List Nat} {ol rest : List Oper}
variable {d : Nat} {ty : TypeId} {p : String} {af : Array Edge} {g : Option (Nat × Bool)}
/-- m[k] = v, the stamps told. -/
theorem R.mupK {t kt et : TypeId} {M K X : Operand} {b clock : Nat} {es : Array MapEntry} {m : MapL} {ik : IntKind} {k : Int} {v : Value} {R : Own} (hm : fr.P.underlying t = some (.map kt et)) (hk : fr.P.underlying kt = some (.int ik))
    (hw : wants ol σ g = true) (hM : ev σ M = .map (some b)) (hK : ev σ K = .int ik k) (hX : ev σ X = v) (hdel : Del L [(b, .map es clock)] R) (hi : MapK ik es clock m)
    (h : ∀ es' clock', MapK ik es' clock' (mput m k v) → TL fr x ol rest Q σ H ([(b, .map es' clock')] :: R) ds) : TL fr x ol (⟨none, .mapUpdate t M K X, ty, p, af, g⟩ :: rest) Q σ H L ds := by
  intro a w hs hd hst
  have hst1 : St x H ((b, .map es clock) :: (R.flatten ++ hid fr.rd ds)) w := hst.perm (by
    have := hdel.perm.append_right (hid fr.rd ds)
    simpa using this)
  have hb := hst1.sat.l (b, .map es clock) (List.mem_cons_self ..)
  simp only at hb
  obtain ⟨es', clock', hrun, hi'⟩ := run_mapUpdate_k (P := fr.P) (w := w) (k := k) (v := v) hm hk hb hi
  have hst2 : St x H ((b, .map es' clock') :: (R.flatten ++ hid fr.rd ds)) (w.putObj b (.map es' clock')) :=
    hst1.turn rfl rfl rfl (by simp [World.putObj]) (World.putObj_heap_same (heap_lt hb)) (fun c hc => World.putObj_heap_other (by first | exact hc | exact fun e => hc e.symm))
  unfold wpLo
  rw [if_pos (wanted_of hs hw)]
  refine ⟨fun f _ => fenceFn _ f, ?_⟩
  rw [semAt_of rfl, hs.eval]
  have hr : (execOp (ev σ) ⟨none, .mapUpdate t M K X, ty, p, af, g⟩).run fr.P w = .ok .skip (w.putObj b (.map es' clock')) := by
    simp [execOp, hM, hK, hX, hrun]
  rw [hr]
  exact h es' clock' hi' _ _ hs hd (by simpa using hst2)
/-- range over a map of one's own: the iterator is one's own. -/
theorem R.rng {t kt et : TypeId} {M : Operand} {b clock : Nat} {es : Array MapEntry} (hm : fr.P.underlying t = some (.map kt et)) (hw : wan fr.N ol σ d g = true) (hM : ev σ M = .map (some b)) (hin : In L [(b, .map es clock)])
    (h : ∀ bi, TL fr x ol rest Q (upd σ d (.pointer (some ⟨bi, 0, none⟩))) H ([(bi, .mapIter (some b) clock #[] clock)] :: L) ds) :
    TL fr x ol (⟨some d, .range t M, ty, p, af, g⟩ :: rest) Q σ H L ds :=
  TL.value hw rfl (fun w hst => by
    have hb := hst.sat.l (b, .map es clock) (List.mem_append_left _ (hin.mem (List.mem_singleton.2 rfl)))
    have hr := run_range_map (P := fr.P) w t kt et b es clock hm hb
    exact ⟨_, w.alloc (.mapIter (some b) clock #[] clock), H, _, by simp [execOp, hM, hr], hst.new _, h w.heap.size⟩)
/-- One step: over, or one that was not seen. -/
theorem R.nxt {X : Operand} {b bi clock : Nat} {es : Array MapEntry} {seen : Array Nat} {R : Own} (hw : wan fr.N ol σ d g = true) (hX : ev σ X = .pointer (some ⟨bi, 0, none⟩)) (hdel : Del L [(bi, .mapIter (some b) clock seen clock)] R) (hin : In R [(b, .map es clock)]) (hbo : BornOk es clock)
    (h : ∀ v sn, ((v = .tuple #[.bool false] ∧ sn = seen ∧ ∀ e ∈ es.toList, e.born ∈ seen) ∨ (∃ e ∈ es.toList, e.born ∉ seen ∧ v = .tuple #[.bool true, e.key, e.val] ∧ sn = seen.push e.born)) → TL fr x ol rest Q (upd σ d v) H ([(bi, .mapIter (some b) clock sn clock)] :: R) ds) :
    TL fr x ol (⟨some d, .next X false, ty, p, af, g⟩ :: rest) Q σ H L ds :=
  TL.value hw rfl (fun w hst => by
    have hst1 : St x H ((bi, .mapIter (some b) clock seen clock) :: (R.flatten ++ hid fr.rd ds)) w := hst.perm (by
      have := hdel.perm.append_right (hid fr.rd ds)
      simpa using this)
    have hbi := hst1.sat.l (bi, .mapIter (some b) clock seen clock) (List.mem_cons_self ..)
    have hb := hst1.sat.l (b, .map es clock) (List.mem_cons_of_mem _ (List.mem_append_left _ (hin.mem (List.mem_singleton.2 rfl))))
    simp only at hbi hb
    rcases run_next_at (P := fr.P) w ty bi b clock clock seen es clock hbi hb hbo.2 (Nat.le_refl _) with ⟨h0, hrun⟩ | ⟨e, he, w1, hw1, hrun⟩
    · refine ⟨_, w, H, [(bi, .mapIter (some b) clock seen clock)] :: R, by simp [execOp, hX, hrun], by simpa using hst1, h _ _ (.inl ⟨rfl, rfl, fun e he => ?_⟩)⟩
      have hl : leftOf es seen = #[] := Array.eq_empty_of_size_eq_zero h0
      unfold leftOf at hl
      rw [Array.filter_eq_empty_iff] at hl
      have := hl e (by simpa using he)
      simpa using this
    · have hmem : e ∈ es.toList ∧ e.born ∉ seen := by
        unfold leftOf at he
        simp at he
        exact ⟨by simpa using he.1, he.2⟩
      have hst2 : St x H ((bi, .mapIter (some b) clock seen clock) :: (R.flatten ++ hid fr.rd ds)) w1 := by
        rcases hw1 with rfl | rfl
        · exact hst1
        · exact hst1.drew
      have hbi1 := hst2.sat.l (bi, .mapIter (some b) clock seen clock) (List.mem_cons_self ..)
      simp only at hbi1
      have hst3 := hst2.turn (w' := ChangeMaps.setBlock w1 bi (.mapIter (some b) clock (seen.push e.born) clock)) (o' := .mapIter (some b) clock (seen.push e.born) clock) rfl rfl rfl (by simp [ChangeMaps.setBlock]) (by
          simp [ChangeMaps.setBlock, heap_lt hbi1]) (fun c hc => by
          simp only [ChangeMaps.setBlock]
          rw [Array.getElem?_setIfInBounds_ne (fun e => hc e.symm)])
      exact ⟨.tuple #[.bool true, e.key, e.val], ChangeMaps.setBlock w1 bi (.mapIter (some b) clock (seen.push e.born) clock), H, [(bi, .mapIter (some b) clock (seen.push e.born) clock)] :: R, by simp [execOp, hX, hrun], by simpa using hst3, h _ _ (.inr ⟨e, hmem.1, hmem.2, rfl, rfl⟩)⟩)
/-- The step's entry, read again. -/
theorem R.ent {X : Operand} {b bi clock : Nat} {es : Array MapEntry} {seen : Array Nat} {e : MapEntry} (hw : wan fr.N ol σ d g = true) (hX : ev σ X = .pointer (some ⟨bi, 0, none⟩)) (hin : In L [(bi, .mapIter (some b) clock (seen.push e.born) clock)]) (hin2 : In L [(b, .map es clock)]) (hbo : BornOk es clock) (he : e ∈ es.toList)
    (h : TL fr x ol rest Q (upd σ d (.tuple #[e.key, e.val])) H L ds) : TL fr x ol (⟨some d, .entry X, ty, p, af, g⟩ :: rest) Q σ H L ds :=
  TL.value hw rfl (fun w hst => by
    have hbi := hst.sat.l (bi, .mapIter (some b) clock (seen.push e.born) clock) (List.mem_append_left _ (hin.mem (List.mem_singleton.2 rfl)))
    have hb := hst.sat.l (b, .map es clock) (List.mem_append_left _ (hin2.mem (List.mem_singleton.2 rfl)))
    have hr := run_entry_at (P := fr.P) w bi b clock seen es clock e hbi hb he (hbo.1.imp (fun h => by omega))
    exact ⟨_, w, H, L, by simp [execOp, hX, hr], hst, h⟩)
end
end Go.SX
namespace Go.SX
open Go
attribute [local semireducible] T TL
theorem R.lenM {fr : Fr} {x : Cx} {Q : Post} {σ : Env} {H : Heap} {L : Own} {ds : List Nat} {ol rest : List Oper} {d : Nat} {ty : TypeId} {p : String} {af : Array Edge} {g : Option (Nat × Bool)}
    {t kt et : TypeId} {M : Operand} {b clock : Nat} {es : Array MapEntry} (hm : fr.P.underlying t = some (.map kt et)) (hw : wan fr.N ol σ d g = true) (hM : ev σ M = .map (some b)) (hin : In L [(b, .map es clock)])
    (h : TL fr x ol rest Q (upd σ d (.int .i64 es.size)) H L ds) : TL fr x ol (⟨some d, .call { callee := .builtin .len, args := #[M], argTypes := #[t] }, ty, p, af, g⟩ :: rest) Q σ H L ds :=
  TL.value hw rfl (fun w hst => by
    have hb := hst.sat.l (b, .map es clock) (List.mem_append_left _ (hin.mem (List.mem_singleton.2 rfl)))
    exact ⟨_, w, H, L, by simp [execOp, resolve, invoke, builtin, hM, Builtin.len_, Builtin.lenOf, run_underlying hm, run_getObj_map (w := w) b es clock hb, goInt], hst, h⟩)
end Go.SX
