/- SX: a store of a whole element into a row of one's own. -/
import Derived.Test.YtkhjpgimjkofcaaSxC
set_option linter.unusedVariables false
set_option linter.unusedSimpArgs false
namespace Go.SX
open Go
attribute [local semireducible] T TL
section
variable {fr : Fr} {x : Cx} {Q : Post} {σ : Env} {H : Heap} {L : Own} {ds : List Nat} {ol rest : List Oper}
variable {d : Nat} {ty : TypeId} {p : String} {af : Array Edge} {g : Option (Nat × Bool)}
theorem R.stEA {α : Type} {E : ER α} {te e : TypeId} {Ad V : Operand} {v : Value} {l : List Value} {xs : List α} {y : α} {ch : Chunk} {R : Own} {j b : Nat} (hsz : ∀ w, (sizeOf te).run fr.P w = .ok E.size w) (hw : wants ol σ g = true)
    (hown : OwnS E e H v xs ch) (hdel : Del L ch R) (hix : IxAt v E.size j b (j * E.size)) (ha : ev σ Ad = .pointer (some ⟨b, j * E.size, none⟩)) (hv : ev σ V = .agg l.toArray) (hy : E.R H l y)
    (hk : ∀ c', OwnS E e H v (xs.set j y) c' → TL fr x ol rest Q σ H (c' :: R) ds) :
    TL fr x ol (⟨none, .store te Ad V, ty, p, af, g⟩ :: rest) Q σ H L ds := by
  intro a w hs hd hst
  have hst1 : St x H (ch ++ (R.flatten ++ hid fr.rd ds)) w := hst.perm (by rw [← List.append_assoc]; exact hdel.perm.append_right _)
  obtain ⟨o0, n0, c0, hv0, hjn, _⟩ := hix
  have hll := E.len hy
  rcases hown with ⟨rfl, rfl, rfl⟩ | ⟨b', cap, cs, rfl, rfl, h3, h4, h5, h6⟩
  · cases hv0
  · cases hv0
    have hb := hst1.sat.l (b, .cells cs e) (List.mem_append_left _ (List.mem_singleton.2 rfl))
    simp only at hb
    have hfit : j * E.size + l.length ≤ cs.size := by
      rw [h5, hll]
      calc j * E.size + E.size = (j + 1) * E.size := by rw [Nat.add_mul, Nat.one_mul]
        _ ≤ c0 * E.size := Nat.mul_le_mul_right _ (by omega)
    have hstore := run_storeCells_at fr.P b (j * E.size) e l 0 cs w hb (by omega) (fun v hv => E.one hy v hv)
    rw [Nat.add_zero] at hstore
    have hst2 := hst1.turn (w' := w.setRow b (cs.toList.take (j * E.size) ++ l ++ cs.toList.drop (j * E.size + l.length)).toArray) (o' := .cells (cs.toList.take (j * E.size) ++ l ++ cs.toList.drop (j * E.size + l.length)).toArray e) rfl rfl rfl (by simp [World.setRow]) (by simp only [World.setRow]; rw [Array.getElem?_modify, if_pos rfl, hb]; rfl) (fun c hc => by
      simp only [World.setRow, Array.getElem?_modify]
      rw [if_neg (fun e => hc e.symm)])
    unfold wpLo
    rw [if_pos (wanted_of hs hw)]
    refine ⟨fun f _ => fenceFn _ f, ?_⟩
    rw [semAt_of rfl, hs.eval]
    have hrun : (execOp (ev σ) ⟨none, .store te Ad V, ty, p, af, g⟩).run fr.P w = .ok .skip (w.setRow b (cs.toList.take (j * E.size) ++ l ++ cs.toList.drop (j * E.size + l.length)).toArray) := by
      simp [execOp, Instr.storeAt, Instr.sureAddr, storeVar, ha, hv, hsz, Value.cells, hll, hstore]
    rw [hrun]
    refine hk [(b, .cells (cs.toList.take (j * E.size) ++ l ++ cs.toList.drop (j * E.size + l.length)).toArray e)] (Or.inr ?_) _ _ hs hd (by simpa using hst2)
    have hcl : cs.toList.length = cs.size := Array.length_toList
    have htl : (cs.toList.take (j * E.size)).length = j * E.size := by rw [List.length_take, hcl]; omega
    have hszs : (cs.toList.take (j * E.size) ++ l ++ cs.toList.drop (j * E.size + l.length)).length = cs.size := by
      rw [List.length_append, List.length_append, List.length_drop, htl, hcl]; omega
    refine ⟨b, c0, _, by rw [List.length_set], rfl, by rw [List.length_set]; exact h3, h4, by rw [List.size_toArray, hszs]; exact h5, fun k q hq => ?_⟩
    by_cases hkj : k = j
    · subst hkj
      rw [List.getElem?_set_self hjn] at hq
      injection hq with hq
      subst hq
      refine ⟨l, hy, fun r u hr => ?_⟩
      have hrl := (List.getElem?_eq_some_iff.1 hr).1
      rw [List.getElem?_toArray, List.append_assoc, List.getElem?_append_right (by rw [htl]; omega), htl, List.getElem?_append_left (by omega)]
      rw [show k * E.size + r - k * E.size = r by omega]
      exact hr
    · rw [List.getElem?_set_ne (fun e => hkj e.symm)] at hq
      obtain ⟨l2, h7, h8⟩ := h6 k q hq
      refine ⟨l2, h7, fun r u hr => ?_⟩
      have h9 := h8 r u hr
      have hrl : r < E.size := by rw [← E.len h7]; exact (List.getElem?_eq_some_iff.1 hr).1
      have hkl := (List.getElem?_eq_some_iff.1 hq).1
      rw [List.getElem?_toArray]
      rcases Nat.lt_or_ge k j with hlt | hge
      · have h10 : k * E.size + r < j * E.size := by
          calc k * E.size + r < k * E.size + E.size := by omega
            _ = (k + 1) * E.size := by rw [Nat.add_mul, Nat.one_mul]
            _ ≤ j * E.size := Nat.mul_le_mul_right _ (by omega)
        rw [List.append_assoc, List.getElem?_append_left (by rw [htl]; exact h10), List.getElem?_take_of_lt h10]
        simpa using h9
      · have h10 : j * E.size + l.length ≤ k * E.size + r := by
          rw [hll]
          calc j * E.size + E.size = (j + 1) * E.size := by rw [Nat.add_mul, Nat.one_mul]
            _ ≤ k * E.size := Nat.mul_le_mul_right _ (by omega)
            _ ≤ k * E.size + r := by omega
        rw [List.getElem?_append_right (by rw [List.length_append, htl]; exact h10), List.length_append, htl, List.getElem?_drop, show j * E.size + l.length + (k * E.size + r - (j * E.size + l.length)) = k * E.size + r by omega]
        simpa using h9
end
end Go.SX
namespace Go.SX
open Go
theorem ix_off {A : Option Addr} {n cap b k i sz : Nat} (hv : Value.slice A n cap = .slice (some ⟨b, 0, none⟩) n cap) (hk : k < n) (hcap : n ≤ cap) (hi : k + i < n) : IxAt (slcV (.slice A n cap) k n cap sz) sz i b ((k + i) * sz) := by
  injection hv with h1
  subst h1
  refine ⟨k * sz, n - k, cap - k, ?_, by omega, by rw [Nat.add_mul]⟩
  have : ¬ cap = k := by omega
  simp [slcV, this, Addr.add_lit]
theorem set_take {α : Type} {l : List α} {i : Nat} {x : α} (h : i < l.length) : (l.set i x).take (i + 1) = l.take i ++ [x] := by
  rw [List.take_add_one, List.getElem?_set_self h, List.take_set_of_le (Nat.le_refl i)]; rfl
end Go.SX
namespace Go.SX
open Go
attribute [local semireducible] T TL
theorem R.ldAt {fr : Fr} {x : Cx} {Q : Post} {σ : Env} {H : Heap} {L : Own} {ds : List Nat} {ol rest : List Oper} {d : Nat} {ty : TypeId} {p : String} {af : Array Edge} {g : Option (Nat × Bool)}
    {t : TypeId} {A : Operand} {b o n : Nat} {l : List Value} {cs : Array Value} {et : TypeId} (hagg : ∀ w, (isAgg t).run fr.P w = .ok true w) (hsz : ∀ w, (sizeOf t).run fr.P w = .ok n w) (hw : wan fr.N ol σ d g = true) (ha : ev σ A = .pointer (some ⟨b, o, none⟩))
    (hin : In L [(b, .cells cs et)]) (hn : l.length = n) (hc : ∀ j u, l[j]? = some u → cs[o + j]? = some u) (h : TL fr x ol rest Q (upd σ d (.agg l.toArray)) H L ds) : TL fr x ol (⟨some d, .load t A, ty, p, af, g⟩ :: rest) Q σ H L ds :=
  TL.value hw rfl (fun w hst => by
    have hb := hst.sat.l (b, .cells cs et) (List.mem_append_left _ (hin.mem (List.mem_singleton.2 rfl)))
    have hl := run_loadCells_list (P := fr.P) w ⟨b, o, none⟩ l (fun j u hj => by rw [Addr.add_lit]; exact cell_of_heap hb (hc j u hj))
    rw [hn] at hl
    exact ⟨_, w, H, L, by simp [execOp, Instr.loadAt, Instr.sureAddr, loadVar, ha, hagg, hsz, hl], hst, h⟩)
end Go.SX
