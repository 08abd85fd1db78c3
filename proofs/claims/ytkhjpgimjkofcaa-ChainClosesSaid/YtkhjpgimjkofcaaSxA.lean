/- SX: append in place, clear. -/
import Derived.Test.YtkhjpgimjkofcaaSx9
set_option linter.unusedVariables false
set_option linter.unusedSimpArgs false
namespace Go.SX
open Go
attribute [local semireducible] T TL
section
variable {fr : Fr} {x : Cx} {Q : Post} {σ : Env} {H : Heap} {L : Own} {ds : List Nat} {ol rest : List Oper}
variable {d : Nat} {ty : TypeId} {p : String} {af : Array Edge} {g : Option (Nat × Bool)}
/-- append where there is room. -/
theorem R.appR {α : Type} {E : ER α} {t e : TypeId} {bytes cap : Nat} {A : Option Addr} {S X : Operand} {xv : Value} {xs ys : List α} {c : Chunk} {R : Own} {cells : List Value} (hty : TyE fr.P t e E bytes) (hw : wan fr.N ol σ d g = true)
    (hs : ev σ S = .slice A xs.length cap) (hx : ev σ X = xv) (hown : OwnS E e H (.slice A xs.length cap) xs c) (hdel : Del L c R) (hsrc : Src H L xv ys.length cells) (hys : CellsOf E H cells ys)
    (hroom : xs.length + ys.length ≤ cap)
    (h : ∀ c', OwnS E e H (.slice A (xs ++ ys).length cap) (xs ++ ys) c' → TL fr x ol rest Q (upd σ d (.slice A (xs ++ ys).length cap)) H (c' :: R) ds) :
    TL fr x ol (⟨some d, .call { callee := .builtin .append, args := #[S, X], argTypes := #[t, t] }, ty, p, af, g⟩ :: rest) Q σ H L ds := by
  obtain ⟨ht, ⟨i, z, hi, hz, hsize, hbytes, hzs⟩, hpos⟩ := hty
  refine TL.value hw rfl (fun w hst => ?_)
  have hex : (execOp (ev σ) ⟨some d, .call { callee := .builtin .append, args := #[S, X], argTypes := #[t, t] }, ty, p, af, g⟩) = (do pure (Next.value (← Builtin.append_ #[t, t] ty #[.slice A xs.length cap, xv]))) := by
    simp [execOp, resolve, invoke, builtin, hs, hx]
  rw [hex]
  have hst1 : St x H (c ++ (R.flatten ++ hid fr.rd ds)) w := hst.perm (by rw [← List.append_assoc]; exact hdel.perm.append_right _)
  obtain ⟨AX, cx, rfl, hA, hcell⟩ := hsrc
  have hlen := hys.length
  by_cases hy0 : ys = []
  · subst hy0
    have hc0 : cells = [] := hys
    subst hc0
    have key : (Builtin.append_ #[t, t] ty #[.slice A xs.length cap, .slice AX 0 cx]).run fr.P w = .ok (.slice A xs.length cap) w := by
      rcases hown with ⟨hv, rfl, rfl⟩ | ⟨b, cap', cs, hv, rfl, h3, h4, h5, h6⟩
      · cases hv; cases AX <;> simp [Builtin.append_, run_underlying ht, sizeOf, typeInfo, hi, Builtin.lenOf, Builtin.firstCells, loadCells, loadCellsFrom]
      · cases hv; cases AX <;> simp [Builtin.append_, run_underlying ht, sizeOf, typeInfo, hi, Builtin.lenOf, Builtin.firstCells, loadCells, loadCellsFrom, h3, storeCells]
    refine ⟨.slice A (xs ++ []).length cap, w, H, c :: R, by rw [List.append_nil]; exact run_value key, ?_, h c (by rw [List.append_nil]; exact hown)⟩
    simpa using hst1
  · have hylen : 0 < ys.length := by cases ys with | nil => exact absurd rfl hy0 | cons _ _ => simp
    have hne : cells ≠ [] := by
      intro e
      rw [e] at hlen
      simp only [List.length_nil] at hlen
      have := Nat.mul_pos hylen hpos
      omega
    obtain ⟨sb, so, rfl⟩ := hA.resolve_left hne
    have hnews : ∀ j u, cells[j]? = some u → w.cell? ((⟨sb, so, none⟩ : Addr).add j) = some u := fun j u hj => by rw [Addr.add_lit]; exact hcell sb so rfl _ w hst.sat j u hj
    have hnl : cells.length = ys.length * i.size := by rw [hsize]; exact hlen
    rcases hown with ⟨hv, rfl, rfl⟩ | ⟨b, cap', cs, hv, rfl, h3, h4, h5, h6⟩
    · cases hv; simp at hroom; exact absurd hroom hy0
    · cases hv
      obtain ⟨old, ho, hold⟩ := cells_of_get (H := H) xs (fun j => cs[j]?) h6
      have hb := hst1.sat.l (b, .cells cs e) (List.mem_append_left _ (List.mem_singleton.2 rfl))
      simp only at hb
      have hfit : xs.length * i.size + cells.length ≤ cs.size := by
        rw [hsize, hlen, h5, ← Nat.add_mul]; exact Nat.mul_le_mul_right _ hroom
      have hrun := run_append_room (P := fr.P) w t ty e i ht hi b xs.length cap cs hb ⟨sb, so, none⟩ ys.length cx cells hnl hnews hys.one hroom hfit
      have hsetsz : (cs.toList.take (xs.length * i.size) ++ cells ++ cs.toList.drop (xs.length * i.size + cells.length)).length = cs.size := by
        simp only [List.length_append, List.length_take, List.length_drop, Array.length_toList]; omega
      refine ⟨_, _, H, [(b, .cells (cs.toList.take (xs.length * i.size) ++ cells ++ cs.toList.drop (xs.length * i.size + cells.length)).toArray e)] :: R, by rw [List.length_append]; exact run_value hrun, ?_, h _ ?_⟩
      · have h2 := hst1.turn (x := x) (w' := w.setRow b (cs.toList.take (xs.length * i.size) ++ cells ++ cs.toList.drop (xs.length * i.size + cells.length)).toArray)
          (o' := .cells (cs.toList.take (xs.length * i.size) ++ cells ++ cs.toList.drop (xs.length * i.size + cells.length)).toArray e) rfl rfl rfl (by simp [World.setRow]) (by simp only [World.setRow]; rw [Array.getElem?_modify, if_pos rfl, hb]; rfl) (fun c hc => by
            simp only [World.setRow, Array.getElem?_modify]
            rw [if_neg (fun e => hc e.symm)])
        simpa using h2
      · rw [List.length_append]
        refine own_after ho hys (fun j u hj => ?_) b cap hroom h4 (by rw [List.size_toArray, hsetsz]; exact h5)
        simp only [List.getElem?_toArray]
        have hol := ho.length
        have hlt := (List.getElem?_eq_some_iff.1 hj).1
        have htl : (cs.toList.take (xs.length * i.size)).length = xs.length * E.size := by
          have hcl : cs.toList.length = cap * E.size := by rw [Array.length_toList]; exact h5
          rw [List.length_take, hcl, hsize]
          have : xs.length * E.size ≤ cap * E.size := Nat.mul_le_mul_right _ h3
          omega
        by_cases hjo : j < old.length
        · rw [List.getElem?_append_left hjo] at hj
          have := hold j u hj
          rw [List.append_assoc, List.getElem?_append_left (by rw [htl, ← hol]; exact hjo), List.getElem?_take_of_lt (by rw [hsize, ← hol]; exact hjo)]
          simpa using this
        · rw [List.getElem?_append_right (Nat.le_of_not_lt hjo)] at hj
          have hlt2 := (List.getElem?_eq_some_iff.1 hj).1
          rw [List.append_assoc, List.getElem?_append_right (by rw [htl, ← hol]; exact Nat.le_of_not_lt hjo), htl, ← hol, List.getElem?_append_left hlt2]
          exact hj

/-- clear(s[len(s):m]): what stands in s stays. -/
theorem R.clr {α : Type} {E : ER α} {t e : TypeId} {bytes cap m : Nat} {A : Option Addr} {X : Operand} {xs : List α} {c : Chunk} {R : Own} (hty : TyE fr.P t e E bytes) (hz1 : ∀ i z, fr.P.info? e = some i → i.zero = some z → ∀ v ∈ z.cells.toList, v.oneCell' = true) (hw : wants ol σ g = true) {dd : Option Nat} (hdd : ∀ q, dd = some q → Nat.blt q fr.N = true)
    (hx : ev σ X = slcV (.slice A xs.length cap) xs.length m cap E.size) (hown : OwnS E e H (.slice A xs.length cap) xs c) (hdel : Del L c R) (hm : xs.length ≤ m) (hmc : m ≤ cap)
    (h : ∀ c', OwnS E e H (.slice A xs.length cap) xs c' → TL fr x ol rest Q (match dd with | some q => upd σ q (.tuple #[]) | none => σ) H (c' :: R) ds) :
    TL fr x ol (⟨dd, .call { callee := .builtin .clear, args := #[X], argTypes := #[t] }, ty, p, af, g⟩ :: rest) Q σ H L ds := by
  obtain ⟨ht, ⟨i, z, hi, hzz, hsize, hbytes, hzs⟩, hpos⟩ := hty
  intro a w hsim hd hst
  have hst1 : St x H (c ++ (R.flatten ++ hid fr.rd ds)) w := hst.perm (by rw [← List.append_assoc]; exact hdel.perm.append_right _)
  unfold wpLo
  rw [if_pos (wanted_of hsim hw)]
  refine ⟨fun f _ => fenceFn _ f, ?_⟩
  rw [semAt_of rfl, hsim.eval]
  have hex : (execOp (ev σ) ⟨dd, .call { callee := .builtin .clear, args := #[X], argTypes := #[t] }, ty, p, af, g⟩) = (do pure (Next.value (← Builtin.clear_ #[t] ty #[slcV (.slice A xs.length cap) xs.length m cap E.size]))) := by
    simp [execOp, resolve, invoke, builtin, hx]
  rw [hex]
  have fin : ∀ (c' : Chunk) (w' : World), OwnS E e H (.slice A xs.length cap) xs c' → St x H (c' ++ (R.flatten ++ hid fr.rd ds)) w' → wpLo (fence fr.rd) fr.P ol.toArray (lift fr x Q) rest (a.put dd (.tuple #[])) w' := by
    intro c' w' ho h2
    have hk' := h c' ho
    cases dd with
    | none => exact hk' a w' hsim hd (by simpa using h2)
    | some q => exact hk' _ w' (hsim.putA q _ (hdd q rfl)) hd (by simpa using h2)
  have hzr : ∀ w, (zeroValue e).run fr.P w = .ok z w := fun w => by simp [zeroValue, typeInfo, hi, hzz]
  by_cases hm0 : m = xs.length
  · have hrun : (Builtin.clear_ #[t] ty #[slcV (.slice A xs.length cap) xs.length m cap E.size]).run fr.P w = .ok (.tuple #[]) w := by
      subst hm0
      simp only [slcV, Nat.sub_self]
      generalize (if cap = xs.length then A else A.map (·.add (xs.length * E.size))) = B
      cases B <;> simp [Builtin.clear_, run_underlying ht]
    rw [run_value hrun]
    exact fin c w hown hst1
  · rcases hown with ⟨hv, rfl, rfl⟩ | ⟨b, cap', cs, hv, rfl, h3, h4, h5, h6⟩
    · cases hv; simp at hm0; omega
    · cases hv
      have hb := hst1.sat.l (b, .cells cs e) (List.mem_append_left _ (List.mem_singleton.2 rfl))
      simp only at hb
      have hzl : (Builtin.zeroCells z.cells (m - xs.length)).toList.length = (m - xs.length) * E.size := by
        rw [Array.length_toList, zeroCells_size, hzs]
      have hfit : 0 + xs.length * E.size + (Builtin.zeroCells z.cells (m - xs.length)).toList.length ≤ cs.size := by
        rw [hzl, h5, Nat.zero_add, ← Nat.add_mul]; exact Nat.mul_le_mul_right _ (by omega)
      have hzone : ∀ v ∈ (Builtin.zeroCells z.cells (m - xs.length)).toList, v.oneCell' = true := by
        intro v hv
        have h1 := hz1 i z hi hzz
        simp only [Builtin.zeroCells, Array.toList_map, List.mem_map] at hv
        obtain ⟨q, _, rfl⟩ := hv
        have hq : q % z.cells.size < z.cells.size := Nat.mod_lt _ (by rw [hzs]; exact hpos)
        rw [getElem!_pos z.cells _ hq]
        exact h1 _ (by simp)
      have hstore := run_storeCells_at fr.P b (xs.length * E.size) e (Builtin.zeroCells z.cells (m - xs.length)).toList 0 cs w hb (by omega) hzone
      rw [Nat.add_zero] at hstore
      have hrun : (Builtin.clear_ #[t] ty #[slcV (.slice (some ⟨b, 0, none⟩) xs.length cap) xs.length m cap E.size]).run fr.P w = .ok (.tuple #[]) (w.setRow b (cs.toList.take (xs.length * E.size) ++ (Builtin.zeroCells z.cells (m - xs.length)).toList ++ cs.toList.drop (xs.length * E.size + (Builtin.zeroCells z.cells (m - xs.length)).toList.length)).toArray) := by
        have hcx : cap ≠ xs.length := by omega
        obtain ⟨q, hq⟩ : ∃ q, m - xs.length = q + 1 := ⟨m - xs.length - 1, by omega⟩
        have e1 : slcV (.slice (some ⟨b, 0, none⟩) xs.length cap) xs.length m cap E.size = .slice (some ⟨b, xs.length * E.size, none⟩) (q + 1) (cap - xs.length) := by
          simp [slcV, hcx, Addr.add_lit, hq]
        rw [e1]
        rw [hq] at hstore ⊢
        simp [Builtin.clear_, run_underlying ht, hzr, hstore]
      rw [run_value hrun]
      refine fin [(b, .cells (cs.toList.take (xs.length * E.size) ++ (Builtin.zeroCells z.cells (m - xs.length)).toList ++ cs.toList.drop (xs.length * E.size + (Builtin.zeroCells z.cells (m - xs.length)).toList.length)).toArray e)] _ ?_ ?_
      · have hsetsz : (cs.toList.take (xs.length * E.size) ++ (Builtin.zeroCells z.cells (m - xs.length)).toList ++ cs.toList.drop (xs.length * E.size + (Builtin.zeroCells z.cells (m - xs.length)).toList.length)).length = cs.size := by
          have hcl : cs.toList.length = cs.size := Array.length_toList
          rw [List.length_append, List.length_append, List.length_take, List.length_drop, hcl]
          omega
        refine .inr ⟨b, cap, _, rfl, rfl, h3, h4, by rw [List.size_toArray, hsetsz]; exact h5, fun j y hy => ?_⟩
        obtain ⟨l, h7, h8⟩ := h6 j y hy
        refine ⟨l, h7, fun r u hr => ?_⟩
        have h9 := h8 r u hr
        have hjl := (List.getElem?_eq_some_iff.1 hy).1
        have hrl : r < E.size := by rw [← E.len h7]; exact (List.getElem?_eq_some_iff.1 hr).1
        have hlt : j * E.size + r < xs.length * E.size := by
          calc j * E.size + r < j * E.size + E.size := by omega
            _ = (j + 1) * E.size := by rw [Nat.add_mul, Nat.one_mul]
            _ ≤ xs.length * E.size := Nat.mul_le_mul_right _ hjl
        have htl : (cs.toList.take (xs.length * E.size)).length = xs.length * E.size := by
          have hcl : cs.toList.length = cap * E.size := by rw [Array.length_toList]; exact h5
          rw [List.length_take, hcl]
          have : xs.length * E.size ≤ cap * E.size := Nat.mul_le_mul_right _ h3
          omega
        rw [List.getElem?_toArray, List.append_assoc, List.getElem?_append_left (by rw [htl]; exact hlt), List.getElem?_take_of_lt hlt]
        simpa using h9
      · refine hst1.turn (o' := .cells (cs.toList.take (xs.length * E.size) ++ (Builtin.zeroCells z.cells (m - xs.length)).toList ++ cs.toList.drop (xs.length * E.size + (Builtin.zeroCells z.cells (m - xs.length)).toList.length)).toArray e) rfl rfl rfl (by simp [World.setRow]) (by simp only [World.setRow]; rw [Array.getElem?_modify, if_pos rfl, hb]; rfl) (fun c hc => by
          simp only [World.setRow, Array.getElem?_modify]
          rw [if_neg (fun e => hc e.symm)])
end

theorem fin2L {P : Program} {fn : Func} {N t u : Nat} {post : Value → Heap → Own → Prop} {σ : Env} {H : Heap} {L : Own} {ds : List Nat} {v v' : Value} (L' : Own) (hr : fn.results = #[.tmp t, .tmp u]) (hv : σ t = v) (hv' : σ u = v') (hL : List.Sublist L' L) (h : post (.tuple #[v, v']) H L') : fnPost P fn N post .ret σ H L ds :=
  ⟨_, L', hL, fun tmps w hs _ => by rw [results_tmp2 hr, hs.val, hs.val, hv, hv'], h⟩
theorem slc_take00 {A : Option Addr} {n c sz i : Nat} : slcV (.slice A n c) 0 i i sz = .slice A i i := by
  simp only [slcV, Nat.zero_mul, Nat.sub_zero]
  congr 1
  split
  · rfl
  · cases A with
    | none => rfl
    | some a => simp [Addr.add_zero']
theorem RdS.take {α : Type} {E : ER α} {H : Heap} {A : Option Addr} {c : Nat} {xs : List α} (hr : RdS E H (.slice A xs.length c) xs) {i : Nat} (hi : i ≤ xs.length) (hc : xs.length ≤ c) : RdS E H (.slice A (xs.take i).length (xs.take i).length) (xs.take i) := by
  have h := hr.slc (l := 0) (h := i) (m := i) (Nat.zero_le _) hi (Nat.le_refl _) (Nat.le_trans hi hc)
  rw [slc_take00, List.drop_zero] at h
  have hl : (xs.take i).length = i := by simp; omega
  rw [hl]; exact h
theorem RdS.takeC {α : Type} {E : ER α} {H : Heap} {A : Option Addr} {c : Nat} {xs : List α} (hr : RdS E H (.slice A xs.length c) xs) {i : Nat} (hi : i ≤ xs.length) (hc : xs.length ≤ c) : RdS E H (slcV (.slice A xs.length c) 0 i c E.size) (xs.take i) := by
  have h := hr.slc (l := 0) (h := i) (m := c) (Nat.zero_le _) hi (Nat.le_trans hi hc) (Nat.le_refl _)
  rw [List.drop_zero] at h
  exact h
theorem RdS.drop {α : Type} {E : ER α} {H : Heap} {A : Option Addr} {c : Nat} {xs : List α} (hr : RdS E H (.slice A xs.length c) xs) {i : Nat} (hi : i ≤ xs.length) (hc : xs.length ≤ c) : RdS E H (slcV (.slice A xs.length c) i xs.length c E.size) (xs.drop i) := by
  have h := hr.slc (l := i) (h := xs.length) (m := c) hi (Nat.le_refl _) hc (Nat.le_refl _)
  rw [List.take_length] at h
  exact h
theorem zcells_of {P : Program} {e : TypeId} {z : Value} (h : (P.info? e).map (fun i => i.zero) = some (some z)) : ∀ i z', P.info? e = some i → i.zero = some z' → z'.cells.toList = z.cells.toList := by
  intro i z' hi hz
  rw [hi] at h
  simp only [Option.map_some, Option.some.injEq] at h
  rw [h] at hz
  injection hz with hz
  subst hz
  rfl
/-- A call that only reads what is owned: it is lent. -/
theorem Fv.borrow {P : Program} {fv : Value} {vs : List Value} {H : Heap} {c : Chunk} {v : Value} (h : ∀ H', HLe H H' → (∀ q ∈ c, H' q.1 = some q.2) → Fv P fv vs H' v) : Fc P fv vs H [c] (fun v' _ L' => L' = [c] ∧ v' = v) := by
  intro w hs
  have hs' : Sat H c w := by simpa using hs
  have hnd := hs'.nd
  have hle : HLe H (hadd H c) := hadd_le hs'.dj
  have hat : ∀ q ∈ c, hadd H c q.1 = some q.2 := fun q hq => hadd_at hnd q hq
  have hsat : Sat (hadd H c) ([] : Own).flatten w := by
    refine ⟨fun b o hb => ?_, fun q hq => (by cases hq), List.nodup_nil, fun q hq => (by cases hq)⟩
    rcases hadd_inv hb with hb | hb
    · exact hs'.l (b, o) hb
    · exact hs'.h b o hb
  refine (h (hadd H c) hle hat w hsat).mono ?_
  rintro e w' ⟨v', H1, L1, rfl, hst, rfl, rfl⟩
  have hkeep : ∀ q ∈ c, w'.heap[q.1]? = some q.2 := fun q hq => by
    rw [hst.chg.same q.1 (heap_lt (hs'.l q hq)) (by simp [keys])]
    exact hs'.l q hq
  have hnk : ∀ b o, H b = some o → b ∉ keys c := fun b o hb hc => by
    obtain ⟨q, hq, rfl⟩ := List.mem_map.1 hc
    have := hs'.dj q hq
    rw [hb] at this; cases this
  refine ⟨v', (fun b => if b ∈ keys c then none else H1 b), [c], rfl, ?_, rfl, rfl⟩
  refine ⟨⟨fun b o hb => ?_, fun q hq => hkeep q (by simpa using hq), by simpa using hnd, fun q hq => ?_⟩, ⟨hst.chg.os, hst.chg.tape, hst.chg.output, hst.chg.size, fun b hb hx => hst.chg.same b hb (by simp [keys]), hst.chg.drawn⟩, fun b o hb => ?_, fun b o hb h0 => ?_, fun b hb => .inl (by simpa using hb)⟩
  · by_cases hk : b ∈ keys c
    · rw [if_pos hk] at hb; cases hb
    · rw [if_neg hk] at hb; exact hst.sat.h b o hb
  · have hq' : q ∈ c := by simpa using hq
    show (if q.1 ∈ keys c then none else H1 q.1) = none
    rw [if_pos (mem_keys hq')]
  · show (if b ∈ keys c then none else H1 b) = some o
    rw [if_neg (hnk b o hb)]
    exact hst.le b o (hle b o hb)
  · by_cases hk : b ∈ keys c
    · rw [if_pos hk] at hb; cases hb
    · rw [if_neg hk] at hb
      refine (hst.hn b o hb ?_).imp (fun hx => ?_) id
      · show hadd H c b = none
        cases hc : hadd H c b with
        | none => rfl
        | some o' =>
          rcases hadd_inv hc with hc | hc
          · exact absurd (mem_keys hc) hk
          · have h0' : H b = none := h0
            rw [hc] at h0'; cases h0'
      · simp [keys] at hx
section
variable {fr : Fr} {x : Cx} {Q : Post} {σ : Env} {H : Heap} {L : Own} {ds : List Nat} {ol rest : List Oper}
variable {d : Nat} {ty : TypeId} {p : String} {af : Array Edge} {g : Option (Nat × Bool)}
/-- An element of an array's value. -/
theorem R.idx {t e n sz : Nat} {X I : Operand} {cs : List Value} {k : IntKind} {i : Int} {v : Value} (ht : fr.P.underlying t = some (.array n e)) (hagg : ∀ w, (isAgg e).run fr.P w = .ok false w) (hsz : ∀ w, (sizeOf e).run fr.P w = .ok sz w)
    (hw : wan fr.N ol σ d g = true) (hx : ev σ X = .agg cs.toArray) (hi : ev σ I = .int k i) (h0 : 0 ≤ i) (hlt : i < n) (hv : cs[i.toNat * sz]? = some v)
    (h : TL fr x ol rest Q (upd σ d v) H L ds) : TL fr x ol (⟨some d, .index t X I, ty, p, af, g⟩ :: rest) Q σ H L ds := by
  refine TL.pureE hw rfl (fun w => ?_) h
  simp [execOp, Instr.index, hx, hi, asIntOf, run_underlying ht, h0, hlt, hsz, part, hagg, hv]
end
end Go.SX
