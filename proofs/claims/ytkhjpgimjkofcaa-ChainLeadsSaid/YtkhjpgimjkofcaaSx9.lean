/- SX: a cut between two pieces of code: what is known of the slots there. -/
import Derived.Test.YtkhjpgimjkofcaaSx8
import Derived.Laws.Cover3
set_option linter.unusedVariables false
set_option linter.unusedSimpArgs false
namespace Go.SX
open Go
attribute [local semireducible] T TL
theorem yl_none {N : Nat} {ol : List Oper} {σ : Env} {a : Act} (hs : Sim N σ a.tmps) {j : Nat} (h : yl ol σ j = none) : yielded ol.toArray a.tmps j = none := by
  cases hy : yielded ol.toArray a.tmps j with
  | none => rfl
  | some b =>
    unfold yielded at hy
    unfold yl at h
    rw [List.getElem?_toArray, ← nth_eq] at hy
    cases hn : nth ol j with
    | none => rw [hn] at hy; simp at hy
    | some o =>
      rw [hn] at hy h
      simp only [Option.bind_some] at hy h
      cases hd : o.dst with
      | none => rw [hd] at hy; simp at hy
      | some t =>
        rw [hd] at hy h
        simp only [Option.bind_some] at hy h
        rw [← hs.val t] at h
        cases hv : a.tmps[t]? with
        | none => rw [hv] at hy; simp at hy
        | some v =>
          rw [Array.getD_eq_getD_getElem?, hv] at h
          rw [hv] at hy
          cases v <;> simp_all
section
variable {fr : Fr} {x : Cx} {Q : Post} {σ : Env} {H : Heap} {L : Own} {ds : List Nat} {ol rest : List Oper}
/-- An operation that is shut out, as its guard's own operation was. -/
theorem TL.offU {d : Nat} {op : Op} {ty : TypeId} {p : String} {af : Array Edge} {j : Nat} {b : Bool} (hdN : Nat.blt d fr.N = true) (hy : yl ol σ j = none)
    (h : TL fr x ol rest Q (upd σ d undef) H L ds) : TL fr x ol (⟨some d, op, ty, p, af, some (j, b)⟩ :: rest) Q σ H L ds := by
  intro a w hs hd hst
  unfold wpLo
  have : Region.wanted (⟨some d, op, ty, p, af, some (j, b)⟩ : Oper) (yielded ol.toArray a.tmps) = false := by
    unfold Region.wanted; simp only [yl_none hs hy]; rfl
  rw [if_neg (by rw [this]; simp)]
  exact ⟨fun f _ => fenceFn _ f, h _ w (hs.putA d undef hdN) hd hst⟩
theorem TL.offU0 {op : Op} {ty : TypeId} {p : String} {af : Array Edge} {j : Nat} {b : Bool} (hy : yl ol σ j = none)
    (h : TL fr x ol rest Q σ H L ds) : TL fr x ol (⟨none, op, ty, p, af, some (j, b)⟩ :: rest) Q σ H L ds := by
  intro a w hs hd hst
  unfold wpLo
  have : Region.wanted (⟨none, op, ty, p, af, some (j, b)⟩ : Oper) (yielded ol.toArray a.tmps) = false := by
    unfold Region.wanted; simp only [yl_none hs hy]; rfl
  rw [if_neg (by rw [this]; simp)]
  exact ⟨fun f _ => fenceFn _ f, h _ w hs hd hst⟩
end
section
variable {fr : Fr} {x : Cx} {Q : Post} {σ : Env} {H : Heap} {L : Own} {ds : List Nat}
theorem T.cut {ι : Type} {a b : Code} (I : ι → Heap → Own → List Nat → Prop) (sl : ι → List (Nat × Value))
    (h : T fr x a (Post.thn (fun σ' H' L' ds' => ∃ i, HLe H H' ∧ I i H' L' ds' ∧ Slots σ' (sl i)) Q) σ H L ds)
    (k : ∀ i σ' H' L' ds', HLe H H' → I i H' L' ds' → T fr x b Q (chain σ' (sl i)) H' L' ds') : T fr x (.seq a b) Q σ H L ds := by
  refine T.seq (T.mono h ?_)
  intro e σ' H' L' ds' hq
  cases e with
  | normal =>
    obtain ⟨i, h1, h2, h3⟩ := hq
    have := k i σ' H' L' ds' h1 h2
    rw [h3.chain] at this
    exact this
  | _ => exact hq
end

section
variable {fr : Fr} {x : Cx} {Q : Post} {σ : Env} {H : Heap} {L : Own} {ds : List Nat} {ol rest : List Oper}
variable {d : Nat} {ty : TypeId} {p : String} {af : Array Edge} {g : Option (Nat × Bool)}
theorem T.nilc {c : Code} (h : T fr x c Q σ H ([] :: L) ds) : T fr x c Q σ H L ds := fun a w hs hd hst => h a w hs hd (by simpa using hst)
theorem TL.nilc {l : List Oper} (h : TL fr x ol l Q σ H ([] :: L) ds) : TL fr x ol l Q σ H L ds := fun a w hs hd hst => h a w hs hd (by simpa using hst)
/-- A move, the value given in its own form. -/
theorem R.mvE {X : Operand} {v : Value} (hw : wan fr.N ol σ d g = true) (hv : ev σ X = v) (h : TL fr x ol rest Q (upd σ d v) H L ds) : TL fr x ol (⟨some d, .move X, ty, p, af, g⟩ :: rest) Q σ H L ds := by
  subst hv; exact R.mv hw h
theorem R.asE {X : Operand} {v : Value} (hw : wan fr.N ol σ d g = true) (hv : ev σ X = v) (h : TL fr x ol rest Q (upd σ d v) H L ds) : TL fr x ol (⟨some d, .assign X, ty, p, af, g⟩ :: rest) Q σ H L ds := by
  subst hv; exact R.as hw h
theorem R.pkTE {X Y Z : Operand} {v : Value} (hw : wan fr.N ol σ d g = true) (hx : ev σ X = .bool true) (hv : ev σ Y = v) (h : TL fr x ol rest Q (upd σ d v) H L ds) : TL fr x ol (⟨some d, .pick X Y Z, ty, p, af, g⟩ :: rest) Q σ H L ds := by
  subst hv; exact R.pkT hw hx h
theorem R.pkFE {X Y Z : Operand} {v : Value} (hw : wan fr.N ol σ d g = true) (hx : ev σ X = .bool false) (hv : ev σ Z = v) (h : TL fr x ol rest Q (upd σ d v) H L ds) : TL fr x ol (⟨some d, .pick X Y Z, ty, p, af, g⟩ :: rest) Q σ H L ds := by
  subst hv; exact R.pkF hw hx h
/-- A slice against nil. -/
theorem R.nilS {X Y : Operand} {t e yt : TypeId} {A : Option Addr} {n c : Nat} (ht : fr.P.underlying t = some (.slice e)) (hw : wan fr.N ol σ d g = true) (hx : ev σ X = .slice A n c) (hy : ev σ Y = .slice none 0 0)
    (h : TL fr x ol rest Q (upd σ d (.bool A.isNone)) H L ds) : TL fr x ol (⟨some d, .binOp .eql t X Y yt, ty, p, af, g⟩ :: rest) Q σ H L ds :=
  TL.pureE hw rfl (fun w => by simp [execOp, eqGuard, hx, hy, binOp, run_equal_slice_nil w t e A n c ht]) h
/-- An empty literal. -/
theorem R.bs0 {α : Type} {E : ER α} {t e : TypeId} (hw : wan fr.N ol σ d g = true) (ht : fr.P.underlying t = some (.slice e)) (hsz : ∀ w, (sizeOf e).run fr.P w = .ok E.size w)
    (h : ∀ v c, OwnS E e H v ([] : List α) c → TL fr x ol rest Q (upd σ d v) H (c :: L) ds) : TL fr x ol (⟨some d, .buildSlice t 0 #[], ty, p, af, g⟩ :: rest) Q σ H L ds := by
  refine R.bs (ps := []) (cs := []) (e := e) hw (fun w => ?_) (fun b => h _ _ (.inr ⟨b, 0, #[], rfl, rfl, Nat.le_refl _, by unfold maxLen; omega, by simp, fun i y hy => by simp at hy⟩))
  have h0 : (Array.map (fun _ => (default : Value)) (Array.range 0)) = #[] := by apply Array.ext <;> simp
  simp [Instr.buildSlice, run_underlying ht, hsz, Instr.fill, newRow, h0]
end
theorem fin1C {P : Program} {fn : Func} {N t b o : Nat} {ty : TypeId} {cs : Array Value} {et : TypeId} {fz : Nat × Nat} {post : Value → Heap → Own → Prop} {σ : Env} {H : Heap} {L : Own} {ds : List Nat} {v : Value} (L' : Own) (hr : fn.results = #[.cell t ty]) (hagg : ∀ w, (isAgg ty).run P w = .ok false w) (hv : σ t = .pointer (some ⟨b, o, none⟩))
    (hin : In L [(b, .cells cs et fz)]) (hcs : cs[o]? = some v) (hL : List.Sublist L' L) (h : post v H L') : fnPost P fn N post .ret σ H L ds :=
  ⟨v, L', hL, fun tmps w hs hsat => by
    have hb := hsat.l (b, .cells cs et fz) (hin.mem (List.mem_singleton.2 rfl))
    have hc := cell_of_heap hb hcs
    have hvt := hs.val t
    rw [hv, Array.getD_eq_getD_getElem?] at hvt
    simp only at hc
    simp [results, hr, hvt, asAddr, loadVar, hagg, hc], h⟩
end Go.SX
