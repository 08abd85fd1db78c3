/- 'IndexTurns' answers true, whatever it is handed, and what it is handed reads behind it as it did. -/
import Derived.RangeFuncNested
import Derived.RangeFuncBound
import Derived.RangeFuncCalls
import Derived.RangeFuncLeaves
import Derived.Shelf.Abstract
import Derived.Laws.AppendOwn
import Derived.Laws.OwnMore
import Derived.KernelRfl
import Derived.IntWalk
import Derived.Laws.Append
import Derived.WideLaws
import Derived.Laws.Slices
import Derived.Laws.MakeOwn
import Derived.OrdersIn
import Derived.Laws.Cover3
import Derived.Test.YtmigaagkfglabaaGreatProg
import Derived.Laws.StructEq
import Derived.Shelf.Sort.Plain
import Derived.Sort.OwnSortedInts
import Derived.Shelf.Slices.In.SortNone
import Derived.Maps.RangeRun
import Derived.Lib.AppendZeros
import Derived.Sort.AssemblyPlain
import Derived.Shelf.Small.Bits
import Derived.Sort.Walk7a
import Derived.Laws.Bits64
import Derived.Laws.Bits64b
import Derived.Shelf.Spec.SlicesInsert
import Derived.Shelf.Spec.SlicesInsertGrow
import Derived.ProofKit
import Derived.ChangeSlices
import Derived.Carry
import Derived.Deep.Slices
import Derived.OpenShut
import Derived.Test.YtmigaagkfglabaaGreatRows
import Derived.Test.YtmigaagkfglabaaGreatKT4
set_option linter.unusedVariables false
set_option linter.unusedSimpArgs false
namespace Go.SX
open Go
attribute [local semireducible] T TL
/-- The cells of an element, as they lie. -/
def rawE (k : Nat) : ER (List Value) where
  size := k
  R := fun _ cs x => cs = x ∧ cs.length = k ∧ ∀ v ∈ cs, v.oneCell' = true
  len := fun h => h.2.1
  mono := fun _ h => h
  one := fun h => h.2.2
/-- How an element stands in its cells, and in what it owns. -/
structure ED {α : Type} (E : ER α) where
  R : Heap → List Value → α → Chunk → Prop
  mono : ∀ {H H' cs x c}, HLe H H' → R H cs x c → R H' cs x c
  read : ∀ {H H' cs x c}, R H cs x c → HLe H H' → (∀ q ∈ c, H' q.1 = some q.2) → E.R H' cs x
  raw : ∀ {H cs x c}, R H cs x c → cs.length = E.size ∧ ∀ v ∈ cs, v.oneCell' = true
def DeepL {α : Type} {E : ER α} (D : ED E) (H : Heap) : List (List Value) → List α → List Chunk → Prop
  | [], [], [] => True
  | r :: rs, x :: xs, c :: cs => D.R H r x c ∧ DeepL D H rs xs cs
  | _, _, _ => False
/-- What the elements own. -/
def Deep {α : Type} {E : ER α} (D : ED E) (H : Heap) (raws : List (List Value)) (xs : List α) (cd : Chunk) : Prop := ∃ cc, cd.Perm (List.flatten cc) ∧ DeepL D H raws xs cc
section
variable {α : Type} {E : ER α} {D : ED E} {H H' : Heap}
theorem DeepL.mono (hl : HLe H H') : ∀ {raws : List (List Value)} {xs : List α} {cc : List Chunk}, DeepL D H raws xs cc → DeepL D H' raws xs cc
  | [], [], [], _ => trivial
  | r :: rs, x :: xs, c :: cs, h => ⟨D.mono hl h.1, DeepL.mono hl h.2⟩
  | [], [], _ :: _, h => h.elim
  | [], _ :: _, _, h => h.elim
  | _ :: _, [], _, h => h.elim
  | _ :: _, _ :: _, [], h => h.elim
theorem DeepL.snoc {r : List Value} {x : α} {c : Chunk} (hr : D.R H r x c) : ∀ {raws : List (List Value)} {xs : List α} {cc : List Chunk}, DeepL D H raws xs cc → DeepL D H (raws ++ [r]) (xs ++ [x]) (cc ++ [c])
  | [], [], [], _ => ⟨hr, trivial⟩
  | _ :: _, _ :: _, _ :: _, h => ⟨h.1, DeepL.snoc hr h.2⟩
  | [], [], _ :: _, h => h.elim
  | [], _ :: _, _, h => h.elim
  | _ :: _, [], _, h => h.elim
  | _ :: _, _ :: _, [], h => h.elim
theorem DeepL.len : ∀ {raws : List (List Value)} {xs : List α} {cc : List Chunk}, DeepL D H raws xs cc → raws.length = xs.length
  | [], [], [], _ => rfl
  | _ :: _, _ :: _, _ :: _, h => congrArg (· + 1) (DeepL.len h.2)
  | [], [], _ :: _, h => h.elim
  | [], _ :: _, _, h => h.elim
  | _ :: _, [], _, h => h.elim
  | _ :: _, _ :: _, [], h => h.elim
theorem DeepL.at : ∀ {raws : List (List Value)} {xs : List α} {cc : List Chunk} (i : Nat) {x : α}, DeepL D H raws xs cc → xs[i]? = some x → ∃ r c A B, raws[i]? = some r ∧ cc = A ++ c :: B ∧ D.R H r x c ∧
    ∀ H' r' x' c', HLe H H' → D.R H' r' x' c' → DeepL D H' (raws.set i r') (xs.set i x') (A ++ c' :: B)
  | [], [], [], i, x, _, h => by simp at h
  | r :: rs, y :: xs, c :: cs, 0, x, h, hx => by
    obtain rfl : y = x := by simpa using hx
    exact ⟨r, c, [], cs, rfl, rfl, h.1, fun H' r' x' c' hl h' => ⟨h', DeepL.mono hl h.2⟩⟩
  | r :: rs, y :: xs, c :: cs, i + 1, x, h, hx => by
    obtain ⟨r1, c1, A, B, h1, h2, h3, h4⟩ := DeepL.at i h.2 (by simpa using hx)
    exact ⟨r1, c1, c :: A, B, by simpa using h1, by rw [h2]; rfl, h3, fun H' r' x' c' hl h' => ⟨D.mono hl h.1, h4 H' r' x' c' hl h'⟩⟩
  | [], [], _ :: _, _, _, h, _ => h.elim
  | [], _ :: _, _, _, _, h, _ => h.elim
  | _ :: _, [], _, _, _, h, _ => h.elim
  | _ :: _, _ :: _, [], _, _, h, _ => h.elim
theorem Deep.nil : Deep D H [] [] [] := ⟨[], List.Perm.refl _, trivial⟩
theorem Deep.mono {raws : List (List Value)} {xs : List α} {cd : Chunk} (h : Deep D H raws xs cd) (hl : HLe H H') : Deep D H' raws xs cd := by
  obtain ⟨cc, h1, h2⟩ := h; exact ⟨cc, h1, h2.mono hl⟩
theorem Deep.len {raws : List (List Value)} {xs : List α} {cd : Chunk} (h : Deep D H raws xs cd) : raws.length = xs.length := by
  obtain ⟨cc, h1, h2⟩ := h; exact h2.len
theorem Deep.snoc {raws : List (List Value)} {xs : List α} {cd c : Chunk} {r : List Value} {x : α} (h : Deep D H raws xs cd) (hr : D.R H r x c) : Deep D H (raws ++ [r]) (xs ++ [x]) (cd ++ c) := by
  obtain ⟨cc, h1, h2⟩ := h
  refine ⟨cc ++ [c], ?_, h2.snoc hr⟩
  rw [List.flatten_append]
  simpa using h1.append_right c
theorem Deep.at {raws : List (List Value)} {xs : List α} {cd : Chunk} (h : Deep D H raws xs cd) {i : Nat} {x : α} (hx : xs[i]? = some x) : ∃ r c rest, raws[i]? = some r ∧ cd.Perm (c ++ rest) ∧ D.R H r x c ∧
    ∀ H' r' x' c', HLe H H' → D.R H' r' x' c' → Deep D H' (raws.set i r') (xs.set i x') (c' ++ rest) := by
  obtain ⟨cc, h1, h2⟩ := h
  obtain ⟨r, c, A, B, h3, rfl, h4, h5⟩ := h2.at i hx
  refine ⟨r, c, A.flatten ++ B.flatten, h3, ?_, h4, fun H' r' x' c' hl h' => ⟨A ++ c' :: B, ?_, h5 H' r' x' c' hl h'⟩⟩
  · refine h1.trans ?_
    rw [List.flatten_append, List.flatten_cons, ← List.append_assoc, ← List.append_assoc]
    exact List.perm_append_comm.append_right _
  · rw [List.flatten_append, List.flatten_cons, ← List.append_assoc, ← List.append_assoc]
    exact List.perm_append_comm.append_right _
theorem DeepL.all : ∀ {raws : List (List Value)} {xs : List α} {cc : List Chunk}, DeepL D H raws xs cc → HLe H H' → (∀ q ∈ cc.flatten, H' q.1 = some q.2) → ∀ (i : Nat) (r : List Value) (x : α), raws[i]? = some r → xs[i]? = some x → E.R H' r x
  | [], [], [], _, _, _, i, r, x, h, _ => by simp at h
  | r0 :: rs, x0 :: xs, c :: cs, h, hl, hq, i, r, x, hr, hx => by
    cases i with
    | zero =>
      obtain rfl : r0 = r := by simpa using hr
      obtain rfl : x0 = x := by simpa using hx
      exact D.read h.1 hl (fun q hm => hq q (by rw [List.flatten_cons]; exact List.mem_append_left _ hm))
    | succ i => exact DeepL.all h.2 hl (fun q hm => hq q (by rw [List.flatten_cons]; exact List.mem_append_right _ hm)) i r x (by simpa using hr) (by simpa using hx)
  | [], [], _ :: _, h, _, _, _, _, _, _, _ => h.elim
  | [], _ :: _, _, h, _, _, _, _, _, _, _ => h.elim
  | _ :: _, [], _, h, _, _, _, _, _, _, _ => h.elim
  | _ :: _, _ :: _, [], h, _, _, _, _, _, _, _ => h.elim
/-- What is shut, and what it owns, can be read. -/
theorem OwnS.deepRead {e : TypeId} {v : Value} {raws : List (List Value)} {xs : List α} {c0 cd : Chunk} (ho : OwnS (rawE E.size) e H v raws c0) (hd : Deep D H raws xs cd) (hl : HLe H H') (h0 : ∀ q ∈ c0, H' q.1 = some q.2) (h1 : ∀ q ∈ cd, H' q.1 = some q.2) : RdS E H' v xs := by
  have hr := ho.read hl h0
  obtain ⟨cc, hp, hd⟩ := hd
  have hlen := hd.len
  obtain ⟨A, cap, rfl, h2, h3, h4⟩ := hr
  refine ⟨A, cap, by rw [hlen], by omega, h3, fun i x hx => ?_⟩
  have hi : i < raws.length := by rw [hlen]; exact (List.getElem?_eq_some_iff.1 hx).1
  obtain ⟨b, o, h5, l, h6, h7⟩ := h4 i _ (List.getElem?_eq_getElem hi)
  obtain ⟨rfl, _, _⟩ := h6
  exact ⟨b, o, h5, _, hd.all hl (fun q hm => h1 q (hp.mem_iff.2 hm)) i _ x (List.getElem?_eq_getElem hi) hx, h7⟩
end
/-- A row of one's own, and what its elements own. -/
def OwnD {α : Type} {E : ER α} (D : ED E) (e : TypeId) (H : Heap) (v : Value) (xs : List α) (C : Chunk) : Prop :=
  ∃ raws c0 cd, C = c0 ++ cd ∧ OwnS (rawE E.size) e H v raws c0 ∧ Deep D H raws xs cd
section
variable {α : Type} {E : ER α} {D : ED E} {e : TypeId} {H H' : Heap} {v : Value} {xs : List α} {C : Chunk}
theorem OwnD.nil : OwnD D e H (.slice none 0 0) [] [] := ⟨[], [], [], rfl, OwnS.nil, Deep.nil⟩
theorem OwnD.mono (h : OwnD D e H v xs C) (hl : HLe H H') : OwnD D e H' v xs C := by
  obtain ⟨raws, c0, cd, h1, h2, h3⟩ := h; exact ⟨raws, c0, cd, h1, h2.mono hl, h3.mono hl⟩
theorem OwnD.shape (h : OwnD D e H v xs C) : ∃ A cap, v = .slice A xs.length cap ∧ xs.length ≤ cap ∧ cap ≤ 9223372036854775807 := by
  obtain ⟨raws, c0, cd, h1, h2, h3⟩ := h
  obtain ⟨A, cap, h4, h5, h6⟩ := h2.shape
  rw [h3.len] at h4 h5
  exact ⟨A, cap, h4, h5, h6⟩
theorem OwnD.read (h : OwnD D e H v xs C) (hl : HLe H H') (hc : ∀ q ∈ C, H' q.1 = some q.2) : RdS E H' v xs := by
  obtain ⟨raws, c0, cd, rfl, h2, h3⟩ := h
  exact h2.deepRead h3 hl (fun q hq => hc q (List.mem_append_left _ hq)) (fun q hq => hc q (List.mem_append_right _ hq))
end
section
variable {fr : Fr} {x : Cx} {Q : Post} {σ : Env} {H : Heap} {L : Own} {ds : List Nat} {ol rest : List Oper}
variable {d : Nat} {ty : TypeId} {p : String} {af : Array Edge} {g : Option (Nat × Bool)}
theorem TyE.raw {α : Type} {E : ER α} {P : Program} {t e : TypeId} {bytes : Nat} (h : TyE P t e E bytes) : TyE P t e (rawE E.size) bytes := by
  obtain ⟨h1, h2, h3⟩ := h; exact ⟨h1, h2, h3⟩
/-- An element, with what it owns, goes to the end. -/
theorem R.appD {α : Type} {E : ER α} {D : ED E} {t e : TypeId} {bytes : Nat} {S X : Operand} {v : Value} {xs : List α} {y : α} {C c : Chunk} {bl : Nat} {cells : List Value} {L1 L2 L3 : Own} (hty : TyE fr.P t e E bytes) (hw : wan fr.N ol σ d g = true)
    (hs : ev σ S = v) (hx : ev σ X = .slice (some ⟨bl, 0, none⟩) 1 1) (ho : OwnD D e H v xs C) (dC : Del L C L1) (dl : Del L1 [(bl, .cells cells.toArray e)] L2) (dc : Del L2 c L3) (hr : D.R H cells y c)
    (h63 : xs.length + 1 ≤ 4611686018427387904) (hby : (xs.length + 1) * bytes ≤ 140737488355328)
    (h : ∀ v' C', OwnD D e H v' (xs ++ [y]) C' → TL fr x ol rest Q (upd σ d v') H (C' :: L3) ds) :
    TL fr x ol (⟨some d, .call { callee := .builtin .append, args := #[S, X], argTypes := #[t, t] }, ty, p, af, g⟩ :: rest) Q σ H L ds := by
  obtain ⟨raws, c0, cd, rfl, hO, hD⟩ := ho
  have hlen := hD.len
  obtain ⟨r1, r2⟩ := D.raw hr
  have hcs : CellsOf (rawE E.size) H (cells ++ []) [cells] := k_2a ⟨rfl, r1, r2⟩ k_4d
  rw [List.append_nil] at hcs
  have hlit : OwnS (rawE E.size) e H (.slice (some ⟨bl, 0, none⟩) 1 1) [cells] [(bl, .cells cells.toArray e)] := OwnS.lit (xs := [cells]) hcs (by show 1 ≤ maxLen; decide)
  obtain ⟨k, hk1, hk2⟩ := Src.ownA hlit
  refine TL.permL (L' := c0 :: [(bl, .cells cells.toArray e)] :: (cd ++ c) :: L3) ?_ (R.app (E := rawE E.size) (xs := raws) (ys := [cells]) hty.raw hw hs hx hO .hd (hk2 _ (.tl .hd)) hk1 (by rw [hlen]; exact h63) (by rw [hlen]; exact hby) (fun v' c' hO' => ?_))
  · refine dC.perm.trans ?_
    have e1 := dl.perm.trans (dc.perm.append_left _)
    refine (e1.append_left _).trans ?_
    rw [List.flatten_cons, List.flatten_cons, List.flatten_cons, List.append_assoc, List.append_assoc]
    refine List.Perm.append_left c0 ?_
    have e2 : (cd ++ ([(bl, Obj.cells cells.toArray e)] ++ (c ++ L3.flatten))).Perm ([(bl, Obj.cells cells.toArray e)] ++ (cd ++ (c ++ L3.flatten))) := by
      exact List.perm_append_comm_assoc _ _ _
    exact e2
  · refine TL.del (.tl .hd) (TL.permL (L' := (c' ++ (cd ++ c)) :: L3) ?_ (h v' _ ⟨raws ++ [cells], c', cd ++ c, rfl, hO', hD.snoc hr⟩))
    simp
/-- One element's own, apart from the rest. -/
theorem TL.focus {C c0 cd c rst : Chunk} {R : Own} {l : List Oper} (dC : Del L C R) (hC : C = c0 ++ cd) (hp : cd.Perm (c ++ rst)) (h : TL fr x ol l Q σ H (c0 :: c :: rst :: R) ds) : TL fr x ol l Q σ H L ds := by
  refine TL.permL (L' := c0 :: c :: rst :: R) ?_ h
  refine dC.perm.trans ?_
  rw [hC]
  simp only [List.flatten_cons, List.append_assoc]
  refine List.Perm.append_left c0 ?_
  rw [← List.append_assoc c]
  exact hp.append_right _
theorem TL.unfocus {c0 c rst : Chunk} {L1 L2 L3 : Own} {l : List Oper} (d0 : Del L c0 L1) (d1 : Del L1 c L2) (d2 : Del L2 rst L3) (h : TL fr x ol l Q σ H ((c0 ++ (c ++ rst)) :: L3) ds) : TL fr x ol l Q σ H L ds := by
  refine TL.permL (L' := (c0 ++ (c ++ rst)) :: L3) ?_ h
  refine d0.perm.trans ((d1.perm.append_left _).trans ?_)
  have := (d2.perm.append_left c).append_left c0
  simpa using this
theorem set_self {α : Type} {l : List α} {i : Nat} {x : α} (h : l[i]? = some x) : l.set i x = l := by
  apply List.ext_getElem?; intro j
  by_cases e : i = j
  · subst e
    rw [List.getElem?_set_self (List.getElem?_eq_some_iff.1 h).1, h]
  · rw [List.getElem?_set_ne e]
/-- An element of an array's value, of two. -/
theorem R.idxV2 {t e : TypeId} {sz : Nat} {X I : Operand} {c0 c1 : List Value} {k : IntKind} {i : Int} (ht : fr.P.underlying t = some (.array 2 e)) (hsz : ∀ w, (sizeOf e).run fr.P w = .ok sz w) (hagg : ∀ w, (isAgg e).run fr.P w = .ok true w)
    (hw : wan fr.N ol σ d g = true) (hx : ev σ X = .agg (c0 ++ c1).toArray) (hi : ev σ I = .int k i) (l0 : c0.length = sz) (l1 : c1.length = sz) (h0 : 0 ≤ i) (h1 : i < 2)
    (h : (i = 0 → TL fr x ol rest Q (upd σ d (.agg c0.toArray)) H L ds) ∧ (¬ i = 0 → TL fr x ol rest Q (upd σ d (.agg c1.toArray)) H L ds)) : TL fr x ol (⟨some d, .index t X I, ty, p, af, g⟩ :: rest) Q σ H L ds := by
  by_cases e0 : i = 0
  · refine TL.pureE hw rfl (fun w => ?_) (h.1 e0)
    subst e0
    simp [execOp, Instr.index, asIntOf, hx, hi, run_underlying ht, part, hagg, hsz, ← l0]
  · have e1 : i = 1 := by omega
    refine TL.pureE hw rfl (fun w => ?_) (h.2 e0)
    subst e1
    have hx2 : (c0 ++ c1).toArray.extract sz (sz + sz) = c1.toArray := by
      apply Array.ext'
      rw [← l0]
      simp [l1, l0]
      exact List.take_of_length_le (by omega)
    simp [execOp, Instr.index, asIntOf, hx, hi, run_underlying ht, part, hagg, hsz]
    simpa using hx2
end
end Go.SX

set_option linter.unusedVariables false
set_option linter.unusedSimpArgs false
namespace Go.SX
open Go Go.Proofs
theorem Tryz_ty22 : TyE Tryz.prog 22 45 listedE 32 := TyE.mk' (z := .agg #[.int .u64 0, .slice none 0 0]) Tryz.underlying22 (by kernel_rfl) rfl (by decide)

theorem rows_nil : ∀ r ∈ ([] : List (Int × List Int)), r.2.length ≤ 0 := fun r h => by cases h
theorem k_c5 {x : List (Int × List Int)} {a b : Nat} (h : ∀ r ∈ x, r.2.length ≤ a) (h2 : a ≤ b) : ∀ r ∈ x, r.2.length ≤ b := fun r hr => Nat.le_trans (h r hr) h2
def listedD : ED listedE where
  R := fun H cs x c => ∃ v1, cs = [.int .u64 x.1, v1] ∧ OwnS (intE .i64) 3 H v1 x.2 c
  mono := fun hl h => by obtain ⟨v1, rfl, h0⟩ := h; exact ⟨_, rfl, h0.mono hl⟩
  read := fun h hl hq => by obtain ⟨v1, rfl, h0⟩ := h; exact ⟨_, rfl, h0.read hl hq⟩
  raw := fun h => by
    obtain ⟨v1, rfl, h0⟩ := h
    obtain ⟨_, _, rfl, _, _⟩ := h0.shape
    exact ⟨rfl, k_20 rfl⟩
theorem insert_c (H : Heap) (v : Value) (xs : List Int) (ch : Chunk) (ho : OwnS (intE .i64) 3 H v xs ch) (x : Int) (vb : Nat) (te : TypeId) (hvH : H vb = some (.cells #[.int .i64 x] te)) (i : Int) (hi : 0 ≤ i ∧ i ≤ (xs.length : Int)) (hl : xs.length ≤ 2000000) :
    Fc Tryz.prog (fnv 38) [v, .int .i64 i, .slice (some ⟨vb, 0, none⟩) 1 1] H [ch] (fun v' H' L' => ∃ c, L' = [c] ∧ OwnS (intE .i64) 3 H' v' (ins xs i.toNat x) c) := by
  obtain ⟨i, rfl⟩ : ∃ n : Nat, i = n := ⟨i.toNat, by omega⟩
  exact insert_fc Go.Proofs.Tryz.lays21 rfl Tryz.func38 rfl (by kernel_rfl) rfl ho hvH i (by omega) (by omega)
def k_68 (a0 : (List (Int × (List Int)))) (a1 : List Int) (a2 : List Int → List Int) : List Int → ((List (Int × (List Int)))) → (List (Int × (List Int)))
  | [], sl2 => sl2
  | yl2 :: ysl2, sl2 => LR.seq (k_5 a0 (((yl2, []) : Int × (List Int))) ((fun z0 z1 => k_2d z0 z1))) (fun r43 => LR.seq (if r43.2 = true then (a0.getD r43.1.toNat (((0, []) : Int × (List Int)) : Int × (List Int))).2 else [] : (List Int)) (fun sc3 => LR.seq (if yl2 ∈ a1 then (a2 sc3) else sc3 : (List Int)) (fun sc4 => if (0 : Int) < (sc4.length : Int) then (k_68 a0 a1 a2 ysl2 ((sl2 ++ [(yl2, sc4)]))) else (k_68 a0 a1 a2 ysl2 sl2))))
def k_9b  : List (Int × (List Int)) → ((List Int)) → (List Int)
  | [], sl1 => sl1
  | yl1 :: ysl1, sl1 => k_9b ysl1 ((sl1 ++ [yl1.1]))
def k_59 (a0 : (List (Int × (List Int)))) (a1 : List Int) (a2 : List Int → List Int) : ((List (Int × (List Int)))) :=
  LR.seq (k_9b a0 a1) (fun ol1 => LR.seq (k_b1 ol1) (fun r32 => LR.seq (k_68 a0 a1 a2 r32 []) (fun ol2 => ol2)))
set_option maxHeartbeats 3200000 in
theorem index_turned_c (H : Heap) (a0 : (List (Int × (List Int)))) (va0_0 : Value) (ha0_0 : RdS listedE H va0_0 a0) (va1 : Value) (a1 : List Int) (ha1 : RdS (intE .u64) H va1 a1) (fa2 : Value) (a2 : List Int → List Int) (ha2 : ∀ H', HLe H H' → ∀ (vz : Value) (z : List Int) (cz : Chunk), z.length ≤ 2000000 → OwnS (intE .i64) 3 H' vz z cz → Fc Tryz.prog fa2 [vz] H' [cz] (fun v' H'' L' => ∃ u c, v' = u ∧ L' = [c] ∧ OwnS (intE .i64) 3 H'' u (a2 z) c)) (na2 : fa2.oneCell' = true) (hn : a0.length ≤ 1000) (hr : ∀ r ∈ a0, r.2.length ≤ 1000) (hi : a1.length ≤ 1000) : Fc Tryz.prog (fnv 35) [.agg #[va0_0], va1, fa2] H [] (fun v' H' L' => ∃ u0_0 c0_0, v' = .agg #[u0_0] ∧ L' = [c0_0] ∧ OwnD listedD 45 H' u0_0 (k_59 a0 a1 a2) c0_0) := by
 refine Fc.of_body (N := 82) Tryz.func35 rfl kA rfl rfl ?_
 intro w0
 obtain ⟨Aa0_0, ca0_0, rfl, hca0_0, hda0_0, ha0_0⟩ := ha0_0.shape
 obtain ⟨Aa1, ca1, rfl, hca1, hda1, ha1⟩ := ha1.shape
 refine sR ?_
 refine R.box rfl cA ?_
 intro b3
 refine R.alloc Tryz.zeroValue24 rfl ?_
 intro b6
 refine TL.shut (.tl .hd) ?_
 intro Hb3_1 sb3_1 qb3_1
 have hb3_1 : Hb3_1 b3 = some (.cells #[.slice Aa0_0 a0.length ca0_0] 24) := shut1 qb3_1
 refine nN ?_
 refine sR ?_
 refine R.alloc Tryz.zeroValue24 rfl ?_
 intro b7
 refine nN ?_
 refine sR ?_
 refine R.mvE rfl cA ?_
 refine TL.call [] rfl rfl rfl (clone30_c _ _ a1 (ha1.mono sb3_1) bA) ?_
 intro v17 H17 L17 s17 q17
 obtain ⟨c17, rfl, w17⟩ := q17
 obtain ⟨x17, e17⟩ : ∃ x, x = a1 := ⟨_, rfl⟩
 rw [← e17] at w17
 obtain ⟨A17, p17, rfl, m17, n17⟩ := OwnS.shape w17
 have t17 : x17.length = a1.length := by rw [e17]
 refine R.asE rfl cA ?_
 refine nN ?_
 refine T.seq ?_
 refine sR ?_
 refine R.fldA Tryz.underlying24 rfl Tryz.sizeOf22 (by decide) rfl rfl ?_
 refine R.ldH Tryz.isAgg22 rfl rfl (s17 _ _ hb3_1) rfl ?_
 refine R.len Tryz.underlying22 rfl rfl ?_
 refine R.mvE rfl cA ?_
 refine nN ?_
 refine T.block ?_
 refine T.loop (ι := Nat × Value × (List Int) × Chunk) (fun ⟨kl1, v8l1, x8l1, c8l1⟩ H' L' ds' => kl1 ≤ a0.length ∧ Has L' [[(b7, .cells #[.slice none 0 0] 24)], [(b6, .cells #[.slice none 0 0] 24)], c8l1] ∧ OwnS (intE .u64) 43 H' v8l1 x8l1 c8l1 ∧ x8l1.length ≤ a1.length + kl1 ∧ k_9b (a0.drop kl1) x8l1 = k_9b a0 x17) (fun ⟨kl1, v8l1, x8l1, c8l1⟩ => [(21, .int .i64 (kl1 : Int)), (1, .slice Aa1 a1.length ca1), (2, fa2), (3, .pointer (some ⟨b3, 0, none⟩)), (6, .pointer (some ⟨b6, 0, none⟩)), (7, .pointer (some ⟨b7, 0, none⟩)), (8, v8l1), (19, .slice Aa0_0 a0.length ca0_0), (20, .int .i64 (a0.length : Int))]) (fun ⟨kl1, v8l1, x8l1, c8l1⟩ => a0.length - kl1) (0, .slice A17 x17.length p17, x17, c17) ?_ ?_ ?_
 ·exact ⟨oA, (Has.cons (.tl .hd) (Has.cons (.tl .hd) (Has.cons .hd Has.nil))), w17, bA, (by rfl)⟩
 ·exact ⟨rfl, rfl, rfl, rfl, rfl, rfl, rfl, rfl, rfl, trivial⟩
 intro ⟨kl1, v8l1, x8l1, c8l1⟩ σ_l1 H_l1 L_l1 ds_l1 s_l1 hI_l1
 obtain ⟨hkl1, hI_l1⟩ := hI_l1
 obtain ⟨hLl1, w8l1, hBl1_0, hQl1⟩ := hI_l1
 obtain ⟨A8l1, p8l1, rfl, m8l1, n8l1_⟩ := OwnS.shape w8l1
 refine T.has hLl1 ?_
 refine sR ?_
 refine R.lss rfl rfl rfl ?_
 refine nN ?_
 refine T.seq ?_
 refine T.condD rfl (fun c22 => ?_) (fun c22 => ?_)
 ·have hltl1 : kl1 < a0.length := by omega
  obtain ⟨yl1, hyl1⟩ := getk (xs := a0) (k := kl1) oA
  refine T.skip (Post.thnN ?_)
  refine T.seq ?_
  refine T.block ?_
  refine sR ?_
  obtain ⟨b23, o23, i23, k23⟩ := RdS.elem (ha0_0.mono (sb3_1.trans (s17.trans s_l1))) hyl1
  obtain ⟨l23, g23, k23⟩ := k23
  obtain ⟨z23_1, rfl, r23_1⟩ := g23
  obtain ⟨A23_1, p23_1, rfl, m23_1, n23_1, r23_1⟩ := r23_1.shape
  refine R.ixp Tryz.underlying22 Tryz.sizeOf45 rfl rfl rfl oA i23 ?_
  refine R.ldK (l := [.int .u64 (yl1.1), .slice A23_1 yl1.2.length p23_1]) Tryz.isAgg45 Tryz.sizeOf45 rfl rfl k23 rfl ?_
  refine R.alloc Tryz.zeroValue45 rfl ?_
  intro b10
  refine R.stX (old := [.int .u64 0, .slice none 0 0]) (l := [.int .u64 (yl1.1), .slice A23_1 yl1.2.length p23_1]) (new := [.int .u64 (yl1.1), .slice A23_1 yl1.2.length p23_1]) (et := 45) Tryz.sizeOf45 rfl rfl rfl rfl rfl (by show 0 + 2 ≤ 2; decide) rfl (k_20 rfl) .hd ?_
  refine TL.shut .hd ?_
  intro Hb10_2 sb10_2 qb10_2
  have hb10_2 : Hb10_2 b10 = some (.cells #[.int .u64 (yl1.1), .slice A23_1 yl1.2.length p23_1] 45) := shut1 qb10_2
  refine nN ?_
  refine T.region ?_
  refine R.mvE rfl cA ?_
  refine R.fldA Tryz.underlying45 rfl Tryz.sizeOf43 (by decide) rfl rfl ?_
  refine R.ldH Tryz.isAgg43 rfl rfl hb10_2 rfl ?_
  refine R.bs rfl (k_3f Tryz.underlying30 Tryz.sizeOf43 Tryz.zeroValue43 rfl rfl) ?_
  intro b28
  have w28 : OwnS (intE .u64) 43 Hb10_2 (.slice (some ⟨b28, 0, none⟩) 1 1) [yl1.1] [(b28, .cells #[.int .u64 (yl1.1)] 43)] := OwnS.lit (xs := [yl1.1]) (k_2a (a := [.int .u64 (yl1.1)]) rfl k_4d) (by show 1 ≤ maxLen; decide)
  obtain ⟨k29, y29, r29⟩ := Src.ownA w28
  refine R.app (E := (intE .u64)) (e := 43) (xs := x8l1) (ys := [yl1.1]) k_b3 rfl rfl rfl (OwnS.mono w8l1 sb10_2) (.tl (.tl (.tl .hd))) (r29 _ .hd) y29 (by (try simp only [List.length_append, List.length_cons, List.length_nil, List.length_replicate, List.length_take, List.length_drop]); omega) (by (try simp only [List.length_append, List.length_cons, List.length_nil, List.length_replicate, List.length_take, List.length_drop]); omega) ?_
  intro v29 c29 w29
  obtain ⟨A29, p29, rfl, m29, n29⟩ := OwnS.shape w29
  refine TL.del (.tl .hd) ?_
  refine R.asE rfl cA ?_
  refine TL.nil (Post.blkN ?_)
  refine id (Post.thnN ?_)
  refine T.region ?_
  refine R.addI rfl rfl rfl oA ?_
  refine R.mvE rfl cA ?_
  refine nN ?_
  exact ⟨(kl1 + 1, .slice A29 (x8l1 ++ [yl1.1]).length p29, (x8l1 ++ [yl1.1]), c29), (s_l1.trans sb10_2), ⟨oA, (Has.cons (.tl .hd) (Has.cons (.tl .hd) (Has.cons .hd Has.nil))), w29, bA, (by rw [← hQl1, k_16 hyl1, k_9b])⟩, by show a0.length - (kl1 + 1) < a0.length - kl1; omega, rfl, rfl, rfl, rfl, rfl, rfl, rfl, rfl, rfl, trivial⟩
 refine T.exit (Post.thnE (Post.thnE (Post.blkX ?_)))
 have hEl1 : k_9b a0 x17 = x8l1 := (hQl1.symm.trans (by rw [show kl1 = a0.length by omega, List.drop_length, k_9b]))
 refine id (Post.thnN ?_)
 refine T.seq ?_
 refine sR ?_
 refine R.mvE rfl cA ?_
 refine TL.has (Has.cons (.tl (.tl .hd)) (Has.cons .hd (Has.cons .hd Has.nil))) ?_
 obtain ⟨r32, er32⟩ : ∃ r, r = (k_b1 x8l1) := ⟨_, rfl⟩
 refine TL.call [true] rfl rfl rfl (index_once_c _ _ x8l1 _ w8l1 bA) ?_
 intro v32 H32 L32 s32 q32
 rw [← er32] at q32
 obtain ⟨u32_0_0, c32_0_0, rfl, rfl, w32_0_0⟩ := q32
 obtain ⟨A32_0_0, p32_0_0, rfl, m32_0_0, n32_0_0⟩ := OwnS.shape w32_0_0
 have to32 := once_len _ _ er32
 refine R.len Tryz.underlying30 rfl rfl ?_
 refine R.mvE rfl cA ?_
 refine nN ?_
 refine T.block ?_
 refine T.shut .hd ?_
 intro HF32_0_0_3 sF32_0_0_3 qF32_0_0_3
 have fF32_0_0_3 := OwnS.read w32_0_0 sF32_0_0_3 qF32_0_0_3
 refine T.loop (ι := Nat × Value × (List (Int × (List Int))) × Chunk) (fun ⟨kl2, vb7l2_0, xb7l2_0, cb7l2_0⟩ H' L' ds' => kl2 ≤ r32.length ∧ Has L' [[(b7, .cells #[vb7l2_0] 24)], [(b6, .cells #[.slice none 0 0] 24)], cb7l2_0] ∧ OwnD listedD 45 H' vb7l2_0 xb7l2_0 cb7l2_0 ∧ xb7l2_0.length ≤ kl2 ∧ k_68 a0 a1 a2 (r32.drop kl2) xb7l2_0 = k_68 a0 a1 a2 r32 []) (fun ⟨kl2, vb7l2_0, xb7l2_0, cb7l2_0⟩ => [(34, .int .i64 (kl2 : Int)), (1, .slice Aa1 a1.length ca1), (2, fa2), (3, .pointer (some ⟨b3, 0, none⟩)), (6, .pointer (some ⟨b6, 0, none⟩)), (7, .pointer (some ⟨b7, 0, none⟩)), (32, .slice A32_0_0 r32.length p32_0_0), (33, .int .i64 (r32.length : Int))]) (fun ⟨kl2, vb7l2_0, xb7l2_0, cb7l2_0⟩ => r32.length - kl2) (0, .slice none 0 0, [], []) ?_ ?_ ?_
 ·exact ⟨oA, (Has.cons .hd (Has.cons .hd (Has.none Has.nil))), OwnD.nil, bA, (by rfl)⟩
 ·exact ⟨rfl, rfl, rfl, rfl, rfl, rfl, rfl, rfl, trivial⟩
 intro ⟨kl2, vb7l2_0, xb7l2_0, cb7l2_0⟩ σ_l2 H_l2 L_l2 ds_l2 s_l2 hI_l2
 obtain ⟨hkl2, hI_l2⟩ := hI_l2
 obtain ⟨hLl2, wb7l2_0, hBl2_0, hQl2⟩ := hI_l2
 obtain ⟨Ab7l2_0, pb7l2_0, rfl, mb7l2_0, nb7l2_0_⟩ := OwnD.shape wb7l2_0
 refine T.has hLl2 ?_
 refine sR ?_
 refine R.lss rfl rfl rfl ?_
 refine nN ?_
 refine T.seq ?_
 refine T.condD rfl (fun c35 => ?_) (fun c35 => ?_)
 ·have hltl2 : kl2 < r32.length := by omega
  obtain ⟨yl2, hyl2⟩ := getk (xs := r32) (k := kl2) oA
  refine T.skip (Post.thnN ?_)
  refine T.seq ?_
  refine T.block ?_
  refine sR ?_
  obtain ⟨b36, o36, i36, k36⟩ := RdS.elem (fF32_0_0_3.mono s_l2) hyl2
  obtain ⟨l36, g36, k36⟩ := k36
  obtain rfl : l36 = [.int .u64 yl2] := g36
  refine R.ixp Tryz.underlying30 Tryz.sizeOf43 rfl rfl rfl oA i36 ?_
  refine R.ldC Tryz.isAgg43 rfl rfl (k36 0 _ rfl) ?_
  refine R.asE rfl cA ?_
  refine nN ?_
  refine sR ?_
  refine R.asE rfl cA ?_
  refine nN ?_
  refine T.seq ?_
  refine sR ?_
  refine R.fldA Tryz.underlying24 rfl Tryz.sizeOf22 (by decide) rfl rfl ?_
  refine R.ldH Tryz.isAgg22 rfl rfl ((s17.trans (s_l1.trans (s32.trans (sF32_0_0_3.trans s_l2)))) _ _ hb3_1) rfl ?_
  refine R.mvE rfl cA ?_
  refine R.bld (cs := [.int .u64 yl2, .slice none 0 0]) rfl (fun _ => by kernel_rfl) ?_
  obtain ⟨r43, er43⟩ : ∃ r, r = (k_5 a0 (((yl2, []) : Int × (List Int))) ((fun z0 z1 => k_2d z0 z1))) := ⟨_, rfl⟩
  refine R.callv (v := .tuple #[.int .i64 r43.1, .bool r43.2]) rfl rfl rfl (by rw [er43]; exact k_b7 _ _ a0 (ha0_0.mono (sb3_1.trans (s17.trans (s_l1.trans (s32.trans (sF32_0_0_3.trans s_l2)))))) (((yl2, []) : Int × (List Int))) _ RdS.nil _ (fun z0 z1 => k_2d z0 z1) (fun H2 h2 z0 vz0_1 hz0_1 z1 vz1_1 hz1_1 => index_compare_c H2 z0 vz0_1 hz0_1 z1 vz1_1 hz1_1) rfl bA) ?_
  have tb43 := bf_rng _ _ _ _ er43 (by first | omega | simp)
  refine R.mvE rfl cA ?_
  refine R.ext rfl rfl rfl ?_
  refine R.ext rfl rfl rfl ?_
  refine R.asE rfl cA ?_
  refine R.asE rfl cA ?_
  refine nN ?_
  refine sR ?_
  refine R.mvE rfl cA ?_
  refine nN ?_
  refine T.cutK (ι := Value × (List Int) × Chunk) (fun ⟨v13c3, x13c3, c13c3⟩ H' L' ds' => Has L' [[(b7, .cells #[.slice Ab7l2_0 xb7l2_0.length pb7l2_0] 24)], [(b6, .cells #[.slice none 0 0] 24)], cb7l2_0, c13c3] ∧ OwnS (intE .i64) 3 H' v13c3 x13c3 c13c3 ∧ x13c3.length ≤ 1000 ∧ (if r43.2 = true then (a0.getD r43.1.toNat (((0, []) : Int × (List Int)) : Int × (List Int))).2 else [] : (List Int)) = x13c3) (fun ⟨v13c3, x13c3, c13c3⟩ => [(1, .slice Aa1 a1.length ca1), (2, fa2), (3, .pointer (some ⟨b3, 0, none⟩)), (6, .pointer (some ⟨b6, 0, none⟩)), (7, .pointer (some ⟨b7, 0, none⟩)), (12, .int .u64 yl2), (13, v13c3), (32, .slice A32_0_0 r32.length p32_0_0), (33, .int .i64 (r32.length : Int)), (34, .int .i64 (kl2 : Int))]) ?_ ?_
  ·refine T.cond rfl (fun c46 => ?_) (fun c46 => ?_)
   ·refine T.set 46 (.bool true) (congrArg Value.bool c46) ?_
    refine T.seq ?_
    have tq := tb43.2.2 (by simpa using c46)
    refine T.region ?_
    refine R.fldA Tryz.underlying24 rfl Tryz.sizeOf22 (by decide) rfl rfl ?_
    refine R.ldH Tryz.isAgg22 rfl rfl ((s17.trans (s_l1.trans (s32.trans (sF32_0_0_3.trans s_l2)))) _ _ hb3_1) rfl ?_
    refine R.mvE rfl cA ?_
    have hl50 : r43.1.toNat < a0.length := bA
    obtain ⟨y50, e50, h50⟩ : ∃ y, y = (a0.getD r43.1.toNat (((0, []) : Int × (List Int)) : Int × (List Int))) ∧ a0[r43.1.toNat]? = some y := ⟨_, rfl, k_6 (by first | exact hl50 | simpa using hl50 | (simp only [List.length_set]; omega) | omega | (rw [(k_1 _).length_eq]; exact hl50))⟩
    obtain ⟨b50, o50, i50, k50⟩ := RdS.elem (ha0_0.mono (sb3_1.trans (s17.trans (s_l1.trans (s32.trans (sF32_0_0_3.trans s_l2)))))) h50
    obtain ⟨l50, g50, k50⟩ := k50
    obtain ⟨z50_1, rfl, r50_1⟩ := g50
    obtain ⟨A50_1, p50_1, rfl, m50_1, n50_1, r50_1⟩ := r50_1.shape
    have tr50 := hr y50 (List.mem_of_getElem? h50)
    refine R.ixp Tryz.underlying22 Tryz.sizeOf45 rfl rfl rfl bA i50 ?_
    refine R.fldA Tryz.underlying45 rfl Tryz.sizeOf25 (by decide) rfl rfl ?_
    refine R.ldC Tryz.isAgg25 rfl rfl (k50 1 _ rfl) ?_
    refine R.len Tryz.underlying25 rfl rfl ?_
    refine R.mks (E := (intE .i64)) (q := y50.2.length) (z0 := ((0 : Int))) (zc := [.int .i64 0]) Tryz_ty25 (zcells_of (z := .int .i64 0) kA) (fun _ => rfl) rfl rfl rfl oA oA ?_
    intro v54 c54 w54
    obtain ⟨A54, p54, rfl, m54, n54⟩ := w54.shape
    refine R.asE rfl cA ?_
    refine nN ?_
    refine T.region ?_
    refine R.mvE rfl cA ?_
    refine R.fldA Tryz.underlying24 rfl Tryz.sizeOf22 (by decide) rfl rfl ?_
    refine R.ldH Tryz.isAgg22 rfl rfl ((s17.trans (s_l1.trans (s32.trans (sF32_0_0_3.trans s_l2)))) _ _ hb3_1) rfl ?_
    refine R.mvE rfl cA ?_
    have hl59 : r43.1.toNat < a0.length := bA
    obtain ⟨y59, e59, h59⟩ : ∃ y, y = (a0.getD r43.1.toNat (((0, []) : Int × (List Int)) : Int × (List Int))) ∧ a0[r43.1.toNat]? = some y := ⟨_, rfl, k_6 (by first | exact hl59 | simpa using hl59 | (simp only [List.length_set]; omega) | omega | (rw [(k_1 _).length_eq]; exact hl59))⟩
    obtain ⟨b59, o59, i59, k59⟩ := RdS.elem (ha0_0.mono (sb3_1.trans (s17.trans (s_l1.trans (s32.trans (sF32_0_0_3.trans s_l2)))))) h59
    obtain ⟨l59, g59, k59⟩ := k59
    obtain ⟨z59_1, rfl, r59_1⟩ := g59
    obtain ⟨A59_1, p59_1, rfl, m59_1, n59_1, r59_1⟩ := r59_1.shape
    have tr59 := hr y59 (List.mem_of_getElem? h59)
    have tl59 : y59.2.length = y50.2.length := by rw [e59, e50]
    refine R.ixp Tryz.underlying22 Tryz.sizeOf45 rfl rfl rfl bA i59 ?_
    refine R.fldA Tryz.underlying45 rfl Tryz.sizeOf25 (by decide) rfl rfl ?_
    refine R.ldC Tryz.isAgg25 rfl rfl (k59 1 _ rfl) ?_
    obtain ⟨k62, y62, r62⟩ := Src.rdA r59_1
    refine R.copyD (v := (.slice A54 (List.replicate y50.2.length ((0 : Int))).length p54)) Tryz_ty25 rfl rfl rfl w54 .hd (r62 _) y62 (by first | (simp; done) | (simp; omega)) ?_
    intro cm541 wm541
    refine nN ?_
    exact ⟨(.slice A54 (List.replicate y50.2.length ((0 : Int))).length p54, y59.2, cm541), HLe.refl _, ⟨(Has.cons (.tl .hd) (Has.cons (.tl .hd) (Has.cons (.tl .hd) (Has.cons .hd Has.nil)))), wm541, bA, (by subst e59; subst e50; rw [if_t c46])⟩, rfl, rfl, rfl, rfl, rfl, rfl, rfl, rfl, rfl, rfl, trivial⟩
   refine T.set 46 (.bool false) (congrArg Value.bool c46) ?_
   refine T.skip (Post.thnN ?_)
   exact ⟨(.slice none 0 0, [], []), HLe.refl _, ⟨(Has.cons .hd (Has.cons .hd (Has.cons .hd (Has.none Has.nil)))), OwnS.nil, bA, (by rw [if_f c46])⟩, rfl, rfl, rfl, rfl, rfl, rfl, rfl, rfl, rfl, rfl, trivial⟩
  intro ⟨v13c3, x13c3, c13c3⟩ σ_c3 H_c3 L_c3 ds_c3 s_c3 hI_c3
  obtain ⟨hLc3, w13c3, hBc3_0, hTc3⟩ := hI_c3
  obtain ⟨A13c3, p13c3, rfl, m13c3, n13c3_⟩ := OwnS.shape w13c3
  refine T.has hLc3 ?_
  refine T.seq ?_
  refine sR ?_
  refine R.mvE rfl cA ?_
  refine R.mvE rfl cA ?_
  refine R.callv rfl rfl rfl (slices_Contains_Id_d _ _ a1 (ha1.mono (sb3_1.trans (s17.trans (s_l1.trans (s32.trans (sF32_0_0_3.trans (s_l2.trans s_c3))))))) yl2) ?_
  refine nN ?_
  refine T.cutK (ι := Value × (List Int) × Chunk) (fun ⟨v13c4, x13c4, c13c4⟩ H' L' ds' => Has L' [[(b7, .cells #[.slice Ab7l2_0 xb7l2_0.length pb7l2_0] 24)], [(b6, .cells #[.slice none 0 0] 24)], cb7l2_0, c13c4] ∧ OwnS (intE .i64) 3 H' v13c4 x13c4 c13c4 ∧ (if yl2 ∈ a1 then (a2 x13c3) else x13c3 : (List Int)) = x13c4) (fun ⟨v13c4, x13c4, c13c4⟩ => [(1, .slice Aa1 a1.length ca1), (2, fa2), (3, .pointer (some ⟨b3, 0, none⟩)), (6, .pointer (some ⟨b6, 0, none⟩)), (7, .pointer (some ⟨b7, 0, none⟩)), (12, .int .u64 yl2), (13, v13c4), (32, .slice A32_0_0 r32.length p32_0_0), (33, .int .i64 (r32.length : Int)), (34, .int .i64 (kl2 : Int))]) ?_ ?_
  ·refine T.condD rfl (fun c65 => ?_) (fun c65 => ?_)
   ·refine T.set 65 (.bool true) (congrArg Value.bool (decide_eq_true c65)) ?_
    refine T.region ?_
    refine R.mvE rfl cA ?_
    refine R.mvE rfl cA ?_
    refine TL.call [false, false, false, true] rfl rfl rfl (ha2 _ (sb3_1.trans (s17.trans (s_l1.trans (s32.trans (sF32_0_0_3.trans (s_l2.trans s_c3)))))) _ _ _ bA w13c3) ?_
    intro v68 H68 L68 s68 q68
    obtain ⟨u68, c68, hv68, hc68, w68⟩ := q68
    subst hv68; subst hc68
    obtain ⟨x68, e68⟩ : ∃ x, x = (a2 x13c3) := ⟨_, rfl⟩
    rw [← e68] at w68
    obtain ⟨A68, p68, rfl, m68, n68⟩ := OwnS.shape w68
    refine R.asE rfl cA ?_
    refine nN ?_
    exact ⟨(.slice A68 x68.length p68, x68, c68), s68, ⟨(Has.cons (.tl .hd) (Has.cons (.tl .hd) (Has.cons (.tl .hd) (Has.cons .hd Has.nil)))), w68, (by subst e68; rw [if_pos c65])⟩, rfl, rfl, rfl, rfl, rfl, rfl, rfl, rfl, rfl, rfl, trivial⟩
   refine T.set 65 (.bool false) (congrArg Value.bool (decide_eq_false c65)) ?_
   refine T.skip (Post.thnN ?_)
   exact ⟨(.slice A13c3 x13c3.length p13c3, x13c3, c13c3), HLe.refl _, ⟨(Has.cons .hd (Has.cons .hd (Has.cons .hd (Has.cons .hd Has.nil)))), w13c3, (by rw [if_neg c65])⟩, rfl, rfl, rfl, rfl, rfl, rfl, rfl, rfl, rfl, rfl, trivial⟩
  intro ⟨v13c4, x13c4, c13c4⟩ σ_c4 H_c4 L_c4 ds_c4 s_c4 hI_c4
  obtain ⟨hLc4, w13c4, hTc4⟩ := hI_c4
  obtain ⟨A13c4, p13c4, rfl, m13c4, n13c4_⟩ := OwnS.shape w13c4
  refine T.has hLc4 ?_
  refine sR ?_
  refine R.mvE rfl cA ?_
  refine R.len Tryz.underlying25 rfl rfl ?_
  refine R.gtr rfl rfl rfl ?_
  refine nN ?_
  refine T.condD rfl (fun c71 => ?_) (fun c71 => ?_)
  ·refine T.set 71 (.bool true) (congrArg Value.bool (decide_eq_true c71)) ?_
   refine T.region ?_
   refine R.fldA Tryz.underlying24 rfl Tryz.sizeOf22 (by decide) rfl rfl ?_
   refine R.ld Tryz.isAgg22 rfl rfl .hd rfl ?_
   refine R.mvE rfl cA ?_
   refine R.mvE rfl cA ?_
   refine R.bld (cs := [.int .u64 yl2, .slice A13c4 x13c4.length p13c4]) rfl (fun _ => by kernel_rfl) ?_
   refine R.bs (e := 45) (cs := [.int .u64 yl2, .slice A13c4 x13c4.length p13c4]) rfl (fun _ => by kernel_rfl) ?_
   intro b77
   refine R.appD (D := listedD) (xs := xb7l2_0) (y := (yl2, x13c4)) (cells := [.int .u64 yl2, .slice A13c4 x13c4.length p13c4]) Tryz_ty22 rfl rfl rfl (OwnD.mono wb7l2_0 (s_c3.trans s_c4)) (.tl (.tl (.tl .hd))) .hd (.tl (.tl .hd)) ⟨_, rfl, w13c4⟩ (by (try simp only [List.length_append, List.length_cons, List.length_nil]); omega) (by (try simp only [List.length_append, List.length_cons, List.length_nil]); omega) ?_
   intro v78 c78 w78
   obtain ⟨A78, p78, rfl, m78, n78⟩ := OwnD.shape w78
   refine R.fldA Tryz.underlying24 rfl Tryz.sizeOf22 (by decide) rfl rfl ?_
   refine R.stX (old := [.slice Ab7l2_0 xb7l2_0.length pb7l2_0]) (l := [.slice A78 (xb7l2_0 ++ [(yl2, x13c4)]).length p78]) (new := [.slice A78 (xb7l2_0 ++ [(yl2, x13c4)]).length p78]) (et := 24) Tryz.sizeOf22 rfl rfl rfl (cells1 rfl) rfl (by show 0 + 1 ≤ 1; decide) rfl (k_20 rfl) (.tl .hd) ?_
   refine TL.nil (Post.blkN ?_)
   refine id (Post.thnN ?_)
   refine T.region ?_
   refine R.addI rfl rfl rfl oA ?_
   refine R.mvE rfl cA ?_
   refine nN ?_
   exact ⟨(kl2 + 1, .slice A78 (xb7l2_0 ++ [(yl2, x13c4)]).length p78, (xb7l2_0 ++ [(yl2, x13c4)]), c78), (s_l2.trans (s_c3.trans s_c4)), ⟨oA, (Has.cons (.tl .hd) (Has.cons (.tl .hd) (Has.cons .hd Has.nil))), w78, bA, (by subst er43; rw [← hQl2, k_16 hyl2, k_68]; rw [LR.seq_go, hTc3, LR.seq_go, hTc4, LR.seq_go, if_pos c71])⟩, by show r32.length - (kl2 + 1) < r32.length - kl2; omega, rfl, rfl, rfl, rfl, rfl, rfl, rfl, rfl, trivial⟩
  refine T.set 71 (.bool false) (congrArg Value.bool (decide_eq_false c71)) ?_
  refine T.skip (Post.blkN ?_)
  refine id (Post.thnN ?_)
  refine T.region ?_
  refine R.addI rfl rfl rfl oA ?_
  refine R.mvE rfl cA ?_
  refine nN ?_
  exact ⟨(kl2 + 1, .slice Ab7l2_0 xb7l2_0.length pb7l2_0, xb7l2_0, cb7l2_0), (s_l2.trans (s_c3.trans s_c4)), ⟨oA, (Has.cons .hd (Has.cons .hd (Has.cons .hd Has.nil))), (OwnD.mono wb7l2_0 (s_c3.trans s_c4)), bA, (by subst er43; rw [← hQl2, k_16 hyl2, k_68]; rw [LR.seq_go, hTc3, LR.seq_go, hTc4, LR.seq_go, if_neg c71])⟩, by show r32.length - (kl2 + 1) < r32.length - kl2; omega, rfl, rfl, rfl, rfl, rfl, rfl, rfl, rfl, trivial⟩
 refine T.exit (Post.thnE (Post.thnE (Post.blkX ?_)))
 have hEl2 : k_68 a0 a1 a2 r32 [] = xb7l2_0 := (hQl2.symm.trans (by rw [show kl2 = r32.length by omega, List.drop_length, k_68]))
 refine id (Post.thnN ?_)
 refine sR ?_
 refine R.ldX (cs := [.slice Ab7l2_0 xb7l2_0.length pb7l2_0]) (l := [.slice Ab7l2_0 xb7l2_0.length pb7l2_0]) Tryz.isAgg24 Tryz.sizeOf24 rfl rfl .hd rfl rfl ?_
 refine R.stX (old := [.slice none 0 0]) (l := [.slice Ab7l2_0 xb7l2_0.length pb7l2_0]) (new := [.slice Ab7l2_0 xb7l2_0.length pb7l2_0]) (et := 24) Tryz.sizeOf24 rfl rfl rfl rfl rfl (by show 0 + 1 ≤ 1; decide) rfl (k_20 rfl) (.tl .hd) ?_
 refine nN ?_
 refine T.has (Has.cons (.tl (.tl .hd)) (Has.cons (.tl .hd) Has.nil)) ?_
 refine T.ret ?_
 have hM : k_59 a0 a1 a2 = xb7l2_0 := by subst er32; subst e17; rw [k_59, hEl1, LR.seq_go, LR.seq_go, hEl2, LR.seq_go]
 exact finR1 (v := .agg #[.slice Ab7l2_0 xb7l2_0.length pb7l2_0]) [cb7l2_0] rfl (.cellA (cs := [.slice Ab7l2_0 xb7l2_0.length pb7l2_0]) (l := [.slice Ab7l2_0 xb7l2_0.length pb7l2_0]) Tryz.isAgg24 Tryz.sizeOf24 rfl (.tl .hd) rfl rfl) (List.sublist_append_left ([cb7l2_0] : Own) _) ⟨.slice Ab7l2_0 xb7l2_0.length pb7l2_0, cb7l2_0, by first | rw [hM] | rfl, rfl, by rw [hM]; exact wb7l2_0⟩
def k_99 (q0 : Int) (a0 : List Int) : (List Int) :=
  LR.seq (k_1d a0 q0) (fun r9 => (ins a0 r9.1.toNat q0))
set_option maxHeartbeats 3200000 in
theorem index_Put_1_c (H : Heap) (b1000 : Nat) (q0 : Int) (hb0 : H b1000 = some (.cells #[.int .i64 q0] 3)) (va0 : Value) (a0 : List Int) (Ca0 : Chunk) (ha0 : OwnS (intE .i64) 3 H va0 a0 Ca0) (hl : a0.length ≤ 2000000) : Fc Tryz.prog (.func (.func 36) #[] ([.pointer (some ⟨b1000, 0, none⟩)] : List Value).toArray) [va0] H [Ca0] (fun v' H' L' => ∃ u0_0 c0_0, v' = u0_0 ∧ L' = [c0_0] ∧ OwnS (intE .i64) 3 H' u0_0 (k_99 q0 a0) c0_0) := by
 refine Fc.of_body (N := 17) Tryz.func36 rfl kA rfl rfl ?_
 intro w0
 obtain ⟨Aa0, pa0, rfl, ma0, na0⟩ := OwnS.shape ha0
 refine sR ?_
 refine R.asE rfl cA ?_
 refine nN ?_
 refine sR ?_
 refine R.mvE rfl cA ?_
 refine R.ldH Tryz.isAgg3 rfl rfl hb0 rfl ?_
 obtain ⟨r9, er9⟩ : ∃ r, r = (k_1d a0 q0) := ⟨_, rfl⟩
 refine R.callvB (v := .tuple #[.int .i64 r9.1, .bool r9.2]) rfl rfl rfl (fun HB9 sB9 qB9 => by have fB9_0 := OwnS.read ha0 sB9 (In.all .hd qB9); exact (by rw [er9]; exact slices_BinarySearch_int_c _ _ a0 fB9_0 (q0) bA)) ?_
 have tb9 := bsi_rng _ _ _ er9 bA
 refine R.mvE rfl cA ?_
 refine R.ext rfl rfl rfl ?_
 refine R.ext rfl rfl rfl ?_
 refine R.asE rfl cA ?_
 refine R.asE rfl cA ?_
 refine nN ?_
 refine sR ?_
 refine R.mvE rfl cA ?_
 refine R.mvE rfl cA ?_
 refine R.ldH Tryz.isAgg3 rfl rfl hb0 rfl ?_
 refine R.bs rfl (k_3f Tryz.underlying25 Tryz.sizeOf3 Tryz.zeroValue3 rfl rfl) ?_
 intro b15
 have w15 : OwnS (intE .i64) 3 H (.slice (some ⟨b15, 0, none⟩) 1 1) [q0] [(b15, .cells #[.int .i64 q0] 3)] := OwnS.lit (xs := [q0]) (k_2a (a := [.int .i64 q0]) rfl k_4d) (by show 1 ≤ maxLen; decide)
 refine TL.shut .hd ?_
 intro HF15_1 sF15_1 qF15_1
 have fF15_1 := OwnS.read w15 sF15_1 qF15_1
 refine TL.call [true] rfl rfl rfl (insert_c _ _ a0 _ (OwnS.mono ha0 sF15_1) (q0) _ _ (shut1 qF15_1) (r9.1) bA bA) ?_
 intro v16 H16 L16 s16 q16
 obtain ⟨c16, rfl, w16⟩ := q16
 obtain ⟨x16, e16⟩ : ∃ x, x = (ins a0 r9.1.toNat q0) := ⟨_, rfl⟩
 rw [← e16] at w16
 obtain ⟨A16, p16, rfl, m16, n16⟩ := OwnS.shape w16
 refine R.asE rfl cA ?_
 refine nN ?_
 refine T.has (Has.cons .hd Has.nil) ?_
 refine T.ret ?_
 have hM : k_99 q0 a0 = x16 := by subst e16; subst er9; rw [k_99, LR.seq_go]
 exact fin1L (v := .slice A16 x16.length p16) [c16] rfl rfl (List.Sublist.refl _) ⟨.slice A16 x16.length p16, c16, by first | rw [hM] | rfl, rfl, by rw [hM]; exact w16⟩
def k_6b (a0 : (List (Int × (List Int)))) (a1 : Int) (a2 : List Int) : ((List (Int × (List Int)))) × Int :=
  if ((k_7c a0) : Int) ≠ 0 then ((([] : (List (Int × (List Int)))), 240)) else (if (!(k_87 a1)) = true then ((([] : (List (Int × (List Int)))), 2)) else (if ((k_2e a2) : Int) ≠ 0 then ((([] : (List (Int × (List Int)))), 130)) else (LR.seq (k_b9 a0 a1) (fun r26 => if (0 : Int) < (r26.length : Int) then ((([] : (List (Int × (List Int)))), 5)) else (LR.seq (k_44 a2) (fun r32 => LR.seq (k_59 a0 r32 ((fun z => k_99 a1 z))) (fun r34 => (r34, 0))))))))
set_option maxHeartbeats 3200000 in
theorem index_Put_c (H : Heap) (a0 : (List (Int × (List Int)))) (va0_0 : Value) (ha0_0 : RdS listedE H va0_0 a0) (a1 : Int) (va2 : Value) (a2 : List Int) (ha2 : RdS (intE .u64) H va2 a2) (hn : a0.length ≤ 1000) (hr : ∀ r ∈ a0, r.2.length ≤ 1000) : Fc Tryz.prog (fnv 10) [.agg #[va0_0], .int .i64 a1, va2] H [] (fun v' H' L' => ∃ u0_0 c0_0, v' = .tuple #[.agg #[u0_0], .int .i64 (k_6b a0 a1 a2).2] ∧ L' = [c0_0] ∧ OwnD listedD 45 H' u0_0 (k_6b a0 a1 a2).1 c0_0) := by
 refine Fc.of_body (N := 35) Tryz.func10 rfl kA rfl rfl ?_
 intro w0
 obtain ⟨Aa0_0, ca0_0, rfl, hca0_0, hda0_0, ha0_0⟩ := ha0_0.shape
 obtain ⟨Aa2, ca2, rfl, hca2, hda2, ha2⟩ := ha2.shape
 refine sR ?_
 refine R.box rfl cA ?_
 intro b3
 refine R.box rfl cA ?_
 intro b4
 refine R.alloc Tryz.zeroValue24 rfl ?_
 intro b6
 refine R.asE rfl cA ?_
 refine TL.shut (.tl .hd) ?_
 intro Hb4_1 sb4_1 qb4_1
 have hb4_1 : Hb4_1 b4 = some (.cells #[.int .i64 a1] 3) := shut1 qb4_1
 refine TL.shut (.tl .hd) ?_
 intro Hb3_2 sb3_2 qb3_2
 have hb3_2 : Hb3_2 b3 = some (.cells #[.slice Aa0_0 a0.length ca0_0] 24) := shut1 qb3_2
 refine nN ?_
 refine T.seq ?_
 refine T.block ?_
 refine sR ?_
 refine R.ldXH (cs := [.slice Aa0_0 a0.length ca0_0]) (l := [.slice Aa0_0 a0.length ca0_0]) Tryz.isAgg24 Tryz.sizeOf24 rfl rfl hb3_2 rfl rfl ?_
 refine R.callv rfl rfl rfl (index_Check_c _ a0 _ (ha0_0.mono (sb4_1.trans sb3_2)) (by first | omega | assumption | (simp; done) | (simp; omega) | (simp at *; omega)) (by first | assumption | exact k_c5 (by assumption) oA | (intro r h; simp at h; done))) ?_
 refine R.neq rfl rfl rfl ?_
 refine R.asE rfl cA ?_
 refine nN ?_
 refine T.condD rfl (fun c8 => ?_) (fun c8 => ?_)
 ·refine T.set 8 (.bool true) (congrArg Value.bool (decide_eq_true c8)) ?_
  refine sR ?_
  refine R.bld (cs := [.slice none 0 0]) rfl (fun _ => by kernel_rfl) ?_
  refine R.stX (old := [.slice none 0 0]) (l := [.slice none 0 0]) (new := [.slice none 0 0]) (et := 24) Tryz.sizeOf24 rfl rfl rfl rfl rfl (by show 0 + 1 ≤ 1; decide) rfl (k_20 rfl) .hd ?_
  refine R.asE rfl cA ?_
  refine nN ?_
  refine T.has (Has.none (Has.cons .hd Has.nil)) ?_
  refine T.ret (Post.blkR (Post.thnR ?_))
  have hM : k_6b a0 a1 a2 = (([] : (List (Int × (List Int)))), 240) := by rw [k_6b, if_pos c8]
  exact finR2 (v := .agg #[.slice none 0 0]) (v' := .int .i64 240) [[]] rfl (.cellA (cs := [.slice none 0 0]) (l := [.slice none 0 0]) Tryz.isAgg24 Tryz.sizeOf24 rfl (.tl .hd) rfl rfl) (.tmp rfl) (List.sublist_append_left ([[]] : Own) _) ⟨.slice none 0 0, [], by first | rw [hM] | rfl, rfl, by rw [hM]; exact OwnD.nil⟩
 refine T.set 8 (.bool false) (congrArg Value.bool (decide_eq_false c8)) ?_
 refine sR ?_
 refine R.ldH Tryz.isAgg3 rfl rfl (sb3_2 _ _ hb4_1) rfl ?_
 refine R.callv rfl rfl rfl (index_table_c _ (a1)) ?_
 refine R.not rfl rfl ?_
 refine R.asE rfl cA ?_
 refine nN ?_
 refine T.cond rfl (fun c13 => ?_) (fun c13 => ?_)
 ·refine T.set 13 (.bool true) (congrArg Value.bool c13) ?_
  refine sR ?_
  refine R.bld (cs := [.slice none 0 0]) rfl (fun _ => by kernel_rfl) ?_
  refine R.stX (old := [.slice none 0 0]) (l := [.slice none 0 0]) (new := [.slice none 0 0]) (et := 24) Tryz.sizeOf24 rfl rfl rfl rfl rfl (by show 0 + 1 ≤ 1; decide) rfl (k_20 rfl) .hd ?_
  refine R.asE rfl cA ?_
  refine nN ?_
  refine T.has (Has.none (Has.cons .hd Has.nil)) ?_
  refine T.ret (Post.blkR (Post.thnR ?_))
  have hM : k_6b a0 a1 a2 = (([] : (List (Int × (List Int)))), 2) := by rw [k_6b, if_neg c8, if_t c13]
  exact finR2 (v := .agg #[.slice none 0 0]) (v' := .int .i64 2) [[]] rfl (.cellA (cs := [.slice none 0 0]) (l := [.slice none 0 0]) Tryz.isAgg24 Tryz.sizeOf24 rfl (.tl .hd) rfl rfl) (.tmp rfl) (List.sublist_append_left ([[]] : Own) _) ⟨.slice none 0 0, [], by first | rw [hM] | rfl, rfl, by rw [hM]; exact OwnD.nil⟩
 refine T.set 13 (.bool false) (congrArg Value.bool c13) ?_
 refine sR ?_
 refine R.mvE rfl cA ?_
 refine R.callv rfl rfl rfl (types_Check_c _ _ a2 (ha2.mono (sb4_1.trans sb3_2))) ?_
 refine R.neq rfl rfl rfl ?_
 refine R.asE rfl cA ?_
 refine nN ?_
 refine T.condD rfl (fun c18 => ?_) (fun c18 => ?_)
 ·refine T.set 18 (.bool true) (congrArg Value.bool (decide_eq_true c18)) ?_
  refine sR ?_
  refine R.bld (cs := [.slice none 0 0]) rfl (fun _ => by kernel_rfl) ?_
  refine R.stX (old := [.slice none 0 0]) (l := [.slice none 0 0]) (new := [.slice none 0 0]) (et := 24) Tryz.sizeOf24 rfl rfl rfl rfl rfl (by show 0 + 1 ≤ 1; decide) rfl (k_20 rfl) .hd ?_
  refine R.asE rfl cA ?_
  refine nN ?_
  refine T.has (Has.none (Has.cons .hd Has.nil)) ?_
  refine T.ret (Post.blkR (Post.thnR ?_))
  have hM : k_6b a0 a1 a2 = (([] : (List (Int × (List Int)))), 130) := by rw [k_6b, if_neg c8, if_f c13, if_pos c18]
  exact finR2 (v := .agg #[.slice none 0 0]) (v' := .int .i64 130) [[]] rfl (.cellA (cs := [.slice none 0 0]) (l := [.slice none 0 0]) Tryz.isAgg24 Tryz.sizeOf24 rfl (.tl .hd) rfl rfl) (.tmp rfl) (List.sublist_append_left ([[]] : Own) _) ⟨.slice none 0 0, [], by first | rw [hM] | rfl, rfl, by rw [hM]; exact OwnD.nil⟩
 refine T.set 18 (.bool false) (congrArg Value.bool (decide_eq_false c18)) ?_
 refine sR ?_
 refine R.ldXH (cs := [.slice Aa0_0 a0.length ca0_0]) (l := [.slice Aa0_0 a0.length ca0_0]) Tryz.isAgg24 Tryz.sizeOf24 rfl rfl hb3_2 rfl rfl ?_
 refine R.ldH Tryz.isAgg3 rfl rfl (sb3_2 _ _ hb4_1) rfl ?_
 obtain ⟨r26, er26⟩ : ∃ r, r = (k_b9 a0 a1) := ⟨_, rfl⟩
 refine TL.call [] rfl rfl rfl (index_in_c _ a0 _ (ha0_0.mono (sb4_1.trans sb3_2)) (a1) bA) ?_
 intro v26 H26 L26 s26 q26
 rw [← er26] at q26
 obtain ⟨u26_0_0, c26_0_0, rfl, rfl, w26_0_0⟩ := q26
 obtain ⟨A26_0_0, p26_0_0, rfl, m26_0_0, n26_0_0⟩ := OwnS.shape w26_0_0
 have ti26 := in_len _ _ _ er26
 refine R.len Tryz.underlying30 rfl rfl ?_
 refine R.gtr rfl rfl rfl ?_
 refine R.asE rfl cA ?_
 refine nN ?_
 refine T.condD rfl (fun c23 => ?_) (fun c23 => ?_)
 ·refine T.set 23 (.bool true) (congrArg Value.bool (decide_eq_true c23)) ?_
  refine sR ?_
  refine R.bld (cs := [.slice none 0 0]) rfl (fun _ => by kernel_rfl) ?_
  refine R.stX (old := [.slice none 0 0]) (l := [.slice none 0 0]) (new := [.slice none 0 0]) (et := 24) Tryz.sizeOf24 rfl rfl rfl rfl rfl (by show 0 + 1 ≤ 1; decide) rfl (k_20 rfl) (.tl .hd) ?_
  refine R.asE rfl cA ?_
  refine nN ?_
  refine T.has (Has.none (Has.cons (.tl .hd) Has.nil)) ?_
  refine T.ret (Post.blkR (Post.thnR ?_))
  have hM : k_6b a0 a1 a2 = (([] : (List (Int × (List Int)))), 5) := by subst er26; rw [k_6b, if_neg c8, if_f c13, if_neg c18, LR.seq_go, if_pos c23]
  exact finR2 (v := .agg #[.slice none 0 0]) (v' := .int .i64 5) [[]] rfl (.cellA (cs := [.slice none 0 0]) (l := [.slice none 0 0]) Tryz.isAgg24 Tryz.sizeOf24 rfl (.tl .hd) rfl rfl) (.tmp rfl) (List.sublist_append_left ([[]] : Own) _) ⟨.slice none 0 0, [], by first | rw [hM] | rfl, rfl, by rw [hM]; exact OwnD.nil⟩
 refine T.set 23 (.bool false) (congrArg Value.bool (decide_eq_false c23)) ?_
 refine T.skip (Post.blkN ?_)
 refine id (Post.thnN ?_)
 refine T.seq ?_
 refine T.draw k_2b kA ?_
 refine vA 0 [1, 2, 3, 4, 5, 6] rfl (fun _ _ h_ => R.ldXH (cs := [.slice Aa0_0 a0.length ca0_0]) (l := [.slice Aa0_0 a0.length ca0_0]) Tryz.isAgg24 Tryz.sizeOf24 rfl rfl (s26 _ _ hb3_2) rfl rfl (TL.nil h_)) ?_
 refine vM 1 [2, 3, 4, 5, 6] rfl rfl cA ?_
 refine vA 3 [2, 4, 5, 6] rfl (fun _ _ h_ => R.mkf (cs := [_]) rfl rfl (TL.nil h_)) ?_
 refine Plan.s1 2 [4, 5, 6] kA kA rfl ?_
 obtain ⟨r32, er32⟩ : ∃ r, r = (k_44 a2) := ⟨_, rfl⟩
 refine TL.call [] rfl rfl rfl (index_Keys_c _ _ a2 (ha2.mono (sb4_1.trans (sb3_2.trans s26)))) ?_
 intro v32 H32 L32 s32 q32
 rw [← er32] at q32
 obtain ⟨u32_0_0, c32_0_0, rfl, rfl, w32_0_0⟩ := q32
 obtain ⟨A32_0_0, p32_0_0, rfl, m32_0_0, n32_0_0⟩ := OwnS.shape w32_0_0
 have tK32 := Keys_len _ _ er32
 refine TL.nil (Plan.e1 (s32) ?_)
 refine Plan.s1 4 [5, 6] kA kA rfl ?_
 refine TL.shut .hd ?_
 intro HF32_0_0_4 sF32_0_0_4 qF32_0_0_4
 have fF32_0_0_4 := OwnS.read w32_0_0 sF32_0_0_4 qF32_0_0_4
 obtain ⟨r34, er34⟩ : ∃ r, r = (k_59 a0 r32 ((fun z => k_99 a1 z))) := ⟨_, rfl⟩
 refine TL.call [] rfl rfl rfl (index_turned_c _ a0 _ (ha0_0.mono (sb4_1.trans (sb3_2.trans (s26.trans (s32.trans sF32_0_0_4))))) _ r32 fF32_0_0_4 _ (fun z => k_99 a1 z) (fun H2 h2 vz z cz hz hO => index_Put_1_c H2 b4 (a1) (h2 _ _ ((sb3_2.trans (s26.trans (s32.trans sF32_0_0_4))) _ _ hb4_1)) vz z cz hO bA) rfl bA bA bA) ?_
 intro v34 H34 L34 s34 q34
 rw [← er34] at q34
 obtain ⟨u34_0_0, c34_0_0, rfl, rfl, w34_0_0⟩ := q34
 obtain ⟨A34_0_0, p34_0_0, rfl, m34_0_0, n34_0_0⟩ := OwnD.shape w34_0_0
 refine TL.nil (Plan.e1 ((sF32_0_0_4.trans s34)) ?_)
 refine Plan.s1 5 [6] kA kA rfl ?_
 refine R.stX (old := [.slice none 0 0]) (l := [.slice A34_0_0 r34.length p34_0_0]) (new := [.slice A34_0_0 r34.length p34_0_0]) (et := 24) Tryz.sizeOf24 rfl rfl rfl rfl rfl (by show 0 + 1 ≤ 1; decide) rfl (k_20 rfl) (.tl (.tl .hd)) ?_
 refine TL.nil (Plan.e0 (HLe.refl _) ?_)
 refine vA 6 [] rfl (fun _ _ h_ => R.asE rfl cA (TL.nil h_)) ?_
 refine Plan.done (Post.thnN ?_)
 refine T.has (Has.cons .hd (Has.cons (.tl .hd) Has.nil)) ?_
 refine T.ret ?_
 have hM : k_6b a0 a1 a2 = (r34, 0) := by subst er34; subst er32; subst er26; rw [k_6b, if_neg c8, if_f c13, if_neg c18, LR.seq_go, if_neg c23, LR.seq_go, LR.seq_go]
 exact finR2 (v := .agg #[.slice A34_0_0 r34.length p34_0_0]) (v' := .int .i64 0) [c34_0_0] rfl (.cellA (cs := [.slice A34_0_0 r34.length p34_0_0]) (l := [.slice A34_0_0 r34.length p34_0_0]) Tryz.isAgg24 Tryz.sizeOf24 rfl (.tl .hd) rfl rfl) (.tmp rfl) (List.sublist_append_left ([c34_0_0] : Own) _) ⟨.slice A34_0_0 r34.length p34_0_0, c34_0_0, by first | rw [hM] | rfl, rfl, by rw [hM]; exact w34_0_0⟩
def k_a5 (q0 : Int) (a0 : Int) : Bool :=
  (decide (a0 = q0))
set_option maxHeartbeats 3200000 in
theorem index_Drop_1_1_1_c (H : Heap) (b1000 : Nat) (q0 : Int) (hb0 : H b1000 = some (.cells #[.int .i64 q0] 3)) (a0 : Int) : Fv Tryz.prog (.func (.func 41) #[] ([.pointer (some ⟨b1000, 0, none⟩)] : List Value).toArray) [.int .i64 a0] H (.bool (k_a5 q0 a0)) := by
 refine Fc.of_body (N := 7) Tryz.func41 rfl kA rfl rfl ?_
 intro w0
 refine sR ?_
 refine R.asE rfl cA ?_
 refine nN ?_
 refine sR ?_
 refine R.mvE rfl cA ?_
 refine R.ldH Tryz.isAgg3 rfl rfl hb0 rfl ?_
 refine R.eql rfl rfl rfl ?_
 refine R.asE rfl cA ?_
 refine nN ?_
 refine T.has Has.nil ?_
 refine T.ret ?_
 have hM : k_a5 q0 a0 = (decide (a0 = q0)) := by rw [k_a5]
 exact fin1L (v := .bool (decide (a0 = q0))) [] rfl rfl (List.Sublist.refl _) ⟨rfl, by first | rw [hM] | rfl⟩
def k_8f (q0 : Int) (a0 : List Int) : (List Int) :=
  LR.seq (k_60 a0 ((fun z0 => k_a5 q0 z0))) (fun r6 => r6)
set_option maxHeartbeats 3200000 in
theorem index_Drop_1_c (H : Heap) (b1000 : Nat) (q0 : Int) (hb0 : H b1000 = some (.cells #[.int .i64 q0] 3)) (va0 : Value) (a0 : List Int) (Ca0 : Chunk) (ha0 : OwnS (intE .i64) 3 H va0 a0 Ca0) (hl : a0.length ≤ 2000000) : Fc Tryz.prog (.func (.func 39) #[] ([.pointer (some ⟨b1000, 0, none⟩)] : List Value).toArray) [va0] H [Ca0] (fun v' H' L' => ∃ u0_0 c0_0, v' = u0_0 ∧ L' = [c0_0] ∧ OwnS (intE .i64) 3 H' u0_0 (k_8f q0 a0) c0_0) := by
 refine Fc.of_body (N := 7) Tryz.func39 rfl kA rfl rfl ?_
 intro w0
 obtain ⟨Aa0, pa0, rfl, ma0, na0⟩ := OwnS.shape ha0
 refine sR ?_
 refine R.asE rfl cA ?_
 refine nN ?_
 refine sR ?_
 refine R.mvE rfl cA ?_
 refine R.mkf (cs := [_]) rfl rfl ?_
 refine TL.has (Has.cons .hd Has.nil) ?_
 obtain ⟨r6, er6⟩ : ∃ r, r = (k_60 a0 ((fun z0 => k_a5 q0 z0))) := ⟨_, rfl⟩
 refine TL.call [true] rfl rfl rfl (slices_DeleteFunc_int_c _ _ a0 _ ha0 _ (fun z0 => k_a5 q0 z0) (fun H2 h2 z0 => index_Drop_1_1_1_c H2 b1000 (q0) (h2 _ _ hb0) z0) rfl bA) ?_
 intro v6 H6 L6 s6 q6
 rw [← er6] at q6
 obtain ⟨u6_0_0, c6_0_0, rfl, rfl, w6_0_0⟩ := q6
 obtain ⟨A6_0_0, p6_0_0, rfl, m6_0_0, n6_0_0⟩ := OwnS.shape w6_0_0
 have td6 := delf_int_len _ _ _ er6
 refine R.asE rfl cA ?_
 refine nN ?_
 refine T.has (Has.cons .hd Has.nil) ?_
 refine T.ret ?_
 have hM : k_8f q0 a0 = r6 := by subst er6; rw [k_8f, LR.seq_go]
 exact fin1L (v := .slice A6_0_0 r6.length p6_0_0) [c6_0_0] rfl rfl (List.Sublist.refl _) ⟨.slice A6_0_0 r6.length p6_0_0, c6_0_0, by first | rw [hM] | rfl, rfl, by rw [hM]; exact w6_0_0⟩
def k_8c (a0 : (List (Int × (List Int)))) (a1 : Int) : ((List (Int × (List Int)))) × Int :=
  if ((k_7c a0) : Int) ≠ 0 then ((([] : (List (Int × (List Int)))), (k_7c a0))) else (LR.seq (k_b9 a0 a1) (fun r16 => if (r16.length : Int) = 0 then ((([] : (List (Int × (List Int)))), 4)) else (LR.seq (k_59 a0 r16 ((fun z => k_8f a1 z))) (fun r24 => (r24, 0)))))
set_option maxHeartbeats 3200000 in
theorem index_Drop_c (H : Heap) (a0 : (List (Int × (List Int)))) (va0_0 : Value) (ha0_0 : RdS listedE H va0_0 a0) (a1 : Int) (hn : a0.length ≤ 1000) (hr : ∀ r ∈ a0, r.2.length ≤ 1000) : Fc Tryz.prog (fnv 11) [.agg #[va0_0], .int .i64 a1] H [] (fun v' H' L' => ∃ u0_0 c0_0, v' = .tuple #[.agg #[u0_0], .int .i64 (k_8c a0 a1).2] ∧ L' = [c0_0] ∧ OwnD listedD 45 H' u0_0 (k_8c a0 a1).1 c0_0) := by
 refine Fc.of_body (N := 25) Tryz.func11 rfl kA rfl rfl ?_
 intro w0
 obtain ⟨Aa0_0, ca0_0, rfl, hca0_0, hda0_0, ha0_0⟩ := ha0_0.shape
 refine sR ?_
 refine R.box rfl cA ?_
 intro b2
 refine R.box rfl cA ?_
 intro b3
 refine R.alloc Tryz.zeroValue24 rfl ?_
 intro b4
 refine R.asE rfl cA ?_
 refine TL.shut (.tl .hd) ?_
 intro Hb3_1 sb3_1 qb3_1
 have hb3_1 : Hb3_1 b3 = some (.cells #[.int .i64 a1] 3) := shut1 qb3_1
 refine TL.shut (.tl .hd) ?_
 intro Hb2_2 sb2_2 qb2_2
 have hb2_2 : Hb2_2 b2 = some (.cells #[.slice Aa0_0 a0.length ca0_0] 24) := shut1 qb2_2
 refine nN ?_
 refine T.seq ?_
 refine sR ?_
 refine R.ldXH (cs := [.slice Aa0_0 a0.length ca0_0]) (l := [.slice Aa0_0 a0.length ca0_0]) Tryz.isAgg24 Tryz.sizeOf24 rfl rfl hb2_2 rfl rfl ?_
 refine R.callv rfl rfl rfl (index_Check_c _ a0 _ (ha0_0.mono (sb3_1.trans sb2_2)) (by first | omega | assumption | (simp; done) | (simp; omega) | (simp at *; omega)) (by first | assumption | exact k_c5 (by assumption) oA | (intro r h; simp at h; done))) ?_
 refine R.asE rfl cA ?_
 refine nN ?_
 refine sR ?_
 refine R.mvE rfl cA ?_
 refine R.neq rfl rfl rfl ?_
 refine nN ?_
 refine T.condD rfl (fun c11 => ?_) (fun c11 => ?_)
 ·refine T.set 11 (.bool true) (congrArg Value.bool (decide_eq_true c11)) ?_
  refine sR ?_
  refine R.bld (cs := [.slice none 0 0]) rfl (fun _ => by kernel_rfl) ?_
  refine R.mvE rfl cA ?_
  refine R.stX (old := [.slice none 0 0]) (l := [.slice none 0 0]) (new := [.slice none 0 0]) (et := 24) Tryz.sizeOf24 rfl rfl rfl rfl rfl (by show 0 + 1 ≤ 1; decide) rfl (k_20 rfl) .hd ?_
  refine R.asE rfl cA ?_
  refine nN ?_
  refine T.has (Has.none (Has.cons .hd Has.nil)) ?_
  refine T.ret (Post.thnR ?_)
  have hM : k_8c a0 a1 = (([] : (List (Int × (List Int)))), (k_7c a0)) := by rw [k_8c, if_pos c11]
  exact finR2 (v := .agg #[.slice none 0 0]) (v' := .int .i64 (k_7c a0)) [[]] rfl (.cellA (cs := [.slice none 0 0]) (l := [.slice none 0 0]) Tryz.isAgg24 Tryz.sizeOf24 rfl (.tl .hd) rfl rfl) (.tmp rfl) (List.sublist_append_left ([[]] : Own) _) ⟨.slice none 0 0, [], by first | rw [hM] | rfl, rfl, by rw [hM]; exact OwnD.nil⟩
 refine T.set 11 (.bool false) (congrArg Value.bool (decide_eq_false c11)) ?_
 refine T.skip (Post.thnN ?_)
 refine sR ?_
 refine R.ldXH (cs := [.slice Aa0_0 a0.length ca0_0]) (l := [.slice Aa0_0 a0.length ca0_0]) Tryz.isAgg24 Tryz.sizeOf24 rfl rfl hb2_2 rfl rfl ?_
 refine R.ldH Tryz.isAgg3 rfl rfl (sb2_2 _ _ hb3_1) rfl ?_
 obtain ⟨r16, er16⟩ : ∃ r, r = (k_b9 a0 a1) := ⟨_, rfl⟩
 refine TL.call [] rfl rfl rfl (index_in_c _ a0 _ (ha0_0.mono (sb3_1.trans sb2_2)) (a1) bA) ?_
 intro v16 H16 L16 s16 q16
 rw [← er16] at q16
 obtain ⟨u16_0_0, c16_0_0, rfl, rfl, w16_0_0⟩ := q16
 obtain ⟨A16_0_0, p16_0_0, rfl, m16_0_0, n16_0_0⟩ := OwnS.shape w16_0_0
 have ti16 := in_len _ _ _ er16
 refine R.asE rfl cA ?_
 refine nN ?_
 refine T.seq ?_
 refine sR ?_
 refine R.mvE rfl cA ?_
 refine R.len Tryz.underlying30 rfl rfl ?_
 refine R.eql rfl rfl rfl ?_
 refine nN ?_
 refine T.condD rfl (fun c19 => ?_) (fun c19 => ?_)
 ·refine T.set 19 (.bool true) (congrArg Value.bool (decide_eq_true c19)) ?_
  refine sR ?_
  refine R.bld (cs := [.slice none 0 0]) rfl (fun _ => by kernel_rfl) ?_
  refine R.stX (old := [.slice none 0 0]) (l := [.slice none 0 0]) (new := [.slice none 0 0]) (et := 24) Tryz.sizeOf24 rfl rfl rfl rfl rfl (by show 0 + 1 ≤ 1; decide) rfl (k_20 rfl) (.tl .hd) ?_
  refine R.asE rfl cA ?_
  refine nN ?_
  refine T.has (Has.none (Has.cons (.tl .hd) Has.nil)) ?_
  refine T.ret (Post.thnR ?_)
  have hM : k_8c a0 a1 = (([] : (List (Int × (List Int)))), 4) := by subst er16; rw [k_8c, if_neg c11, LR.seq_go, if_pos c19]
  exact finR2 (v := .agg #[.slice none 0 0]) (v' := .int .i64 4) [[]] rfl (.cellA (cs := [.slice none 0 0]) (l := [.slice none 0 0]) Tryz.isAgg24 Tryz.sizeOf24 rfl (.tl .hd) rfl rfl) (.tmp rfl) (List.sublist_append_left ([[]] : Own) _) ⟨.slice none 0 0, [], by first | rw [hM] | rfl, rfl, by rw [hM]; exact OwnD.nil⟩
 refine T.set 19 (.bool false) (congrArg Value.bool (decide_eq_false c19)) ?_
 refine T.skip (Post.thnN ?_)
 refine sR ?_
 refine R.ldXH (cs := [.slice Aa0_0 a0.length ca0_0]) (l := [.slice Aa0_0 a0.length ca0_0]) Tryz.isAgg24 Tryz.sizeOf24 rfl rfl (s16 _ _ hb2_2) rfl rfl ?_
 refine R.mvE rfl cA ?_
 refine R.mkf (cs := [_]) rfl rfl ?_
 refine TL.shut .hd ?_
 intro HF16_0_0_3 sF16_0_0_3 qF16_0_0_3
 have fF16_0_0_3 := OwnS.read w16_0_0 sF16_0_0_3 qF16_0_0_3
 obtain ⟨r24, er24⟩ : ∃ r, r = (k_59 a0 r16 ((fun z => k_8f a1 z))) := ⟨_, rfl⟩
 refine TL.call [] rfl rfl rfl (index_turned_c _ a0 _ (ha0_0.mono (sb3_1.trans (sb2_2.trans (s16.trans sF16_0_0_3)))) _ r16 fF16_0_0_3 _ (fun z => k_8f a1 z) (fun H2 h2 vz z cz hz hO => index_Drop_1_c H2 b3 (a1) (h2 _ _ ((sb2_2.trans (s16.trans sF16_0_0_3)) _ _ hb3_1)) vz z cz hO bA) rfl bA bA bA) ?_
 intro v24 H24 L24 s24 q24
 rw [← er24] at q24
 obtain ⟨u24_0_0, c24_0_0, rfl, rfl, w24_0_0⟩ := q24
 obtain ⟨A24_0_0, p24_0_0, rfl, m24_0_0, n24_0_0⟩ := OwnD.shape w24_0_0
 refine R.stX (old := [.slice none 0 0]) (l := [.slice A24_0_0 r24.length p24_0_0]) (new := [.slice A24_0_0 r24.length p24_0_0]) (et := 24) Tryz.sizeOf24 rfl rfl rfl rfl rfl (by show 0 + 1 ≤ 1; decide) rfl (k_20 rfl) (.tl .hd) ?_
 refine R.asE rfl cA ?_
 refine nN ?_
 refine T.has (Has.cons .hd (Has.cons .hd Has.nil)) ?_
 refine T.ret ?_
 have hM : k_8c a0 a1 = (r24, 0) := by subst er24; subst er16; rw [k_8c, if_neg c11, LR.seq_go, if_neg c19, LR.seq_go]
 exact finR2 (v := .agg #[.slice A24_0_0 r24.length p24_0_0]) (v' := .int .i64 0) [c24_0_0] rfl (.cellA (cs := [.slice A24_0_0 r24.length p24_0_0]) (l := [.slice A24_0_0 r24.length p24_0_0]) Tryz.isAgg24 Tryz.sizeOf24 rfl (.tl .hd) rfl rfl) (.tmp rfl) (List.sublist_append_left ([c24_0_0] : Own) _) ⟨.slice A24_0_0 r24.length p24_0_0, c24_0_0, by first | rw [hM] | rfl, rfl, by rw [hM]; exact w24_0_0⟩
end Go.SX

set_option linter.unusedVariables false
set_option linter.unusedSimpArgs false
namespace Go.SX
open Go Go.Proofs

theorem turned_l2_len (a : List (Int × List Int)) (ids : List Int) (g : List Int → List Int) (B : Nat) (hg : ∀ z : List Int, (g z).length ≤ z.length + 1) (hB : ∀ q ∈ a, q.2.length ≤ B) : ∀ (l : List Int) (s : List (Int × List Int)), (∀ q ∈ s, q.2.length ≤ B + 1) → (k_68 a ids g l s).length ≤ s.length + l.length ∧ ∀ q ∈ k_68 a ids g l s, q.2.length ≤ B + 1
  | [], s, hs => ⟨Nat.le_refl _, hs⟩
  | y :: ys, s, hs => by
    rw [k_68]
    simp only [LR.seq_go]
    generalize k_5 a (y, []) (fun z0 z1 => k_2d z0 z1) = r
    have h1 : (if r.2 = true then (a.getD r.1.toNat (0, [])).2 else [] : List Int).length ≤ B := by
      split
      · rcases getD_mem_or a r.1.toNat (0, []) with h | h
        · exact hB _ h
        · rw [h]; exact Nat.zero_le _
      · exact Nat.zero_le _
    generalize (if r.2 = true then (a.getD r.1.toNat (0, [])).2 else [] : List Int) = t at h1 ⊢
    have h2 : (if y ∈ ids then g t else t).length ≤ B + 1 := by
      split
      · have := hg t; omega
      · omega
    generalize (if y ∈ ids then g t else t) = u at h2 ⊢
    split
    · have := turned_l2_len a ids g B hg hB ys (s ++ [(y, u)]) (fun q hq => by
        rcases List.mem_append.1 hq with h | h
        · exact hs q h
        · rw [List.mem_singleton] at h; subst h; exact h2)
      rw [List.length_append, List.length_cons, List.length_nil] at this
      rw [List.length_cons]
      exact ⟨by omega, this.2⟩
    · have := turned_l2_len a ids g B hg hB ys s hs
      rw [List.length_cons]
      exact ⟨by omega, this.2⟩
theorem turned_l1_eq : ∀ (l : List (Int × List Int)) (s : List Int), k_9b l s = s ++ l.map Prod.fst
  | [], s => by simp [k_9b]
  | y :: ys, s => by rw [k_9b, turned_l1_eq ys]; simp
theorem turned_len (a : List (Int × List Int)) (ids : List Int) (g : List Int → List Int) (hg : ∀ z : List Int, (g z).length ≤ z.length + 1) :
    (k_59 a ids g).length ≤ ids.length + a.length ∧ ∀ B, (∀ q ∈ a, q.2.length ≤ B) → ∀ q ∈ k_59 a ids g, q.2.length ≤ B + 1 := by
  unfold k_59
  simp only [LR.seq_go]
  rw [turned_l1_eq]
  have ho := once_len (ids ++ a.map Prod.fst) _ rfl
  rw [List.length_append, List.length_map] at ho
  refine ⟨?_, fun B hB => (turned_l2_len a ids g B hg hB _ [] (by simp)).2⟩
  obtain ⟨B, hB⟩ : ∃ B, ∀ q ∈ a, q.2.length ≤ B := by
    clear ho
    induction a with
    | nil => exact ⟨0, fun q h => by cases h⟩
    | cons x a ih =>
      obtain ⟨B, h⟩ := ih
      exact ⟨B + x.2.length, fun q hq => by
        rcases List.mem_cons.1 hq with e | h1
        · subst e; omega
        · have := h q h1; omega⟩
  have := (turned_l2_len a ids g B hg hB (k_b1 (ids ++ a.map Prod.fst)) [] (by simp)).1
  rw [List.length_nil] at this; omega
theorem turned_l2_ne (a : List (Int × List Int)) (ids : List Int) (g : List Int → List Int) : ∀ (l : List Int) (s : List (Int × List Int)), (∀ q ∈ s, q.2 ≠ []) → ∀ q ∈ k_68 a ids g l s, q.2 ≠ []
  | [], s, hs => hs
  | y :: ys, s, hs => by
    rw [k_68]
    simp only [LR.seq_go]
    generalize (if y ∈ ids then g (if (k_5 a (y, []) (fun z0 z1 => k_2d z0 z1)).2 = true then (a.getD (k_5 a (y, []) (fun z0 z1 => k_2d z0 z1)).1.toNat (0, [])).2 else []) else (if (k_5 a (y, []) (fun z0 z1 => k_2d z0 z1)).2 = true then (a.getD (k_5 a (y, []) (fun z0 z1 => k_2d z0 z1)).1.toNat (0, [])).2 else [])) = u
    split
    · rename_i hu
      refine turned_l2_ne a ids g ys _ (fun q hq => ?_)
      rcases List.mem_append.1 hq with h | h
      · exact hs q h
      · rw [List.mem_singleton] at h; subst h
        intro e
        have e' : u = [] := e
        rw [e'] at hu; exact absurd hu (by decide)
    · exact turned_l2_ne a ids g ys s hs
theorem turned_ne (a : List (Int × List Int)) (ids : List Int) (g : List Int → List Int) : ∀ q ∈ k_59 a ids g, q.2 ≠ [] := by
  unfold k_59
  simp only [LR.seq_go]
  exact turned_l2_ne a ids g _ [] (fun q h => by cases h)
theorem put_ne (a : List (Int × List Int)) (n : Int) (l : List Int) (r : List (Int × List Int) × Int) (e : r = k_6b a n l) : ∀ q ∈ r.1, q.2 ≠ [] := by
  unfold k_6b at e
  simp only [LR.seq_go] at e
  have hz : ∀ k : Int, r = (([] : List (Int × List Int)), k) → ∀ q ∈ r.1, q.2 ≠ [] := fun k h => by
    rw [h]; exact fun q hq => by cases hq
  split at e
  · exact hz _ e
  · split at e
    · exact hz _ e
    · split at e
      · exact hz _ e
      · split at e
        · exact hz _ e
        · rw [e]; exact turned_ne _ _ _
theorem drop_ne (a : List (Int × List Int)) (n : Int) (r : List (Int × List Int) × Int) (e : r = k_8c a n) : ∀ q ∈ r.1, q.2 ≠ [] := by
  unfold k_8c at e
  simp only [LR.seq_go] at e
  have hz : ∀ k : Int, r = (([] : List (Int × List Int)), k) → ∀ q ∈ r.1, q.2 ≠ [] := fun k h => by
    rw [h]; exact fun q hq => by cases hq
  split at e
  · exact hz _ e
  · split at e
    · exact hz _ e
    · rw [e]; exact turned_ne _ _ _
theorem ne_set {l : List (Int × List Int)} {k : Nat} {y : Int × List Int} (h : ∀ r ∈ l, r.2 ≠ []) (hy : l[k]? = some y) : ∀ r ∈ l.set k (y.1, y.2.set 0 0), r.2 ≠ [] := by
  intro r hr
  rcases List.mem_or_eq_of_mem_set hr with q | q
  · exact h r q
  · rw [q]
    intro e
    have := congrArg List.length e
    rw [List.length_set] at this
    exact h y (List.mem_of_getElem? hy) (List.eq_nil_of_length_eq_zero this)
theorem ne_len {l : List (Int × List Int)} {k : Nat} {y : Int × List Int} (h : ∀ r ∈ l, r.2 ≠ []) (hy : l[k]? = some y) : 0 < y.2.length := List.length_pos_iff.2 (h y (List.mem_of_getElem? hy))
theorem put1_len (n : Int) (z : List Int) : (k_99 n z).length ≤ z.length + 1 := by
  unfold k_99
  rw [LR.seq_go]
  unfold ins
  rw [List.length_append, List.length_cons, List.length_take, List.length_drop]; omega
theorem drop1_len (n : Int) (z : List Int) : (k_8f n z).length ≤ z.length + 1 := by
  unfold k_8f
  rw [LR.seq_go]
  have := delf_int_len z (fun z0 => k_a5 n z0) _ rfl
  omega
theorem put_len (a : List (Int × List Int)) (n : Int) (l : List Int) (r : List (Int × List Int) × Int) (e : r = k_6b a n l) : r.1.length ≤ a.length + 48 ∧ ∀ B, (∀ q ∈ a, q.2.length ≤ B) → ∀ q ∈ r.1, q.2.length ≤ B + 1 := by
  unfold k_6b at e
  simp only [LR.seq_go] at e
  have hz : ∀ k : Int, r = (([] : List (Int × List Int)), k) → r.1.length ≤ a.length + 48 ∧ ∀ B, (∀ q ∈ a, q.2.length ≤ B) → ∀ q ∈ r.1, q.2.length ≤ B + 1 := fun k h => by
    rw [h]; exact ⟨Nat.zero_le _, fun _ _ q hq => by cases hq⟩
  split at e
  · exact hz _ e
  · split at e
    · exact hz _ e
    · split at e
      · exact hz _ e
      · split at e
        · exact hz _ e
        · have h1 := turned_len a (k_44 l) (fun z => k_99 n z) (put1_len n)
          have h2 := Keys_len l _ rfl
          rw [e]
          exact ⟨by simp only; omega, h1.2⟩
theorem dropx_len (a : List (Int × List Int)) (n : Int) (r : List (Int × List Int) × Int) (e : r = k_8c a n) : r.1.length ≤ a.length + a.length ∧ ∀ B, (∀ q ∈ a, q.2.length ≤ B) → ∀ q ∈ r.1, q.2.length ≤ B + 1 := by
  unfold k_8c at e
  simp only [LR.seq_go] at e
  have hz : ∀ k : Int, r = (([] : List (Int × List Int)), k) → r.1.length ≤ a.length + a.length ∧ ∀ B, (∀ q ∈ a, q.2.length ≤ B) → ∀ q ∈ r.1, q.2.length ≤ B + 1 := fun k h => by
    rw [h]; exact ⟨Nat.zero_le _, fun _ _ q hq => by cases hq⟩
  split at e
  · exact hz _ e
  · split at e
    · exact hz _ e
    · have h1 := turned_len a (k_b9 a n) (fun z => k_8f n z) (drop1_len n)
      have h2 := in_len a n _ rfl
      rw [e]
      exact ⟨by simp only; omega, h1.2⟩
def k_43  : List (Int × (List Int)) → ((List (Int × (List Int)))) → (List (Int × (List Int)))
  | [], sl1 => sl1
  | yl1 :: ysl1, sl1 => k_43 ysl1 ((sl1 ++ [(yl1.1, (yl1.2.take ((min yl1.2.length 12))))]))
def k_34 (a0 : (List (Int × (List Int)))) : ((List (Int × (List Int)))) :=
  LR.seq (k_43 (a0.take ((min a0.length 60))) []) (fun ol1 => ol1)
set_option maxHeartbeats 3200000 in
theorem k_c1 (H : Heap) (a0 : (List (Int × (List Int)))) (va0_0 : Value) (ha0_0 : RdS listedE H va0_0 a0) : Fc Tryz.prog (fnv 6) [.agg #[va0_0]] H [] (fun v' H' L' => ∃ u0_0 c0_0, v' = .agg #[u0_0] ∧ L' = [c0_0] ∧ OwnS listedE 45 H' u0_0 (k_34 a0) c0_0) := by
 refine Fc.of_body (N := 36) Tryz.func6 rfl kA rfl rfl ?_
 intro w0
 obtain ⟨Aa0_0, ca0_0, rfl, hca0_0, hda0_0, ha0_0⟩ := ha0_0.shape
 refine sR ?_
 refine R.box rfl cA ?_
 intro b1
 refine R.alloc Tryz.zeroValue24 rfl ?_
 intro b2
 refine TL.shut (.tl .hd) ?_
 intro Hb1_1 sb1_1 qb1_1
 have hb1_1 : Hb1_1 b1 = some (.cells #[.slice Aa0_0 a0.length ca0_0] 24) := shut1 qb1_1
 refine nN ?_
 refine sR ?_
 refine R.alloc Tryz.zeroValue24 rfl ?_
 intro b3
 refine nN ?_
 refine T.seq ?_
 refine sR ?_
 refine R.fldA Tryz.underlying24 rfl Tryz.sizeOf22 (by decide) rfl rfl ?_
 refine R.ldH Tryz.isAgg22 rfl rfl hb1_1 rfl ?_
 refine R.fldA Tryz.underlying24 rfl Tryz.sizeOf22 (by decide) rfl rfl ?_
 refine R.ldH Tryz.isAgg22 rfl rfl hb1_1 rfl ?_
 refine R.len Tryz.underlying22 rfl rfl ?_
 refine R.min2 rfl rfl rfl ?_
 refine TL.set 11 (.int .i64 ((min a0.length 60 : Nat) : Int)) (congrArg (Value.int .i64) (by split <;> omega)) ?_
 have z12 := RdS.takeC (ha0_0.mono sb1_1) (i := (min a0.length 60)) oA oA
 obtain ⟨x12, e12⟩ : ∃ x, x = (a0.take ((min a0.length 60))) := ⟨_, rfl⟩
 rw [← e12] at z12
 obtain ⟨A12, p12, q12, m12, n12, r12⟩ := RdS.shape z12
 have t12 : x12.length ≤ a0.length := by rw [e12]; simp; try omega
 have t12_ : x12.length = min ((min a0.length 60)) a0.length := by rw [e12]; simp
 refine R.sH Tryz.underlying22 Tryz.sizeOf45 rfl rfl rfl oA oA  ?_
 refine TL.set 12 (.slice A12 x12.length p12) (by first | exact q12 | (rw [← q12]; simp; done) | (rw [← q12]; rfl)) ?_
 refine R.len Tryz.underlying22 rfl rfl ?_
 refine R.mvE rfl cA ?_
 refine nN ?_
 refine T.block ?_
 refine T.loop (ι := Nat × Value × (List (Int × (List Int))) × Chunk) (fun ⟨kl1, vb3l1_0, xb3l1_0, cb3l1_0⟩ H' L' ds' => kl1 ≤ x12.length ∧ Has L' [[(b3, .cells #[vb3l1_0] 24)], [(b2, .cells #[.slice none 0 0] 24)], cb3l1_0] ∧ OwnS listedE 45 H' vb3l1_0 xb3l1_0 cb3l1_0 ∧ xb3l1_0.length ≤ kl1 ∧ k_43 (x12.drop kl1) xb3l1_0 = k_43 x12 []) (fun ⟨kl1, vb3l1_0, xb3l1_0, cb3l1_0⟩ => [(14, .int .i64 (kl1 : Int)), (2, .pointer (some ⟨b2, 0, none⟩)), (3, .pointer (some ⟨b3, 0, none⟩)), (12, .slice A12 x12.length p12), (13, .int .i64 (x12.length : Int))]) (fun ⟨kl1, vb3l1_0, xb3l1_0, cb3l1_0⟩ => x12.length - kl1) (0, .slice none 0 0, [], []) ?_ ?_ ?_
 ·exact ⟨oA, (Has.cons .hd (Has.cons .hd (Has.none Has.nil))), OwnS.nil, bA, (by rfl)⟩
 ·exact ⟨rfl, rfl, rfl, rfl, rfl, trivial⟩
 intro ⟨kl1, vb3l1_0, xb3l1_0, cb3l1_0⟩ σ_l1 H_l1 L_l1 ds_l1 s_l1 hI_l1
 obtain ⟨hkl1, hI_l1⟩ := hI_l1
 obtain ⟨hLl1, wb3l1_0, hBl1_0, hQl1⟩ := hI_l1
 obtain ⟨Ab3l1_0, pb3l1_0, rfl, mb3l1_0, nb3l1_0_⟩ := OwnS.shape wb3l1_0
 refine T.has hLl1 ?_
 refine sR ?_
 refine R.lss rfl rfl rfl ?_
 refine nN ?_
 refine T.seq ?_
 refine T.condD rfl (fun c15 => ?_) (fun c15 => ?_)
 ·have hltl1 : kl1 < x12.length := by omega
  obtain ⟨yl1, hyl1⟩ := getk (xs := x12) (k := kl1) oA
  refine T.skip (Post.thnN ?_)
  refine T.seq ?_
  refine T.block ?_
  refine sR ?_
  obtain ⟨b16, o16, i16, k16⟩ := RdS.elem (r12.mono s_l1) hyl1
  obtain ⟨l16, g16, k16⟩ := k16
  obtain ⟨z16_1, rfl, r16_1⟩ := g16
  obtain ⟨A16_1, p16_1, rfl, m16_1, n16_1, r16_1⟩ := r16_1.shape
  refine R.ixp Tryz.underlying22 Tryz.sizeOf45 rfl rfl rfl oA i16 ?_
  refine R.ldK (l := [.int .u64 (yl1.1), .slice A16_1 yl1.2.length p16_1]) Tryz.isAgg45 Tryz.sizeOf45 rfl rfl k16 rfl ?_
  refine R.alloc Tryz.zeroValue45 rfl ?_
  intro b5
  refine R.stX (old := [.int .u64 0, .slice none 0 0]) (l := [.int .u64 (yl1.1), .slice A16_1 yl1.2.length p16_1]) (new := [.int .u64 (yl1.1), .slice A16_1 yl1.2.length p16_1]) (et := 45) Tryz.sizeOf45 rfl rfl rfl rfl rfl (by show 0 + 2 ≤ 2; decide) rfl (k_20 rfl) .hd ?_
  refine TL.shut .hd ?_
  intro Hb5_2 sb5_2 qb5_2
  have hb5_2 : Hb5_2 b5 = some (.cells #[.int .u64 (yl1.1), .slice A16_1 yl1.2.length p16_1] 45) := shut1 qb5_2
  refine nN ?_
  refine T.draw k_2b kA ?_
  refine vA 0 [1, 2, 3, 4, 5, 6, 7, 8, 9, 10, 11, 12, 13, 14, 15, 16] rfl (fun _ _ h_ => R.fldA Tryz.underlying24 rfl Tryz.sizeOf22 (by decide) rfl rfl (TL.nil h_)) ?_
  refine vA 2 [1, 3, 4, 5, 6, 7, 8, 9, 10, 11, 12, 13, 14, 15, 16] rfl (fun _ _ h_ => R.fldA Tryz.underlying45 rfl Tryz.sizeOf43 (by decide) rfl rfl (TL.nil h_)) ?_
  refine vA 3 [1, 4, 5, 6, 7, 8, 9, 10, 11, 12, 13, 14, 15, 16] rfl (fun _ _ h_ => R.ldH Tryz.isAgg43 rfl rfl hb5_2 rfl (TL.nil h_)) ?_
  refine vA 4 [1, 5, 6, 7, 8, 9, 10, 11, 12, 13, 14, 15, 16] rfl (fun _ _ h_ => R.fldA Tryz.underlying45 rfl Tryz.sizeOf25 (by decide) rfl rfl (TL.nil h_)) ?_
  refine vA 5 [1, 6, 7, 8, 9, 10, 11, 12, 13, 14, 15, 16] rfl (fun _ _ h_ => R.ldH Tryz.isAgg25 rfl rfl hb5_2 rfl (TL.nil h_)) ?_
  refine vA 6 [1, 7, 8, 9, 10, 11, 12, 13, 14, 15, 16] rfl (fun _ _ h_ => R.fldA Tryz.underlying45 rfl Tryz.sizeOf25 (by decide) rfl rfl (TL.nil h_)) ?_
  refine vA 7 [1, 8, 9, 10, 11, 12, 13, 14, 15, 16] rfl (fun _ _ h_ => R.ldH Tryz.isAgg25 rfl rfl hb5_2 rfl (TL.nil h_)) ?_
  refine vA 8 [1, 9, 10, 11, 12, 13, 14, 15, 16] rfl (fun _ _ h_ => R.len Tryz.underlying25 rfl rfl (TL.nil h_)) ?_
  refine vA 9 [1, 10, 11, 12, 13, 14, 15, 16] rfl (fun _ _ h_ => R.min2 rfl rfl rfl (TL.nil h_)) ?_
  refine Plan.set 27 (.int .i64 ((min yl1.2.length 12 : Nat) : Int)) (congrArg (Value.int .i64) (by split <;> omega)) ?_
  have z28 := RdS.takeC (r16_1.mono sb5_2) (i := (min yl1.2.length 12)) oA oA
  obtain ⟨x28, e28⟩ : ∃ x, x = (yl1.2.take ((min yl1.2.length 12))) := ⟨_, rfl⟩
  rw [← e28] at z28
  obtain ⟨A28, p28, q28, m28, n28, r28⟩ := RdS.shape z28
  have t28 : x28.length ≤ yl1.2.length := by rw [e28]; simp; try omega
  have t28_ : x28.length = min ((min yl1.2.length 12)) yl1.2.length := by rw [e28]; simp
  refine vA 10 [1, 11, 12, 13, 14, 15, 16] rfl (fun _ _ h_ => R.sH Tryz.underlying25 Tryz.sizeOf3 rfl rfl rfl oA oA  (TL.nil h_)) ?_
  refine Plan.set 28 (.slice A28 x28.length p28) (by first | exact q28 | (rw [← q28]; simp; done) | (rw [← q28]; rfl)) ?_
  refine Plan.s2 1 11 [11, 12, 13, 14, 15, 16] [1, 12, 13, 14, 15, 16] kA kA kA rfl rfl ?_ ?_
  ·refine R.ld Tryz.isAgg22 rfl rfl .hd rfl ?_
   refine TL.nil (Plan.e1 (HLe.refl _) ?_)
   refine Plan.s1 11 [12, 13, 14, 15, 16] kA kA rfl ?_
   refine TL.call [] rfl rfl rfl (clone25_c _ _ x28 r28 bA) ?_
   intro v29 H29 L29 s29 q29
   obtain ⟨c29, rfl, w29⟩ := q29
   obtain ⟨x29, e29⟩ : ∃ x, x = x28 := ⟨_, rfl⟩
   rw [← e29] at w29
   obtain ⟨A29, p29, rfl, m29, n29⟩ := OwnS.shape w29
   have t29 : x29.length = x28.length := by rw [e29]
   refine TL.nil (Plan.e1 (s29) ?_)
   refine vA 12 [13, 14, 15, 16] rfl (fun _ _ h_ => R.bld (cs := [.int .u64 (yl1.1), .slice A29 x29.length p29]) rfl (fun _ => by kernel_rfl) (TL.nil h_)) ?_
   refine Plan.s1 13 [14, 15, 16] kA kA rfl ?_
   refine TL.shut .hd ?_
   intro HF29_4 sF29_4 qF29_4
   have fF29_4 := OwnS.read w29 sF29_4 qF29_4
   refine R.bs (e := 45) (cs := [.int .u64 (yl1.1), .slice A29 x29.length p29]) rfl (fun _ => by kernel_rfl) ?_
   intro b31
   have w31 : OwnS listedE 45 HF29_4 (.slice (some ⟨b31, 0, none⟩) 1 1) [(yl1.1, x29)] [(b31, .cells #[.int .u64 (yl1.1), .slice A29 x29.length p29] 45)] := OwnS.lit (xs := [(yl1.1, x29)]) (k_2a (a := [.int .u64 (yl1.1), .slice A29 x29.length p29]) ⟨_, rfl, fF29_4⟩ k_4d) (by show 1 ≤ maxLen; decide)
   refine TL.nil (Plan.e1 (sF29_4) ?_)
   refine Plan.s1 14 [15, 16] kA kA rfl ?_
   obtain ⟨k32, y32, r32⟩ := Src.ownA w31
   refine R.app (E := listedE) (e := 45) (xs := xb3l1_0) (ys := [(yl1.1, x29)]) Tryz_ty22 rfl rfl rfl (OwnS.mono wb3l1_0 (sb5_2.trans (s29.trans sF29_4))) (.tl (.tl (.tl .hd))) (r32 _ .hd) y32 (by (try simp only [List.length_append, List.length_cons, List.length_nil, List.length_replicate, List.length_take, List.length_drop]); omega) (by (try simp only [List.length_append, List.length_cons, List.length_nil, List.length_replicate, List.length_take, List.length_drop]); omega) ?_
   intro v32 c32 w32
   obtain ⟨A32, p32, rfl, m32, n32⟩ := OwnS.shape w32
   refine TL.del (.tl .hd) ?_
   refine TL.nil (Plan.e1 (HLe.refl _) ?_)
   refine vA 15 [16] rfl (fun _ _ h_ => R.fldA Tryz.underlying24 rfl Tryz.sizeOf22 (by decide) rfl rfl (TL.nil h_)) ?_
   refine Plan.s1 16 [] kA kA rfl ?_
   refine R.stX (old := [.slice Ab3l1_0 xb3l1_0.length pb3l1_0]) (l := [.slice A32 (xb3l1_0 ++ [(yl1.1, x29)]).length p32]) (new := [.slice A32 (xb3l1_0 ++ [(yl1.1, x29)]).length p32]) (et := 24) Tryz.sizeOf22 rfl rfl rfl (cells1 rfl) rfl (by show 0 + 1 ≤ 1; decide) rfl (k_20 rfl) (.tl .hd) ?_
   refine TL.nil (Plan.e0 (HLe.refl _) ?_)
   refine Plan.done (Post.blkN ?_)
   refine id (Post.thnN ?_)
   refine T.region ?_
   refine R.addI rfl rfl rfl oA ?_
   refine R.mvE rfl cA ?_
   refine nN ?_
   exact ⟨(kl1 + 1, .slice A32 (xb3l1_0 ++ [(yl1.1, x29)]).length p32, (xb3l1_0 ++ [(yl1.1, x29)]), c32), (s_l1.trans (sb5_2.trans (s29.trans sF29_4))), ⟨oA, (Has.cons (.tl .hd) (Has.cons (.tl .hd) (Has.cons .hd Has.nil))), w32, bA, (by subst e29; subst e28; rw [← hQl1, k_16 hyl1, k_43])⟩, by show x12.length - (kl1 + 1) < x12.length - kl1; omega, rfl, rfl, rfl, rfl, rfl, trivial⟩
  refine TL.call [] rfl rfl rfl (clone25_c _ _ x28 r28 bA) ?_
  intro v29 H29 L29 s29 q29
  obtain ⟨c29, rfl, w29⟩ := q29
  obtain ⟨x29, e29⟩ : ∃ x, x = x28 := ⟨_, rfl⟩
  rw [← e29] at w29
  obtain ⟨A29, p29, rfl, m29, n29⟩ := OwnS.shape w29
  have t29 : x29.length = x28.length := by rw [e29]
  refine TL.nil (Plan.e1 (s29) ?_)
  refine vA 12 [1, 13, 14, 15, 16] rfl (fun _ _ h_ => R.bld (cs := [.int .u64 (yl1.1), .slice A29 x29.length p29]) rfl (fun _ => by kernel_rfl) (TL.nil h_)) ?_
  refine Plan.s2 1 13 [13, 14, 15, 16] [1, 14, 15, 16] kA kA kA rfl rfl ?_ ?_
  ·refine R.ld Tryz.isAgg22 rfl rfl (.tl .hd) rfl ?_
   refine TL.nil (Plan.e1 (HLe.refl _) ?_)
   refine Plan.s1 13 [14, 15, 16] kA kA rfl ?_
   refine TL.shut .hd ?_
   intro HF29_7 sF29_7 qF29_7
   have fF29_7 := OwnS.read w29 sF29_7 qF29_7
   refine R.bs (e := 45) (cs := [.int .u64 (yl1.1), .slice A29 x29.length p29]) rfl (fun _ => by kernel_rfl) ?_
   intro b31
   have w31 : OwnS listedE 45 HF29_7 (.slice (some ⟨b31, 0, none⟩) 1 1) [(yl1.1, x29)] [(b31, .cells #[.int .u64 (yl1.1), .slice A29 x29.length p29] 45)] := OwnS.lit (xs := [(yl1.1, x29)]) (k_2a (a := [.int .u64 (yl1.1), .slice A29 x29.length p29]) ⟨_, rfl, fF29_7⟩ k_4d) (by show 1 ≤ maxLen; decide)
   refine TL.nil (Plan.e1 (sF29_7) ?_)
   refine Plan.s1 14 [15, 16] kA kA rfl ?_
   obtain ⟨k32, y32, r32⟩ := Src.ownA w31
   refine R.app (E := listedE) (e := 45) (xs := xb3l1_0) (ys := [(yl1.1, x29)]) Tryz_ty22 rfl rfl rfl (OwnS.mono wb3l1_0 (sb5_2.trans (s29.trans sF29_7))) (.tl (.tl (.tl .hd))) (r32 _ .hd) y32 (by (try simp only [List.length_append, List.length_cons, List.length_nil, List.length_replicate, List.length_take, List.length_drop]); omega) (by (try simp only [List.length_append, List.length_cons, List.length_nil, List.length_replicate, List.length_take, List.length_drop]); omega) ?_
   intro v32 c32 w32
   obtain ⟨A32, p32, rfl, m32, n32⟩ := OwnS.shape w32
   refine TL.del (.tl .hd) ?_
   refine TL.nil (Plan.e1 (HLe.refl _) ?_)
   refine vA 15 [16] rfl (fun _ _ h_ => R.fldA Tryz.underlying24 rfl Tryz.sizeOf22 (by decide) rfl rfl (TL.nil h_)) ?_
   refine Plan.s1 16 [] kA kA rfl ?_
   refine R.stX (old := [.slice Ab3l1_0 xb3l1_0.length pb3l1_0]) (l := [.slice A32 (xb3l1_0 ++ [(yl1.1, x29)]).length p32]) (new := [.slice A32 (xb3l1_0 ++ [(yl1.1, x29)]).length p32]) (et := 24) Tryz.sizeOf22 rfl rfl rfl (cells1 rfl) rfl (by show 0 + 1 ≤ 1; decide) rfl (k_20 rfl) (.tl .hd) ?_
   refine TL.nil (Plan.e0 (HLe.refl _) ?_)
   refine Plan.done (Post.blkN ?_)
   refine id (Post.thnN ?_)
   refine T.region ?_
   refine R.addI rfl rfl rfl oA ?_
   refine R.mvE rfl cA ?_
   refine nN ?_
   exact ⟨(kl1 + 1, .slice A32 (xb3l1_0 ++ [(yl1.1, x29)]).length p32, (xb3l1_0 ++ [(yl1.1, x29)]), c32), (s_l1.trans (sb5_2.trans (s29.trans sF29_7))), ⟨oA, (Has.cons (.tl .hd) (Has.cons (.tl .hd) (Has.cons .hd Has.nil))), w32, bA, (by subst e29; subst e28; rw [← hQl1, k_16 hyl1, k_43])⟩, by show x12.length - (kl1 + 1) < x12.length - kl1; omega, rfl, rfl, rfl, rfl, rfl, trivial⟩
  refine TL.shut .hd ?_
  intro HF29_8 sF29_8 qF29_8
  have fF29_8 := OwnS.read w29 sF29_8 qF29_8
  refine R.bs (e := 45) (cs := [.int .u64 (yl1.1), .slice A29 x29.length p29]) rfl (fun _ => by kernel_rfl) ?_
  intro b31
  have w31 : OwnS listedE 45 HF29_8 (.slice (some ⟨b31, 0, none⟩) 1 1) [(yl1.1, x29)] [(b31, .cells #[.int .u64 (yl1.1), .slice A29 x29.length p29] 45)] := OwnS.lit (xs := [(yl1.1, x29)]) (k_2a (a := [.int .u64 (yl1.1), .slice A29 x29.length p29]) ⟨_, rfl, fF29_8⟩ k_4d) (by show 1 ≤ maxLen; decide)
  refine TL.nil (Plan.e1 (sF29_8) ?_)
  refine Plan.s1 1 [14, 15, 16] kA kA rfl ?_
  refine R.ld Tryz.isAgg22 rfl rfl (.tl .hd) rfl ?_
  refine TL.nil (Plan.e1 (HLe.refl _) ?_)
  refine Plan.s1 14 [15, 16] kA kA rfl ?_
  obtain ⟨k32, y32, r32⟩ := Src.ownA w31
  refine R.app (E := listedE) (e := 45) (xs := xb3l1_0) (ys := [(yl1.1, x29)]) Tryz_ty22 rfl rfl rfl (OwnS.mono wb3l1_0 (sb5_2.trans (s29.trans sF29_8))) (.tl (.tl (.tl .hd))) (r32 _ .hd) y32 (by (try simp only [List.length_append, List.length_cons, List.length_nil, List.length_replicate, List.length_take, List.length_drop]); omega) (by (try simp only [List.length_append, List.length_cons, List.length_nil, List.length_replicate, List.length_take, List.length_drop]); omega) ?_
  intro v32 c32 w32
  obtain ⟨A32, p32, rfl, m32, n32⟩ := OwnS.shape w32
  refine TL.del (.tl .hd) ?_
  refine TL.nil (Plan.e1 (HLe.refl _) ?_)
  refine vA 15 [16] rfl (fun _ _ h_ => R.fldA Tryz.underlying24 rfl Tryz.sizeOf22 (by decide) rfl rfl (TL.nil h_)) ?_
  refine Plan.s1 16 [] kA kA rfl ?_
  refine R.stX (old := [.slice Ab3l1_0 xb3l1_0.length pb3l1_0]) (l := [.slice A32 (xb3l1_0 ++ [(yl1.1, x29)]).length p32]) (new := [.slice A32 (xb3l1_0 ++ [(yl1.1, x29)]).length p32]) (et := 24) Tryz.sizeOf22 rfl rfl rfl (cells1 rfl) rfl (by show 0 + 1 ≤ 1; decide) rfl (k_20 rfl) (.tl .hd) ?_
  refine TL.nil (Plan.e0 (HLe.refl _) ?_)
  refine Plan.done (Post.blkN ?_)
  refine id (Post.thnN ?_)
  refine T.region ?_
  refine R.addI rfl rfl rfl oA ?_
  refine R.mvE rfl cA ?_
  refine nN ?_
  exact ⟨(kl1 + 1, .slice A32 (xb3l1_0 ++ [(yl1.1, x29)]).length p32, (xb3l1_0 ++ [(yl1.1, x29)]), c32), (s_l1.trans (sb5_2.trans (s29.trans sF29_8))), ⟨oA, (Has.cons (.tl .hd) (Has.cons (.tl .hd) (Has.cons .hd Has.nil))), w32, bA, (by subst e29; subst e28; rw [← hQl1, k_16 hyl1, k_43])⟩, by show x12.length - (kl1 + 1) < x12.length - kl1; omega, rfl, rfl, rfl, rfl, rfl, trivial⟩
 refine T.exit (Post.thnE (Post.thnE (Post.blkX ?_)))
 have hEl1 : k_43 x12 [] = xb3l1_0 := (hQl1.symm.trans (by rw [show kl1 = x12.length by omega, List.drop_length, k_43]))
 refine id (Post.thnN ?_)
 refine sR ?_
 refine R.ldX (cs := [.slice Ab3l1_0 xb3l1_0.length pb3l1_0]) (l := [.slice Ab3l1_0 xb3l1_0.length pb3l1_0]) Tryz.isAgg24 Tryz.sizeOf24 rfl rfl .hd rfl rfl ?_
 refine R.stX (old := [.slice none 0 0]) (l := [.slice Ab3l1_0 xb3l1_0.length pb3l1_0]) (new := [.slice Ab3l1_0 xb3l1_0.length pb3l1_0]) (et := 24) Tryz.sizeOf24 rfl rfl rfl rfl rfl (by show 0 + 1 ≤ 1; decide) rfl (k_20 rfl) (.tl .hd) ?_
 refine nN ?_
 refine T.has (Has.cons (.tl (.tl .hd)) (Has.cons (.tl .hd) Has.nil)) ?_
 refine T.ret ?_
 have hM : k_34 a0 = xb3l1_0 := by subst e12; rw [k_34, hEl1, LR.seq_go]
 exact finR1 (v := .agg #[.slice Ab3l1_0 xb3l1_0.length pb3l1_0]) [cb3l1_0] rfl (.cellA (cs := [.slice Ab3l1_0 xb3l1_0.length pb3l1_0]) (l := [.slice Ab3l1_0 xb3l1_0.length pb3l1_0]) Tryz.isAgg24 Tryz.sizeOf24 rfl (.tl .hd) rfl rfl) (List.sublist_append_left ([cb3l1_0] : Own) _) ⟨.slice Ab3l1_0 xb3l1_0.length pb3l1_0, cb3l1_0, by first | rw [hM] | rfl, rfl, by rw [hM]; exact wb3l1_0⟩
theorem own_l1_len : ∀ (l s : List (Int × List Int)), (∀ q ∈ s, q.2.length ≤ 12) → (k_43 l s).length ≤ s.length + l.length ∧ ∀ q ∈ k_43 l s, q.2.length ≤ 12
  | [], s, hs => ⟨Nat.le_refl _, hs⟩
  | y :: ys, s, hs => by
    rw [k_43]
    have := own_l1_len ys (s ++ [(y.1, y.2.take (min y.2.length 12))]) (fun q hq => by
      rcases List.mem_append.1 hq with h | h
      · exact hs q h
      · rw [List.mem_singleton] at h; subst h; simp only [List.length_take]; omega)
    rw [List.length_append, List.length_cons, List.length_nil] at this
    rw [List.length_cons]
    exact ⟨by omega, this.2⟩
theorem own_len (a r : List (Int × List Int)) (e : r = k_34 a) : r.length ≤ 60 ∧ ∀ q ∈ r, q.2.length ≤ 12 := by
  unfold k_34 at e
  rw [LR.seq_go] at e
  have := own_l1_len (a.take (min a.length 60)) [] (by simp)
  rw [e]
  rw [List.length_nil, List.length_take] at this
  exact ⟨by omega, this.2⟩
def k_86 (a0 : List Int) : (List Int) :=
  (a0.take ((min a0.length 16)))
set_option maxHeartbeats 3200000 in
theorem windroselaw14_few_c (H : Heap) (va0 : Value) (a0 : List Int) (ha0 : RdS (intE .u64) H va0 a0) : Fc Tryz.prog (fnv 9) [va0] H [] (fun v' H' L' => ∃ u0_0 c0_0, v' = u0_0 ∧ L' = [c0_0] ∧ OwnS (intE .u64) 43 H' u0_0 (k_86 a0) c0_0) := by
 refine Fc.of_body (N := 9) Tryz.func9 rfl kA rfl rfl ?_
 intro w0
 obtain ⟨Aa0, ca0, rfl, hca0, hda0, ha0⟩ := ha0.shape
 refine sR ?_
 refine R.asE rfl cA ?_
 refine nN ?_
 refine sR ?_
 refine R.mvE rfl cA ?_
 refine R.mvE rfl cA ?_
 refine R.len Tryz.underlying30 rfl rfl ?_
 refine R.min2 rfl rfl rfl ?_
 refine TL.set 6 (.int .i64 ((min a0.length 16 : Nat) : Int)) (congrArg (Value.int .i64) (by split <;> omega)) ?_
 have z7 := RdS.takeC ha0 (i := (min a0.length 16)) oA oA
 obtain ⟨x7, e7⟩ : ∃ x, x = (a0.take ((min a0.length 16))) := ⟨_, rfl⟩
 rw [← e7] at z7
 obtain ⟨A7, p7, q7, m7, n7, r7⟩ := RdS.shape z7
 have t7 : x7.length ≤ a0.length := by rw [e7]; simp; try omega
 have t7_ : x7.length = min ((min a0.length 16)) a0.length := by rw [e7]; simp
 refine R.sH Tryz.underlying30 Tryz.sizeOf43 rfl rfl rfl oA oA  ?_
 refine TL.set 7 (.slice A7 x7.length p7) (by first | exact q7 | (rw [← q7]; simp; done) | (rw [← q7]; rfl)) ?_
 refine TL.call [] rfl rfl rfl (clone30_c _ _ x7 r7 bA) ?_
 intro v8 H8 L8 s8 q8
 obtain ⟨c8, rfl, w8⟩ := q8
 obtain ⟨x8, e8⟩ : ∃ x, x = x7 := ⟨_, rfl⟩
 rw [← e8] at w8
 obtain ⟨A8, p8, rfl, m8, n8⟩ := OwnS.shape w8
 have t8 : x8.length = x7.length := by rw [e8]
 refine R.asE rfl cA ?_
 refine nN ?_
 refine T.has (Has.cons .hd Has.nil) ?_
 refine T.ret ?_
 have hM : k_86 a0 = x8 := by subst e8; subst e7; rw [k_86]
 exact fin1L (v := .slice A8 x8.length p8) [c8] rfl rfl (List.Sublist.refl _) ⟨.slice A8 x8.length p8, c8, by first | rw [hM] | rfl, rfl, by rw [hM]; exact w8⟩
theorem few_len (a r : List Int) (e : r = k_86 a) : r.length ≤ 16 := by
  rw [e, k_86, List.length_take]; omega
def k_9d  : (List Int) × (List Int) :=
  LR.seq (k_9e 3) (fun r7 => LR.seq (k_67 4 5) (fun r11 => ([r7.1], [r7.1, r11.1])))
set_option maxHeartbeats 3200000 in
theorem windroselaw14_types_c (H : Heap) : Fc Tryz.prog (fnv 21) [] H [] (fun v' H' L' => ∃ u0_0 u1_0 c0_0 c1_0, v' = .tuple #[u0_0, u1_0] ∧ L' = [c0_0, c1_0] ∧ OwnS (intE .u64) 43 H' u0_0 k_9d.1 c0_0 ∧ OwnS (intE .u64) 43 H' u1_0 k_9d.2 c1_0) := by
 refine Fc.of_body (N := 19) Tryz.func21 rfl kA rfl rfl ?_
 intro w0
 refine sR ?_
 refine R.asE rfl cA ?_
 refine R.asE rfl cA ?_
 refine nN ?_
 refine sR ?_
 obtain ⟨r7, er7⟩ : ∃ r, r = (k_9e 3) := ⟨_, rfl⟩
 refine R.callv (v := .tuple #[.int .u64 r7.1, .int .i64 r7.2]) rfl rfl rfl (by rw [er7]; exact ident_Component_c _ (3)) ?_
 refine R.mvE rfl cA ?_
 refine R.ext rfl rfl rfl ?_
 refine R.ext rfl rfl rfl ?_
 refine R.asE rfl cA ?_
 refine R.asE rfl cA ?_
 refine nN ?_
 refine sR ?_
 obtain ⟨r11, er11⟩ : ∃ r, r = (k_67 4 5) := ⟨_, rfl⟩
 refine R.callv (v := .tuple #[.int .u64 r11.1, .int .i64 r11.2]) rfl rfl rfl (by rw [er11]; exact ident_Pair_c _ (4) (5)) ?_
 refine R.mvE rfl cA ?_
 refine R.ext rfl rfl rfl ?_
 refine R.ext rfl rfl rfl ?_
 refine R.asE rfl cA ?_
 refine R.asE rfl cA ?_
 refine nN ?_
 refine sR ?_
 refine R.mvE rfl cA ?_
 refine R.bs rfl (k_3f Tryz.underlying30 Tryz.sizeOf43 Tryz.zeroValue43 rfl rfl) ?_
 intro b15
 have w15 : OwnS (intE .u64) 43 H (.slice (some ⟨b15, 0, none⟩) 1 1) [r7.1] [(b15, .cells #[.int .u64 (r7.1)] 43)] := OwnS.lit (xs := [r7.1]) (k_2a (a := [.int .u64 (r7.1)]) rfl k_4d) (by show 1 ≤ maxLen; decide)
 refine R.mvE rfl cA ?_
 refine R.mvE rfl cA ?_
 refine R.bsN [.int .u64 (r7.1), .int .u64 (r11.1)] rfl Tryz.underlying30 Tryz.sizeOf43 Tryz.zeroValue43 rfl rfl rfl rfl rfl rfl ?_
 intro b18
 have w18 : OwnS (intE .u64) 43 H (.slice (some ⟨b18, 0, none⟩) 2 2) [r7.1, r11.1] [(b18, .cells #[.int .u64 (r7.1), .int .u64 (r11.1)] 43)] := OwnS.lit (xs := [r7.1, r11.1]) (k_2a (a := [.int .u64 (r7.1)]) rfl (k_2a (a := [.int .u64 (r11.1)]) rfl k_4d)) (by show 2 ≤ maxLen; decide)
 refine R.asE rfl cA ?_
 refine R.asE rfl cA ?_
 refine nN ?_
 refine T.has (Has.cons (.tl .hd) (Has.cons .hd Has.nil)) ?_
 refine T.ret ?_
 have hM : k_9d = ([r7.1], [r7.1, r11.1]) := by subst er11; subst er7; rw [k_9d, LR.seq_go, LR.seq_go]
 exact fin2L (v := .slice (some ⟨b15, 0, none⟩) 1 1) (v' := .slice (some ⟨b18, 0, none⟩) 2 2) [[(b15, .cells #[.int .u64 (r7.1)] 43)], [(b18, .cells #[.int .u64 (r7.1), .int .u64 (r11.1)] 43)]] rfl rfl rfl (List.Sublist.refl _) ⟨.slice (some ⟨b15, 0, none⟩) 1 1, .slice (some ⟨b18, 0, none⟩) 2 2, [(b15, .cells #[.int .u64 (r7.1)] 43)], [(b18, .cells #[.int .u64 (r7.1), .int .u64 (r11.1)] 43)], by first | rw [hM] | rfl, rfl, by rw [hM]; exact w15, by rw [hM]; exact w18⟩
def k_9  : Bool :=
  LR.seq (k_9d) (fun r12 => LR.seq (k_6b (([] : (List (Int × (List Int))))) 1 r12.1) (fun r18 => LR.seq (k_6b r18.1 2 r12.2) (fun r24 => LR.seq (k_67 4 0) (fun r28 => LR.seq (k_6b r24.1 2 r12.1) (fun r34 => if r18.2 = 0 then (if r24.2 = 0 then (if r28.2 = 0 then (if r34.2 = 5 then (LR.seq (k_44 r12.2) (fun r53 => if (r53.length : Int) = 5 then (LR.seq (k_97 r24.1 (r12.2.getD 0 (0 : Int))) (fun r62 => if r62 = [1, 2] then (LR.seq (k_97 r24.1 r28.1) (fun r69 => if r69 = [2] then (LR.seq (k_b6 r24.1 2) (fun r75 => (decide (r75 = r12.2)))) else false)) else false)) else false)) else false) else false) else false) else false)))))
set_option maxHeartbeats 3200000 in
theorem windroselaw14_wakes_c (H : Heap) : Fv Tryz.prog (fnv 5) [] H (.bool k_9) := by
 refine Fc.of_body (N := 79) Tryz.func5 rfl kA rfl rfl ?_
 intro w0
 refine sR ?_
 refine R.asE rfl cA ?_
 refine nN ?_
 refine sR ?_
 obtain ⟨r12, er12⟩ : ∃ r, r = k_9d := ⟨_, rfl⟩
 refine TL.call [] rfl rfl rfl (windroselaw14_types_c _ ) ?_
 intro v12 H12 L12 s12 q12
 rw [← er12] at q12
 obtain ⟨u12_0_0, u12_1_0, c12_0_0, c12_1_0, rfl, rfl, w12_0_0, w12_1_0⟩ := q12
 obtain ⟨A12_0_0, p12_0_0, rfl, m12_0_0, n12_0_0⟩ := OwnS.shape w12_0_0
 obtain ⟨A12_1_0, p12_1_0, rfl, m12_1_0, n12_1_0⟩ := OwnS.shape w12_1_0
 have tt12 : r12.2.length = 2 := by rw [er12]; rfl
 refine R.mvE rfl cA ?_
 refine R.ext rfl rfl rfl ?_
 refine R.ext rfl rfl rfl ?_
 refine R.asE rfl cA ?_
 refine R.asE rfl cA ?_
 refine nN ?_
 refine sR ?_
 refine R.bld (cs := [.slice none 0 0]) rfl (fun _ => by kernel_rfl) ?_
 refine R.mvE rfl cA ?_
 refine TL.shut .hd ?_
 intro HF12_0_0_1 sF12_0_0_1 qF12_0_0_1
 have fF12_0_0_1 := OwnS.read w12_0_0 sF12_0_0_1 qF12_0_0_1
 obtain ⟨r18, er18⟩ : ∃ r, r = (k_6b (([] : (List (Int × (List Int))))) 1 r12.1) := ⟨_, rfl⟩
 refine TL.call [] rfl rfl rfl (index_Put_c _ (([] : (List (Int × (List Int))))) _ RdS.nil (1) _ r12.1 fF12_0_0_1 (by first | omega | assumption | (simp; done) | (simp; omega) | (simp at *; omega)) (by first | assumption | exact k_c5 (by assumption) oA | (intro r h; simp at h; done))) ?_
 intro v18 H18 L18 s18 q18
 rw [← er18] at q18
 obtain ⟨u18_0_0, c18_0_0, rfl, rfl, w18_0_0⟩ := q18
 obtain ⟨A18_0_0, p18_0_0, rfl, m18_0_0, n18_0_0⟩ := OwnD.shape w18_0_0
 have tpa18 := (put_len _ _ _ _ er18).1
 have tpb18 := (put_len _ _ _ _ er18).2 _ (by first | assumption | exact rows_nil)
 refine R.mvE rfl cA ?_
 refine R.ext rfl rfl rfl ?_
 refine R.ext rfl rfl rfl ?_
 refine R.alloc Tryz.zeroValue24 rfl ?_
 intro b3
 refine R.stX (old := [.slice none 0 0]) (l := [.slice A18_0_0 r18.1.length p18_0_0]) (new := [.slice A18_0_0 r18.1.length p18_0_0]) (et := 24) Tryz.sizeOf24 rfl rfl rfl rfl rfl (by show 0 + 1 ≤ 1; decide) rfl (k_20 rfl) .hd ?_
 refine R.asE rfl cA ?_
 refine TL.shut (.tl .hd) ?_
 intro HF18_0_0_2 sF18_0_0_2 qF18_0_0_2
 have fF18_0_0_2 := OwnD.read w18_0_0 sF18_0_0_2 qF18_0_0_2
 refine TL.shut .hd ?_
 intro Hb3_3 sb3_3 qb3_3
 have hb3_3 : Hb3_3 b3 = some (.cells #[.slice A18_0_0 r18.1.length p18_0_0] 24) := shut1 qb3_3
 refine nN ?_
 refine sR ?_
 refine R.ldXH (cs := [.slice A18_0_0 r18.1.length p18_0_0]) (l := [.slice A18_0_0 r18.1.length p18_0_0]) Tryz.isAgg24 Tryz.sizeOf24 rfl rfl hb3_3 rfl rfl ?_
 refine R.mvE rfl cA ?_
 refine TL.shut .hd ?_
 intro HF12_1_0_4 sF12_1_0_4 qF12_1_0_4
 have fF12_1_0_4 := OwnS.read (OwnS.mono w12_1_0 (sF12_0_0_1.trans (s18.trans (sF18_0_0_2.trans sb3_3)))) sF12_1_0_4 qF12_1_0_4
 obtain ⟨r24, er24⟩ : ∃ r, r = (k_6b r18.1 2 r12.2) := ⟨_, rfl⟩
 refine TL.call [] rfl rfl rfl (index_Put_c _ r18.1 _ (fF18_0_0_2.mono (sb3_3.trans sF12_1_0_4)) (2) _ r12.2 fF12_1_0_4 (by first | omega | assumption | (simp; done) | (simp; omega) | (simp at *; omega)) (by first | assumption | exact k_c5 (by assumption) oA | (intro r h; simp at h; done))) ?_
 intro v24 H24 L24 s24 q24
 rw [← er24] at q24
 obtain ⟨u24_0_0, c24_0_0, rfl, rfl, w24_0_0⟩ := q24
 obtain ⟨A24_0_0, p24_0_0, rfl, m24_0_0, n24_0_0⟩ := OwnD.shape w24_0_0
 have tpa24 := (put_len _ _ _ _ er24).1
 have tpb24 := (put_len _ _ _ _ er24).2 _ (by first | assumption | exact rows_nil)
 refine R.mvE rfl cA ?_
 refine R.ext rfl rfl rfl ?_
 refine R.ext rfl rfl rfl ?_
 refine R.alloc Tryz.zeroValue24 rfl ?_
 intro b5
 refine R.stX (old := [.slice none 0 0]) (l := [.slice A24_0_0 r24.1.length p24_0_0]) (new := [.slice A24_0_0 r24.1.length p24_0_0]) (et := 24) Tryz.sizeOf24 rfl rfl rfl rfl rfl (by show 0 + 1 ≤ 1; decide) rfl (k_20 rfl) .hd ?_
 refine R.asE rfl cA ?_
 refine TL.shut (.tl .hd) ?_
 intro HF24_0_0_5 sF24_0_0_5 qF24_0_0_5
 have fF24_0_0_5 := OwnD.read w24_0_0 sF24_0_0_5 qF24_0_0_5
 refine TL.shut .hd ?_
 intro Hb5_6 sb5_6 qb5_6
 have hb5_6 : Hb5_6 b5 = some (.cells #[.slice A24_0_0 r24.1.length p24_0_0] 24) := shut1 qb5_6
 refine nN ?_
 refine sR ?_
 obtain ⟨r28, er28⟩ : ∃ r, r = (k_67 4 0) := ⟨_, rfl⟩
 refine R.callv (v := .tuple #[.int .u64 r28.1, .int .i64 r28.2]) rfl rfl rfl (by rw [er28]; exact ident_Pair_c _ (4) (0)) ?_
 refine R.mvE rfl cA ?_
 refine R.ext rfl rfl rfl ?_
 refine R.ext rfl rfl rfl ?_
 refine R.asE rfl cA ?_
 refine R.asE rfl cA ?_
 refine nN ?_
 refine sR ?_
 refine R.ldXH (cs := [.slice A24_0_0 r24.1.length p24_0_0]) (l := [.slice A24_0_0 r24.1.length p24_0_0]) Tryz.isAgg24 Tryz.sizeOf24 rfl rfl hb5_6 rfl rfl ?_
 refine R.mvE rfl cA ?_
 obtain ⟨r34, er34⟩ : ∃ r, r = (k_6b r24.1 2 r12.1) := ⟨_, rfl⟩
 refine TL.call [] rfl rfl rfl (index_Put_c _ r24.1 _ (fF24_0_0_5.mono sb5_6) (2) _ r12.1 (fF12_0_0_1.mono (s18.trans (sF18_0_0_2.trans (sb3_3.trans (sF12_1_0_4.trans (s24.trans (sF24_0_0_5.trans sb5_6))))))) (by first | omega | assumption | (simp; done) | (simp; omega) | (simp at *; omega)) (by first | assumption | exact k_c5 (by assumption) oA | (intro r h; simp at h; done))) ?_
 intro v34 H34 L34 s34 q34
 rw [← er34] at q34
 obtain ⟨u34_0_0, c34_0_0, rfl, rfl, w34_0_0⟩ := q34
 obtain ⟨A34_0_0, p34_0_0, rfl, m34_0_0, n34_0_0⟩ := OwnD.shape w34_0_0
 have tpa34 := (put_len _ _ _ _ er34).1
 have tpb34 := (put_len _ _ _ _ er34).2 _ (by first | assumption | exact rows_nil)
 refine R.mvE rfl cA ?_
 refine R.ext rfl rfl rfl ?_
 refine R.ext rfl rfl rfl ?_
 refine R.alloc Tryz.zeroValue24 rfl ?_
 intro b9
 refine R.stX (old := [.slice none 0 0]) (l := [.slice A34_0_0 r34.1.length p34_0_0]) (new := [.slice A34_0_0 r34.1.length p34_0_0]) (et := 24) Tryz.sizeOf24 rfl rfl rfl rfl rfl (by show 0 + 1 ≤ 1; decide) rfl (k_20 rfl) .hd ?_
 refine R.asE rfl cA ?_
 refine TL.shut (.tl .hd) ?_
 intro HF34_0_0_7 sF34_0_0_7 qF34_0_0_7
 have fF34_0_0_7 := OwnD.read w34_0_0 sF34_0_0_7 qF34_0_0_7
 refine TL.shut .hd ?_
 intro Hb9_8 sb9_8 qb9_8
 have hb9_8 : Hb9_8 b9 = some (.cells #[.slice A34_0_0 r34.1.length p34_0_0] 24) := shut1 qb9_8
 refine nN ?_
 refine T.seq ?_
 refine T.draw k_2b kA ?_
 refine vM 0 [1, 2, 3, 4, 5, 6, 7, 8, 9, 10, 11, 12, 13, 14, 15, 16, 17, 18, 19, 20, 21, 22, 23, 24, 25, 26, 27, 28, 29, 30, 31, 32, 33, 34, 35, 36, 37, 38, 39, 40, 41, 42] rfl rfl cA ?_
 refine vA 1 [2, 3, 4, 5, 6, 7, 8, 9, 10, 11, 12, 13, 14, 15, 16, 17, 18, 19, 20, 21, 22, 23, 24, 25, 26, 27, 28, 29, 30, 31, 32, 33, 34, 35, 36, 37, 38, 39, 40, 41, 42] rfl (fun _ _ h_ => R.eql rfl rfl rfl (TL.nil h_)) ?_
 refine vM 2 [3, 4, 5, 6, 7, 8, 9, 10, 11, 12, 13, 14, 15, 16, 17, 18, 19, 20, 21, 22, 23, 24, 25, 26, 27, 28, 29, 30, 31, 32, 33, 34, 35, 36, 37, 38, 39, 40, 41, 42] rfl rfl cA ?_
 refine Plan.gsplitD 39 rfl (fun g39 => ?_) (fun g39 => ?_)
 ·refine vM 3 [4, 5, 6, 7, 8, 9, 10, 11, 12, 13, 14, 15, 16, 17, 18, 19, 20, 21, 22, 23, 24, 25, 26, 27, 28, 29, 30, 31, 32, 33, 34, 35, 36, 37, 38, 39, 40, 41, 42] rfl rfl cA ?_
  refine vA 4 [5, 6, 7, 8, 9, 10, 11, 12, 13, 14, 15, 16, 17, 18, 19, 20, 21, 22, 23, 24, 25, 26, 27, 28, 29, 30, 31, 32, 33, 34, 35, 36, 37, 38, 39, 40, 41, 42] rfl (fun _ _ h_ => R.eql rfl rfl rfl (TL.nil h_)) ?_
  refine vA 5 [6, 7, 8, 9, 10, 11, 12, 13, 14, 15, 16, 17, 18, 19, 20, 21, 22, 23, 24, 25, 26, 27, 28, 29, 30, 31, 32, 33, 34, 35, 36, 37, 38, 39, 40, 41, 42] rfl (fun _ _ h_ => R.pkTE rfl rfl cA (TL.nil h_)) ?_
  refine vM 6 [7, 8, 9, 10, 11, 12, 13, 14, 15, 16, 17, 18, 19, 20, 21, 22, 23, 24, 25, 26, 27, 28, 29, 30, 31, 32, 33, 34, 35, 36, 37, 38, 39, 40, 41, 42] rfl rfl cA ?_
  refine Plan.gsplitD 43 rfl (fun g43 => ?_) (fun g43 => ?_)
  ·refine vM 7 [8, 9, 10, 11, 12, 13, 14, 15, 16, 17, 18, 19, 20, 21, 22, 23, 24, 25, 26, 27, 28, 29, 30, 31, 32, 33, 34, 35, 36, 37, 38, 39, 40, 41, 42] rfl rfl cA ?_
   refine vA 8 [9, 10, 11, 12, 13, 14, 15, 16, 17, 18, 19, 20, 21, 22, 23, 24, 25, 26, 27, 28, 29, 30, 31, 32, 33, 34, 35, 36, 37, 38, 39, 40, 41, 42] rfl (fun _ _ h_ => R.eql rfl rfl rfl (TL.nil h_)) ?_
   refine vA 9 [10, 11, 12, 13, 14, 15, 16, 17, 18, 19, 20, 21, 22, 23, 24, 25, 26, 27, 28, 29, 30, 31, 32, 33, 34, 35, 36, 37, 38, 39, 40, 41, 42] rfl (fun _ _ h_ => R.pkTE rfl rfl cA (TL.nil h_)) ?_
   refine vM 10 [11, 12, 13, 14, 15, 16, 17, 18, 19, 20, 21, 22, 23, 24, 25, 26, 27, 28, 29, 30, 31, 32, 33, 34, 35, 36, 37, 38, 39, 40, 41, 42] rfl rfl cA ?_
   refine Plan.gsplitD 47 rfl (fun g47 => ?_) (fun g47 => ?_)
   ·refine vM 11 [12, 13, 14, 15, 16, 17, 18, 19, 20, 21, 22, 23, 24, 25, 26, 27, 28, 29, 30, 31, 32, 33, 34, 35, 36, 37, 38, 39, 40, 41, 42] rfl rfl cA ?_
    refine vA 12 [13, 14, 15, 16, 17, 18, 19, 20, 21, 22, 23, 24, 25, 26, 27, 28, 29, 30, 31, 32, 33, 34, 35, 36, 37, 38, 39, 40, 41, 42] rfl (fun _ _ h_ => R.eql rfl rfl rfl (TL.nil h_)) ?_
    refine vA 13 [14, 15, 16, 17, 18, 19, 20, 21, 22, 23, 24, 25, 26, 27, 28, 29, 30, 31, 32, 33, 34, 35, 36, 37, 38, 39, 40, 41, 42] rfl (fun _ _ h_ => R.pkTE rfl rfl cA (TL.nil h_)) ?_
    refine vM 14 [15, 16, 17, 18, 19, 20, 21, 22, 23, 24, 25, 26, 27, 28, 29, 30, 31, 32, 33, 34, 35, 36, 37, 38, 39, 40, 41, 42] rfl rfl cA ?_
    refine Plan.gsplitD 51 rfl (fun g51 => ?_) (fun g51 => ?_)
    ·refine vM 15 [16, 17, 18, 19, 20, 21, 22, 23, 24, 25, 26, 27, 28, 29, 30, 31, 32, 33, 34, 35, 36, 37, 38, 39, 40, 41, 42] rfl rfl cA ?_
     refine Plan.s1 16 [17, 18, 19, 20, 21, 22, 23, 24, 25, 26, 27, 28, 29, 30, 31, 32, 33, 34, 35, 36, 37, 38, 39, 40, 41, 42] kA kA rfl ?_
     obtain ⟨r53, er53⟩ : ∃ r, r = (k_44 r12.2) := ⟨_, rfl⟩
     refine TL.call [] rfl rfl rfl (index_Keys_c _ _ r12.2 (fF12_1_0_4.mono (s24.trans (sF24_0_0_5.trans (sb5_6.trans (s34.trans (sF34_0_0_7.trans sb9_8))))))) ?_
     intro v53 H53 L53 s53 q53
     rw [← er53] at q53
     obtain ⟨u53_0_0, c53_0_0, rfl, rfl, w53_0_0⟩ := q53
     obtain ⟨A53_0_0, p53_0_0, rfl, m53_0_0, n53_0_0⟩ := OwnS.shape w53_0_0
     have tK53 := Keys_len _ _ er53
     refine TL.nil (Plan.e1 (s53) ?_)
     refine vA 17 [18, 19, 20, 21, 22, 23, 24, 25, 26, 27, 28, 29, 30, 31, 32, 33, 34, 35, 36, 37, 38, 39, 40, 41, 42] rfl (fun _ _ h_ => R.len Tryz.underlying30 rfl rfl (TL.nil h_)) ?_
     refine vA 18 [19, 20, 21, 22, 23, 24, 25, 26, 27, 28, 29, 30, 31, 32, 33, 34, 35, 36, 37, 38, 39, 40, 41, 42] rfl (fun _ _ h_ => R.eql rfl rfl rfl (TL.nil h_)) ?_
     refine vA 19 [20, 21, 22, 23, 24, 25, 26, 27, 28, 29, 30, 31, 32, 33, 34, 35, 36, 37, 38, 39, 40, 41, 42] rfl (fun _ _ h_ => R.pkTE rfl rfl cA (TL.nil h_)) ?_
     refine vM 20 [21, 22, 23, 24, 25, 26, 27, 28, 29, 30, 31, 32, 33, 34, 35, 36, 37, 38, 39, 40, 41, 42] rfl rfl cA ?_
     refine Plan.gsplitD 57 rfl (fun g57 => ?_) (fun g57 => ?_)
     ·refine vA 21 [22, 23, 24, 25, 26, 27, 28, 29, 30, 31, 32, 33, 34, 35, 36, 37, 38, 39, 40, 41, 42] rfl (fun _ _ h_ => R.ldXH (cs := [.slice A24_0_0 r24.1.length p24_0_0]) (l := [.slice A24_0_0 r24.1.length p24_0_0]) Tryz.isAgg24 Tryz.sizeOf24 rfl rfl ((s34.trans (sF34_0_0_7.trans (sb9_8.trans s53))) _ _ hb5_6) rfl rfl (TL.nil h_)) ?_
      refine vM 22 [23, 24, 25, 26, 27, 28, 29, 30, 31, 32, 33, 34, 35, 36, 37, 38, 39, 40, 41, 42] rfl rfl cA ?_
      have hl60 : 0 < r12.2.length := bA
      obtain ⟨y60, e60, h60⟩ : ∃ y, y = (r12.2.getD 0 (0 : Int)) ∧ r12.2[0]? = some y := ⟨_, rfl, k_6 (by first | exact hl60 | simpa using hl60 | (simp only [List.length_set]; omega) | omega | (rw [(k_1 _).length_eq]; exact hl60))⟩
      obtain ⟨b60, o60, i60, k60⟩ := RdS.elem (fF12_1_0_4.mono (s24.trans (sF24_0_0_5.trans (sb5_6.trans (s34.trans (sF34_0_0_7.trans (sb9_8.trans s53))))))) h60
      obtain ⟨l60, g60, k60⟩ := k60
      obtain rfl : l60 = [.int .u64 y60] := g60
      refine vA 23 [24, 25, 26, 27, 28, 29, 30, 31, 32, 33, 34, 35, 36, 37, 38, 39, 40, 41, 42] rfl (fun _ _ h_ => R.ixp Tryz.underlying30 Tryz.sizeOf43 rfl rfl rfl bA i60 (TL.nil h_)) ?_
      refine vA 24 [25, 26, 27, 28, 29, 30, 31, 32, 33, 34, 35, 36, 37, 38, 39, 40, 41, 42] rfl (fun _ _ h_ => R.ldC Tryz.isAgg43 rfl rfl (k60 0 _ rfl) (TL.nil h_)) ?_
      refine Plan.s2 25 26 [26, 27, 28, 29, 30, 31, 32, 33, 34, 35, 36, 37, 38, 39, 40, 41, 42] [25, 27, 28, 29, 30, 31, 32, 33, 34, 35, 36, 37, 38, 39, 40, 41, 42] kA kA kA rfl rfl ?_ ?_
      ·obtain ⟨r62, er62⟩ : ∃ r, r = (k_97 r24.1 y60) := ⟨_, rfl⟩
       refine TL.call [] rfl rfl rfl (index_Find_c _ r24.1 _ (fF24_0_0_5.mono (sb5_6.trans (s34.trans (sF34_0_0_7.trans (sb9_8.trans s53))))) (y60) (by first | omega | assumption | (simp; done) | (simp; omega) | (simp at *; omega)) (by first | assumption | exact k_c5 (by assumption) oA | (intro r h; simp at h; done))) ?_
       intro v62 H62 L62 s62 q62
       rw [← er62] at q62
       obtain ⟨u62_0_0, c62_0_0, rfl, rfl, w62_0_0⟩ := q62
       obtain ⟨A62_0_0, p62_0_0, rfl, m62_0_0, n62_0_0⟩ := OwnS.shape w62_0_0
       refine TL.nil (Plan.e1 (s62) ?_)
       refine Plan.s1 26 [27, 28, 29, 30, 31, 32, 33, 34, 35, 36, 37, 38, 39, 40, 41, 42] kA kA rfl ?_
       refine R.bsN [.int .i64 1, .int .i64 2] rfl Tryz.underlying25 Tryz.sizeOf3 Tryz.zeroValue3 rfl rfl rfl rfl rfl rfl ?_
       intro b63
       have w63 : OwnS (intE .i64) 3 H62 (.slice (some ⟨b63, 0, none⟩) 2 2) [1, 2] [(b63, .cells #[.int .i64 1, .int .i64 2] 3)] := OwnS.lit (xs := [1, 2]) (k_2a (a := [.int .i64 1]) rfl (k_2a (a := [.int .i64 2]) rfl k_4d)) (by show 2 ≤ maxLen; decide)
       refine TL.nil (Plan.e1 (HLe.refl _) ?_)
       refine Plan.s1 27 [28, 29, 30, 31, 32, 33, 34, 35, 36, 37, 38, 39, 40, 41, 42] kA kA rfl ?_
       refine TL.shut (.tl .hd) ?_
       intro HF62_0_0_11 sF62_0_0_11 qF62_0_0_11
       have fF62_0_0_11 := OwnS.read w62_0_0 sF62_0_0_11 qF62_0_0_11
       refine TL.shut .hd ?_
       intro HF63_12 sF63_12 qF63_12
       have fF63_12 := OwnS.read (OwnS.mono w63 sF62_0_0_11) sF63_12 qF63_12
       refine R.callv rfl rfl rfl (k_ad _ _ r62 (fF62_0_0_11.mono sF63_12) _ ([1, 2]) fF63_12) ?_
       refine TL.nil (Plan.e1 ((sF62_0_0_11.trans sF63_12)) ?_)
       refine vA 28 [29, 30, 31, 32, 33, 34, 35, 36, 37, 38, 39, 40, 41, 42] rfl (fun _ _ h_ => R.pkTE rfl rfl cA (TL.nil h_)) ?_
       refine vM 29 [30, 31, 32, 33, 34, 35, 36, 37, 38, 39, 40, 41, 42] rfl rfl cA ?_
       refine Plan.gsplitD 66 rfl (fun g66 => ?_) (fun g66 => ?_)
       ·refine vA 30 [31, 32, 33, 34, 35, 36, 37, 38, 39, 40, 41, 42] rfl (fun _ _ h_ => R.ldXH (cs := [.slice A24_0_0 r24.1.length p24_0_0]) (l := [.slice A24_0_0 r24.1.length p24_0_0]) Tryz.isAgg24 Tryz.sizeOf24 rfl rfl ((s34.trans (sF34_0_0_7.trans (sb9_8.trans (s53.trans (s62.trans (sF62_0_0_11.trans sF63_12)))))) _ _ hb5_6) rfl rfl (TL.nil h_)) ?_
        refine vM 31 [32, 33, 34, 35, 36, 37, 38, 39, 40, 41, 42] rfl rfl cA ?_
        refine Plan.s2 32 33 [33, 34, 35, 36, 37, 38, 39, 40, 41, 42] [32, 34, 35, 36, 37, 38, 39, 40, 41, 42] kA kA kA rfl rfl ?_ ?_
        ·obtain ⟨r69, er69⟩ : ∃ r, r = (k_97 r24.1 r28.1) := ⟨_, rfl⟩
         refine TL.call [] rfl rfl rfl (index_Find_c _ r24.1 _ (fF24_0_0_5.mono (sb5_6.trans (s34.trans (sF34_0_0_7.trans (sb9_8.trans (s53.trans (s62.trans (sF62_0_0_11.trans sF63_12)))))))) (r28.1) (by first | omega | assumption | (simp; done) | (simp; omega) | (simp at *; omega)) (by first | assumption | exact k_c5 (by assumption) oA | (intro r h; simp at h; done))) ?_
         intro v69 H69 L69 s69 q69
         rw [← er69] at q69
         obtain ⟨u69_0_0, c69_0_0, rfl, rfl, w69_0_0⟩ := q69
         obtain ⟨A69_0_0, p69_0_0, rfl, m69_0_0, n69_0_0⟩ := OwnS.shape w69_0_0
         refine TL.nil (Plan.e1 (s69) ?_)
         refine Plan.s1 33 [34, 35, 36, 37, 38, 39, 40, 41, 42] kA kA rfl ?_
         refine R.bs rfl (k_3f Tryz.underlying25 Tryz.sizeOf3 Tryz.zeroValue3 rfl rfl) ?_
         intro b70
         have w70 : OwnS (intE .i64) 3 H69 (.slice (some ⟨b70, 0, none⟩) 1 1) [2] [(b70, .cells #[.int .i64 2] 3)] := OwnS.lit (xs := [2]) (k_2a (a := [.int .i64 2]) rfl k_4d) (by show 1 ≤ maxLen; decide)
         refine TL.nil (Plan.e1 (HLe.refl _) ?_)
         refine Plan.s1 34 [35, 36, 37, 38, 39, 40, 41, 42] kA kA rfl ?_
         refine TL.shut (.tl .hd) ?_
         intro HF69_0_0_15 sF69_0_0_15 qF69_0_0_15
         have fF69_0_0_15 := OwnS.read w69_0_0 sF69_0_0_15 qF69_0_0_15
         refine TL.shut .hd ?_
         intro HF70_16 sF70_16 qF70_16
         have fF70_16 := OwnS.read (OwnS.mono w70 sF69_0_0_15) sF70_16 qF70_16
         refine R.callv rfl rfl rfl (k_ad _ _ r69 (fF69_0_0_15.mono sF70_16) _ ([2]) fF70_16) ?_
         refine TL.nil (Plan.e1 ((sF69_0_0_15.trans sF70_16)) ?_)
         refine vA 35 [36, 37, 38, 39, 40, 41, 42] rfl (fun _ _ h_ => R.pkTE rfl rfl cA (TL.nil h_)) ?_
         refine vM 36 [37, 38, 39, 40, 41, 42] rfl rfl cA ?_
         refine Plan.gsplitD 73 rfl (fun g73 => ?_) (fun g73 => ?_)
         ·refine vA 37 [38, 39, 40, 41, 42] rfl (fun _ _ h_ => R.ldXH (cs := [.slice A24_0_0 r24.1.length p24_0_0]) (l := [.slice A24_0_0 r24.1.length p24_0_0]) Tryz.isAgg24 Tryz.sizeOf24 rfl rfl ((s34.trans (sF34_0_0_7.trans (sb9_8.trans (s53.trans (s62.trans (sF62_0_0_11.trans (sF63_12.trans (s69.trans (sF69_0_0_15.trans sF70_16))))))))) _ _ hb5_6) rfl rfl (TL.nil h_)) ?_
          refine vM 39 [38, 40, 41, 42] rfl rfl cA ?_
          refine Plan.s1 38 [40, 41, 42] kA kA rfl ?_
          obtain ⟨r75, er75⟩ : ∃ r, r = (k_b6 r24.1 2) := ⟨_, rfl⟩
          refine TL.call [] rfl rfl rfl (index_Type_c _ r24.1 _ (fF24_0_0_5.mono (sb5_6.trans (s34.trans (sF34_0_0_7.trans (sb9_8.trans (s53.trans (s62.trans (sF62_0_0_11.trans (sF63_12.trans (s69.trans (sF69_0_0_15.trans sF70_16))))))))))) (2) (by first | omega | assumption | (simp; done) | (simp; omega) | (simp at *; omega)) (by first | assumption | exact k_c5 (by assumption) oA | (intro r h; simp at h; done))) ?_
          intro v75 H75 L75 s75 q75
          rw [← er75] at q75
          obtain ⟨u75_0_0, c75_0_0, rfl, rfl, w75_0_0⟩ := q75
          obtain ⟨A75_0_0, p75_0_0, rfl, m75_0_0, n75_0_0⟩ := OwnS.shape w75_0_0
          refine TL.nil (Plan.e1 (s75) ?_)
          refine Plan.s1 40 [41, 42] kA kA rfl ?_
          refine TL.shut .hd ?_
          intro HF75_0_0_18 sF75_0_0_18 qF75_0_0_18
          have fF75_0_0_18 := OwnS.read w75_0_0 sF75_0_0_18 qF75_0_0_18
          refine R.callv rfl rfl rfl (k_be _ _ r75 fF75_0_0_18 _ r12.2 (fF12_1_0_4.mono (s24.trans (sF24_0_0_5.trans (sb5_6.trans (s34.trans (sF34_0_0_7.trans (sb9_8.trans (s53.trans (s62.trans (sF62_0_0_11.trans (sF63_12.trans (s69.trans (sF69_0_0_15.trans (sF70_16.trans (s75.trans sF75_0_0_18)))))))))))))))) ?_
          refine TL.nil (Plan.e1 (sF75_0_0_18) ?_)
          refine vA 41 [42] rfl (fun _ _ h_ => R.pkTE rfl rfl cA (TL.nil h_)) ?_
          refine vA 42 [] rfl (fun _ _ h_ => R.asE rfl cA (TL.nil h_)) ?_
          refine Plan.done (Post.thnN ?_)
          refine T.has Has.nil ?_
          refine T.ret ?_
          have hM : k_9 = (decide (r75 = r12.2)) := by subst er75; subst er69; subst er62; subst e60; subst er53; subst er34; subst er28; subst er24; subst er18; subst er12; rw [k_9, LR.seq_go, LR.seq_go, LR.seq_go, LR.seq_go, LR.seq_go, if_pos g39, if_pos g43, if_pos g47, if_pos g51, LR.seq_go, if_pos g57, LR.seq_go, if_pos g66, LR.seq_go, if_pos g73, LR.seq_go]
          exact fin1L (v := .bool (decide (r75 = r12.2))) [] rfl rfl (List.Sublist.refl _) ⟨rfl, by first | rw [hM] | rfl⟩
         refine vO 37 [38, 39, 40, 41, 42] rfl rfl rfl rfl ?_
         refine vO 38 [39, 40, 41, 42] rfl rfl rfl rfl ?_
         refine vO 39 [40, 41, 42] rfl rfl rfl rfl ?_
         refine vO 40 [41, 42] rfl rfl rfl rfl ?_
         refine vA 41 [42] rfl (fun _ _ h_ => R.pkFE rfl rfl cA (TL.nil h_)) ?_
         refine vA 42 [] rfl (fun _ _ h_ => R.asE rfl cA (TL.nil h_)) ?_
         refine Plan.done (Post.thnN ?_)
         refine T.has Has.nil ?_
         refine T.ret ?_
         have hM : k_9 = false := by subst er69; subst er62; subst e60; subst er53; subst er34; subst er28; subst er24; subst er18; subst er12; rw [k_9, LR.seq_go, LR.seq_go, LR.seq_go, LR.seq_go, LR.seq_go, if_pos g39, if_pos g43, if_pos g47, if_pos g51, LR.seq_go, if_pos g57, LR.seq_go, if_pos g66, LR.seq_go, if_neg g73]
         exact fin1L (v := .bool false) [] rfl rfl (List.Sublist.refl _) ⟨rfl, by first | rw [hM] | rfl⟩
        refine R.bs rfl (k_3f Tryz.underlying25 Tryz.sizeOf3 Tryz.zeroValue3 rfl rfl) ?_
        intro b70
        have w70 : OwnS (intE .i64) 3 HF63_12 (.slice (some ⟨b70, 0, none⟩) 1 1) [2] [(b70, .cells #[.int .i64 2] 3)] := OwnS.lit (xs := [2]) (k_2a (a := [.int .i64 2]) rfl k_4d) (by show 1 ≤ maxLen; decide)
        refine TL.nil (Plan.e1 (HLe.refl _) ?_)
        refine Plan.s1 32 [34, 35, 36, 37, 38, 39, 40, 41, 42] kA kA rfl ?_
        obtain ⟨r69, er69⟩ : ∃ r, r = (k_97 r24.1 r28.1) := ⟨_, rfl⟩
        refine TL.call [] rfl rfl rfl (index_Find_c _ r24.1 _ (fF24_0_0_5.mono (sb5_6.trans (s34.trans (sF34_0_0_7.trans (sb9_8.trans (s53.trans (s62.trans (sF62_0_0_11.trans sF63_12)))))))) (r28.1) (by first | omega | assumption | (simp; done) | (simp; omega) | (simp at *; omega)) (by first | assumption | exact k_c5 (by assumption) oA | (intro r h; simp at h; done))) ?_
        intro v69 H69 L69 s69 q69
        rw [← er69] at q69
        obtain ⟨u69_0_0, c69_0_0, rfl, rfl, w69_0_0⟩ := q69
        obtain ⟨A69_0_0, p69_0_0, rfl, m69_0_0, n69_0_0⟩ := OwnS.shape w69_0_0
        refine TL.nil (Plan.e1 (s69) ?_)
        refine Plan.s1 34 [35, 36, 37, 38, 39, 40, 41, 42] kA kA rfl ?_
        refine TL.shut .hd ?_
        intro HF69_0_0_21 sF69_0_0_21 qF69_0_0_21
        have fF69_0_0_21 := OwnS.read w69_0_0 sF69_0_0_21 qF69_0_0_21
        refine TL.shut .hd ?_
        intro HF70_22 sF70_22 qF70_22
        have fF70_22 := OwnS.read (OwnS.mono w70 (s69.trans sF69_0_0_21)) sF70_22 qF70_22
        refine R.callv rfl rfl rfl (k_ad _ _ r69 (fF69_0_0_21.mono sF70_22) _ ([2]) fF70_22) ?_
        refine TL.nil (Plan.e1 ((sF69_0_0_21.trans sF70_22)) ?_)
        refine vA 35 [36, 37, 38, 39, 40, 41, 42] rfl (fun _ _ h_ => R.pkTE rfl rfl cA (TL.nil h_)) ?_
        refine vM 36 [37, 38, 39, 40, 41, 42] rfl rfl cA ?_
        refine Plan.gsplitD 73 rfl (fun g73 => ?_) (fun g73 => ?_)
        ·refine vA 37 [38, 39, 40, 41, 42] rfl (fun _ _ h_ => R.ldXH (cs := [.slice A24_0_0 r24.1.length p24_0_0]) (l := [.slice A24_0_0 r24.1.length p24_0_0]) Tryz.isAgg24 Tryz.sizeOf24 rfl rfl ((s34.trans (sF34_0_0_7.trans (sb9_8.trans (s53.trans (s62.trans (sF62_0_0_11.trans (sF63_12.trans (s69.trans (sF69_0_0_21.trans sF70_22))))))))) _ _ hb5_6) rfl rfl (TL.nil h_)) ?_
         refine vM 39 [38, 40, 41, 42] rfl rfl cA ?_
         refine Plan.s1 38 [40, 41, 42] kA kA rfl ?_
         obtain ⟨r75, er75⟩ : ∃ r, r = (k_b6 r24.1 2) := ⟨_, rfl⟩
         refine TL.call [] rfl rfl rfl (index_Type_c _ r24.1 _ (fF24_0_0_5.mono (sb5_6.trans (s34.trans (sF34_0_0_7.trans (sb9_8.trans (s53.trans (s62.trans (sF62_0_0_11.trans (sF63_12.trans (s69.trans (sF69_0_0_21.trans sF70_22))))))))))) (2) (by first | omega | assumption | (simp; done) | (simp; omega) | (simp at *; omega)) (by first | assumption | exact k_c5 (by assumption) oA | (intro r h; simp at h; done))) ?_
         intro v75 H75 L75 s75 q75
         rw [← er75] at q75
         obtain ⟨u75_0_0, c75_0_0, rfl, rfl, w75_0_0⟩ := q75
         obtain ⟨A75_0_0, p75_0_0, rfl, m75_0_0, n75_0_0⟩ := OwnS.shape w75_0_0
         refine TL.nil (Plan.e1 (s75) ?_)
         refine Plan.s1 40 [41, 42] kA kA rfl ?_
         refine TL.shut .hd ?_
         intro HF75_0_0_24 sF75_0_0_24 qF75_0_0_24
         have fF75_0_0_24 := OwnS.read w75_0_0 sF75_0_0_24 qF75_0_0_24
         refine R.callv rfl rfl rfl (k_be _ _ r75 fF75_0_0_24 _ r12.2 (fF12_1_0_4.mono (s24.trans (sF24_0_0_5.trans (sb5_6.trans (s34.trans (sF34_0_0_7.trans (sb9_8.trans (s53.trans (s62.trans (sF62_0_0_11.trans (sF63_12.trans (s69.trans (sF69_0_0_21.trans (sF70_22.trans (s75.trans sF75_0_0_24)))))))))))))))) ?_
         refine TL.nil (Plan.e1 (sF75_0_0_24) ?_)
         refine vA 41 [42] rfl (fun _ _ h_ => R.pkTE rfl rfl cA (TL.nil h_)) ?_
         refine vA 42 [] rfl (fun _ _ h_ => R.asE rfl cA (TL.nil h_)) ?_
         refine Plan.done (Post.thnN ?_)
         refine T.has Has.nil ?_
         refine T.ret ?_
         have hM : k_9 = (decide (r75 = r12.2)) := by subst er75; subst er69; subst er62; subst e60; subst er53; subst er34; subst er28; subst er24; subst er18; subst er12; rw [k_9, LR.seq_go, LR.seq_go, LR.seq_go, LR.seq_go, LR.seq_go, if_pos g39, if_pos g43, if_pos g47, if_pos g51, LR.seq_go, if_pos g57, LR.seq_go, if_pos g66, LR.seq_go, if_pos g73, LR.seq_go]
         exact fin1L (v := .bool (decide (r75 = r12.2))) [] rfl rfl (List.Sublist.refl _) ⟨rfl, by first | rw [hM] | rfl⟩
        refine vO 37 [38, 39, 40, 41, 42] rfl rfl rfl rfl ?_
        refine vO 38 [39, 40, 41, 42] rfl rfl rfl rfl ?_
        refine vO 39 [40, 41, 42] rfl rfl rfl rfl ?_
        refine vO 40 [41, 42] rfl rfl rfl rfl ?_
        refine vA 41 [42] rfl (fun _ _ h_ => R.pkFE rfl rfl cA (TL.nil h_)) ?_
        refine vA 42 [] rfl (fun _ _ h_ => R.asE rfl cA (TL.nil h_)) ?_
        refine Plan.done (Post.thnN ?_)
        refine T.has Has.nil ?_
        refine T.ret ?_
        have hM : k_9 = false := by subst er69; subst er62; subst e60; subst er53; subst er34; subst er28; subst er24; subst er18; subst er12; rw [k_9, LR.seq_go, LR.seq_go, LR.seq_go, LR.seq_go, LR.seq_go, if_pos g39, if_pos g43, if_pos g47, if_pos g51, LR.seq_go, if_pos g57, LR.seq_go, if_pos g66, LR.seq_go, if_neg g73]
        exact fin1L (v := .bool false) [] rfl rfl (List.Sublist.refl _) ⟨rfl, by first | rw [hM] | rfl⟩
       refine vO 30 [31, 32, 33, 34, 35, 36, 37, 38, 39, 40, 41, 42] rfl rfl rfl rfl ?_
       refine vO 31 [32, 33, 34, 35, 36, 37, 38, 39, 40, 41, 42] rfl rfl rfl rfl ?_
       refine vO 32 [33, 34, 35, 36, 37, 38, 39, 40, 41, 42] rfl rfl rfl rfl ?_
       refine vO 33 [34, 35, 36, 37, 38, 39, 40, 41, 42] rfl rfl rfl rfl ?_
       refine vO 34 [35, 36, 37, 38, 39, 40, 41, 42] rfl rfl rfl rfl ?_
       refine vA 35 [36, 37, 38, 39, 40, 41, 42] rfl (fun _ _ h_ => R.pkFE rfl rfl cA (TL.nil h_)) ?_
       refine vM 36 [37, 38, 39, 40, 41, 42] rfl rfl cA ?_
       refine vO 37 [38, 39, 40, 41, 42] rfl rfl rfl rfl ?_
       refine vO 38 [39, 40, 41, 42] rfl rfl rfl rfl ?_
       refine vO 39 [40, 41, 42] rfl rfl rfl rfl ?_
       refine vO 40 [41, 42] rfl rfl rfl rfl ?_
       refine vA 41 [42] rfl (fun _ _ h_ => R.pkFE rfl rfl cA (TL.nil h_)) ?_
       refine vA 42 [] rfl (fun _ _ h_ => R.asE rfl cA (TL.nil h_)) ?_
       refine Plan.done (Post.thnN ?_)
       refine T.has Has.nil ?_
       refine T.ret ?_
       have hM : k_9 = false := by subst er62; subst e60; subst er53; subst er34; subst er28; subst er24; subst er18; subst er12; rw [k_9, LR.seq_go, LR.seq_go, LR.seq_go, LR.seq_go, LR.seq_go, if_pos g39, if_pos g43, if_pos g47, if_pos g51, LR.seq_go, if_pos g57, LR.seq_go, if_neg g66]
       exact fin1L (v := .bool false) [] rfl rfl (List.Sublist.refl _) ⟨rfl, by first | rw [hM] | rfl⟩
      refine R.bsN [.int .i64 1, .int .i64 2] rfl Tryz.underlying25 Tryz.sizeOf3 Tryz.zeroValue3 rfl rfl rfl rfl rfl rfl ?_
      intro b63
      have w63 : OwnS (intE .i64) 3 H53 (.slice (some ⟨b63, 0, none⟩) 2 2) [1, 2] [(b63, .cells #[.int .i64 1, .int .i64 2] 3)] := OwnS.lit (xs := [1, 2]) (k_2a (a := [.int .i64 1]) rfl (k_2a (a := [.int .i64 2]) rfl k_4d)) (by show 2 ≤ maxLen; decide)
      refine TL.nil (Plan.e1 (HLe.refl _) ?_)
      refine Plan.s1 25 [27, 28, 29, 30, 31, 32, 33, 34, 35, 36, 37, 38, 39, 40, 41, 42] kA kA rfl ?_
      obtain ⟨r62, er62⟩ : ∃ r, r = (k_97 r24.1 y60) := ⟨_, rfl⟩
      refine TL.call [] rfl rfl rfl (index_Find_c _ r24.1 _ (fF24_0_0_5.mono (sb5_6.trans (s34.trans (sF34_0_0_7.trans (sb9_8.trans s53))))) (y60) (by first | omega | assumption | (simp; done) | (simp; omega) | (simp at *; omega)) (by first | assumption | exact k_c5 (by assumption) oA | (intro r h; simp at h; done))) ?_
      intro v62 H62 L62 s62 q62
      rw [← er62] at q62
      obtain ⟨u62_0_0, c62_0_0, rfl, rfl, w62_0_0⟩ := q62
      obtain ⟨A62_0_0, p62_0_0, rfl, m62_0_0, n62_0_0⟩ := OwnS.shape w62_0_0
      refine TL.nil (Plan.e1 (s62) ?_)
      refine Plan.s1 27 [28, 29, 30, 31, 32, 33, 34, 35, 36, 37, 38, 39, 40, 41, 42] kA kA rfl ?_
      refine TL.shut .hd ?_
      intro HF62_0_0_27 sF62_0_0_27 qF62_0_0_27
      have fF62_0_0_27 := OwnS.read w62_0_0 sF62_0_0_27 qF62_0_0_27
      refine TL.shut .hd ?_
      intro HF63_28 sF63_28 qF63_28
      have fF63_28 := OwnS.read (OwnS.mono w63 (s62.trans sF62_0_0_27)) sF63_28 qF63_28
      refine R.callv rfl rfl rfl (k_ad _ _ r62 (fF62_0_0_27.mono sF63_28) _ ([1, 2]) fF63_28) ?_
      refine TL.nil (Plan.e1 ((sF62_0_0_27.trans sF63_28)) ?_)
      refine vA 28 [29, 30, 31, 32, 33, 34, 35, 36, 37, 38, 39, 40, 41, 42] rfl (fun _ _ h_ => R.pkTE rfl rfl cA (TL.nil h_)) ?_
      refine vM 29 [30, 31, 32, 33, 34, 35, 36, 37, 38, 39, 40, 41, 42] rfl rfl cA ?_
      refine Plan.gsplitD 66 rfl (fun g66 => ?_) (fun g66 => ?_)
      ·refine vA 30 [31, 32, 33, 34, 35, 36, 37, 38, 39, 40, 41, 42] rfl (fun _ _ h_ => R.ldXH (cs := [.slice A24_0_0 r24.1.length p24_0_0]) (l := [.slice A24_0_0 r24.1.length p24_0_0]) Tryz.isAgg24 Tryz.sizeOf24 rfl rfl ((s34.trans (sF34_0_0_7.trans (sb9_8.trans (s53.trans (s62.trans (sF62_0_0_27.trans sF63_28)))))) _ _ hb5_6) rfl rfl (TL.nil h_)) ?_
       refine vM 31 [32, 33, 34, 35, 36, 37, 38, 39, 40, 41, 42] rfl rfl cA ?_
       refine Plan.s2 32 33 [33, 34, 35, 36, 37, 38, 39, 40, 41, 42] [32, 34, 35, 36, 37, 38, 39, 40, 41, 42] kA kA kA rfl rfl ?_ ?_
       ·obtain ⟨r69, er69⟩ : ∃ r, r = (k_97 r24.1 r28.1) := ⟨_, rfl⟩
        refine TL.call [] rfl rfl rfl (index_Find_c _ r24.1 _ (fF24_0_0_5.mono (sb5_6.trans (s34.trans (sF34_0_0_7.trans (sb9_8.trans (s53.trans (s62.trans (sF62_0_0_27.trans sF63_28)))))))) (r28.1) (by first | omega | assumption | (simp; done) | (simp; omega) | (simp at *; omega)) (by first | assumption | exact k_c5 (by assumption) oA | (intro r h; simp at h; done))) ?_
        intro v69 H69 L69 s69 q69
        rw [← er69] at q69
        obtain ⟨u69_0_0, c69_0_0, rfl, rfl, w69_0_0⟩ := q69
        obtain ⟨A69_0_0, p69_0_0, rfl, m69_0_0, n69_0_0⟩ := OwnS.shape w69_0_0
        refine TL.nil (Plan.e1 (s69) ?_)
        refine Plan.s1 33 [34, 35, 36, 37, 38, 39, 40, 41, 42] kA kA rfl ?_
        refine R.bs rfl (k_3f Tryz.underlying25 Tryz.sizeOf3 Tryz.zeroValue3 rfl rfl) ?_
        intro b70
        have w70 : OwnS (intE .i64) 3 H69 (.slice (some ⟨b70, 0, none⟩) 1 1) [2] [(b70, .cells #[.int .i64 2] 3)] := OwnS.lit (xs := [2]) (k_2a (a := [.int .i64 2]) rfl k_4d) (by show 1 ≤ maxLen; decide)
        refine TL.nil (Plan.e1 (HLe.refl _) ?_)
        refine Plan.s1 34 [35, 36, 37, 38, 39, 40, 41, 42] kA kA rfl ?_
        refine TL.shut (.tl .hd) ?_
        intro HF69_0_0_31 sF69_0_0_31 qF69_0_0_31
        have fF69_0_0_31 := OwnS.read w69_0_0 sF69_0_0_31 qF69_0_0_31
        refine TL.shut .hd ?_
        intro HF70_32 sF70_32 qF70_32
        have fF70_32 := OwnS.read (OwnS.mono w70 sF69_0_0_31) sF70_32 qF70_32
        refine R.callv rfl rfl rfl (k_ad _ _ r69 (fF69_0_0_31.mono sF70_32) _ ([2]) fF70_32) ?_
        refine TL.nil (Plan.e1 ((sF69_0_0_31.trans sF70_32)) ?_)
        refine vA 35 [36, 37, 38, 39, 40, 41, 42] rfl (fun _ _ h_ => R.pkTE rfl rfl cA (TL.nil h_)) ?_
        refine vM 36 [37, 38, 39, 40, 41, 42] rfl rfl cA ?_
        refine Plan.gsplitD 73 rfl (fun g73 => ?_) (fun g73 => ?_)
        ·refine vA 37 [38, 39, 40, 41, 42] rfl (fun _ _ h_ => R.ldXH (cs := [.slice A24_0_0 r24.1.length p24_0_0]) (l := [.slice A24_0_0 r24.1.length p24_0_0]) Tryz.isAgg24 Tryz.sizeOf24 rfl rfl ((s34.trans (sF34_0_0_7.trans (sb9_8.trans (s53.trans (s62.trans (sF62_0_0_27.trans (sF63_28.trans (s69.trans (sF69_0_0_31.trans sF70_32))))))))) _ _ hb5_6) rfl rfl (TL.nil h_)) ?_
         refine vM 39 [38, 40, 41, 42] rfl rfl cA ?_
         refine Plan.s1 38 [40, 41, 42] kA kA rfl ?_
         obtain ⟨r75, er75⟩ : ∃ r, r = (k_b6 r24.1 2) := ⟨_, rfl⟩
         refine TL.call [] rfl rfl rfl (index_Type_c _ r24.1 _ (fF24_0_0_5.mono (sb5_6.trans (s34.trans (sF34_0_0_7.trans (sb9_8.trans (s53.trans (s62.trans (sF62_0_0_27.trans (sF63_28.trans (s69.trans (sF69_0_0_31.trans sF70_32))))))))))) (2) (by first | omega | assumption | (simp; done) | (simp; omega) | (simp at *; omega)) (by first | assumption | exact k_c5 (by assumption) oA | (intro r h; simp at h; done))) ?_
         intro v75 H75 L75 s75 q75
         rw [← er75] at q75
         obtain ⟨u75_0_0, c75_0_0, rfl, rfl, w75_0_0⟩ := q75
         obtain ⟨A75_0_0, p75_0_0, rfl, m75_0_0, n75_0_0⟩ := OwnS.shape w75_0_0
         refine TL.nil (Plan.e1 (s75) ?_)
         refine Plan.s1 40 [41, 42] kA kA rfl ?_
         refine TL.shut .hd ?_
         intro HF75_0_0_34 sF75_0_0_34 qF75_0_0_34
         have fF75_0_0_34 := OwnS.read w75_0_0 sF75_0_0_34 qF75_0_0_34
         refine R.callv rfl rfl rfl (k_be _ _ r75 fF75_0_0_34 _ r12.2 (fF12_1_0_4.mono (s24.trans (sF24_0_0_5.trans (sb5_6.trans (s34.trans (sF34_0_0_7.trans (sb9_8.trans (s53.trans (s62.trans (sF62_0_0_27.trans (sF63_28.trans (s69.trans (sF69_0_0_31.trans (sF70_32.trans (s75.trans sF75_0_0_34)))))))))))))))) ?_
         refine TL.nil (Plan.e1 (sF75_0_0_34) ?_)
         refine vA 41 [42] rfl (fun _ _ h_ => R.pkTE rfl rfl cA (TL.nil h_)) ?_
         refine vA 42 [] rfl (fun _ _ h_ => R.asE rfl cA (TL.nil h_)) ?_
         refine Plan.done (Post.thnN ?_)
         refine T.has Has.nil ?_
         refine T.ret ?_
         have hM : k_9 = (decide (r75 = r12.2)) := by subst er75; subst er69; subst er62; subst e60; subst er53; subst er34; subst er28; subst er24; subst er18; subst er12; rw [k_9, LR.seq_go, LR.seq_go, LR.seq_go, LR.seq_go, LR.seq_go, if_pos g39, if_pos g43, if_pos g47, if_pos g51, LR.seq_go, if_pos g57, LR.seq_go, if_pos g66, LR.seq_go, if_pos g73, LR.seq_go]
         exact fin1L (v := .bool (decide (r75 = r12.2))) [] rfl rfl (List.Sublist.refl _) ⟨rfl, by first | rw [hM] | rfl⟩
        refine vO 37 [38, 39, 40, 41, 42] rfl rfl rfl rfl ?_
        refine vO 38 [39, 40, 41, 42] rfl rfl rfl rfl ?_
        refine vO 39 [40, 41, 42] rfl rfl rfl rfl ?_
        refine vO 40 [41, 42] rfl rfl rfl rfl ?_
        refine vA 41 [42] rfl (fun _ _ h_ => R.pkFE rfl rfl cA (TL.nil h_)) ?_
        refine vA 42 [] rfl (fun _ _ h_ => R.asE rfl cA (TL.nil h_)) ?_
        refine Plan.done (Post.thnN ?_)
        refine T.has Has.nil ?_
        refine T.ret ?_
        have hM : k_9 = false := by subst er69; subst er62; subst e60; subst er53; subst er34; subst er28; subst er24; subst er18; subst er12; rw [k_9, LR.seq_go, LR.seq_go, LR.seq_go, LR.seq_go, LR.seq_go, if_pos g39, if_pos g43, if_pos g47, if_pos g51, LR.seq_go, if_pos g57, LR.seq_go, if_pos g66, LR.seq_go, if_neg g73]
        exact fin1L (v := .bool false) [] rfl rfl (List.Sublist.refl _) ⟨rfl, by first | rw [hM] | rfl⟩
       refine R.bs rfl (k_3f Tryz.underlying25 Tryz.sizeOf3 Tryz.zeroValue3 rfl rfl) ?_
       intro b70
       have w70 : OwnS (intE .i64) 3 HF63_28 (.slice (some ⟨b70, 0, none⟩) 1 1) [2] [(b70, .cells #[.int .i64 2] 3)] := OwnS.lit (xs := [2]) (k_2a (a := [.int .i64 2]) rfl k_4d) (by show 1 ≤ maxLen; decide)
       refine TL.nil (Plan.e1 (HLe.refl _) ?_)
       refine Plan.s1 32 [34, 35, 36, 37, 38, 39, 40, 41, 42] kA kA rfl ?_
       obtain ⟨r69, er69⟩ : ∃ r, r = (k_97 r24.1 r28.1) := ⟨_, rfl⟩
       refine TL.call [] rfl rfl rfl (index_Find_c _ r24.1 _ (fF24_0_0_5.mono (sb5_6.trans (s34.trans (sF34_0_0_7.trans (sb9_8.trans (s53.trans (s62.trans (sF62_0_0_27.trans sF63_28)))))))) (r28.1) (by first | omega | assumption | (simp; done) | (simp; omega) | (simp at *; omega)) (by first | assumption | exact k_c5 (by assumption) oA | (intro r h; simp at h; done))) ?_
       intro v69 H69 L69 s69 q69
       rw [← er69] at q69
       obtain ⟨u69_0_0, c69_0_0, rfl, rfl, w69_0_0⟩ := q69
       obtain ⟨A69_0_0, p69_0_0, rfl, m69_0_0, n69_0_0⟩ := OwnS.shape w69_0_0
       refine TL.nil (Plan.e1 (s69) ?_)
       refine Plan.s1 34 [35, 36, 37, 38, 39, 40, 41, 42] kA kA rfl ?_
       refine TL.shut .hd ?_
       intro HF69_0_0_37 sF69_0_0_37 qF69_0_0_37
       have fF69_0_0_37 := OwnS.read w69_0_0 sF69_0_0_37 qF69_0_0_37
       refine TL.shut .hd ?_
       intro HF70_38 sF70_38 qF70_38
       have fF70_38 := OwnS.read (OwnS.mono w70 (s69.trans sF69_0_0_37)) sF70_38 qF70_38
       refine R.callv rfl rfl rfl (k_ad _ _ r69 (fF69_0_0_37.mono sF70_38) _ ([2]) fF70_38) ?_
       refine TL.nil (Plan.e1 ((sF69_0_0_37.trans sF70_38)) ?_)
       refine vA 35 [36, 37, 38, 39, 40, 41, 42] rfl (fun _ _ h_ => R.pkTE rfl rfl cA (TL.nil h_)) ?_
       refine vM 36 [37, 38, 39, 40, 41, 42] rfl rfl cA ?_
       refine Plan.gsplitD 73 rfl (fun g73 => ?_) (fun g73 => ?_)
       ·refine vA 37 [38, 39, 40, 41, 42] rfl (fun _ _ h_ => R.ldXH (cs := [.slice A24_0_0 r24.1.length p24_0_0]) (l := [.slice A24_0_0 r24.1.length p24_0_0]) Tryz.isAgg24 Tryz.sizeOf24 rfl rfl ((s34.trans (sF34_0_0_7.trans (sb9_8.trans (s53.trans (s62.trans (sF62_0_0_27.trans (sF63_28.trans (s69.trans (sF69_0_0_37.trans sF70_38))))))))) _ _ hb5_6) rfl rfl (TL.nil h_)) ?_
        refine vM 39 [38, 40, 41, 42] rfl rfl cA ?_
        refine Plan.s1 38 [40, 41, 42] kA kA rfl ?_
        obtain ⟨r75, er75⟩ : ∃ r, r = (k_b6 r24.1 2) := ⟨_, rfl⟩
        refine TL.call [] rfl rfl rfl (index_Type_c _ r24.1 _ (fF24_0_0_5.mono (sb5_6.trans (s34.trans (sF34_0_0_7.trans (sb9_8.trans (s53.trans (s62.trans (sF62_0_0_27.trans (sF63_28.trans (s69.trans (sF69_0_0_37.trans sF70_38))))))))))) (2) (by first | omega | assumption | (simp; done) | (simp; omega) | (simp at *; omega)) (by first | assumption | exact k_c5 (by assumption) oA | (intro r h; simp at h; done))) ?_
        intro v75 H75 L75 s75 q75
        rw [← er75] at q75
        obtain ⟨u75_0_0, c75_0_0, rfl, rfl, w75_0_0⟩ := q75
        obtain ⟨A75_0_0, p75_0_0, rfl, m75_0_0, n75_0_0⟩ := OwnS.shape w75_0_0
        refine TL.nil (Plan.e1 (s75) ?_)
        refine Plan.s1 40 [41, 42] kA kA rfl ?_
        refine TL.shut .hd ?_
        intro HF75_0_0_40 sF75_0_0_40 qF75_0_0_40
        have fF75_0_0_40 := OwnS.read w75_0_0 sF75_0_0_40 qF75_0_0_40
        refine R.callv rfl rfl rfl (k_be _ _ r75 fF75_0_0_40 _ r12.2 (fF12_1_0_4.mono (s24.trans (sF24_0_0_5.trans (sb5_6.trans (s34.trans (sF34_0_0_7.trans (sb9_8.trans (s53.trans (s62.trans (sF62_0_0_27.trans (sF63_28.trans (s69.trans (sF69_0_0_37.trans (sF70_38.trans (s75.trans sF75_0_0_40)))))))))))))))) ?_
        refine TL.nil (Plan.e1 (sF75_0_0_40) ?_)
        refine vA 41 [42] rfl (fun _ _ h_ => R.pkTE rfl rfl cA (TL.nil h_)) ?_
        refine vA 42 [] rfl (fun _ _ h_ => R.asE rfl cA (TL.nil h_)) ?_
        refine Plan.done (Post.thnN ?_)
        refine T.has Has.nil ?_
        refine T.ret ?_
        have hM : k_9 = (decide (r75 = r12.2)) := by subst er75; subst er69; subst er62; subst e60; subst er53; subst er34; subst er28; subst er24; subst er18; subst er12; rw [k_9, LR.seq_go, LR.seq_go, LR.seq_go, LR.seq_go, LR.seq_go, if_pos g39, if_pos g43, if_pos g47, if_pos g51, LR.seq_go, if_pos g57, LR.seq_go, if_pos g66, LR.seq_go, if_pos g73, LR.seq_go]
        exact fin1L (v := .bool (decide (r75 = r12.2))) [] rfl rfl (List.Sublist.refl _) ⟨rfl, by first | rw [hM] | rfl⟩
       refine vO 37 [38, 39, 40, 41, 42] rfl rfl rfl rfl ?_
       refine vO 38 [39, 40, 41, 42] rfl rfl rfl rfl ?_
       refine vO 39 [40, 41, 42] rfl rfl rfl rfl ?_
       refine vO 40 [41, 42] rfl rfl rfl rfl ?_
       refine vA 41 [42] rfl (fun _ _ h_ => R.pkFE rfl rfl cA (TL.nil h_)) ?_
       refine vA 42 [] rfl (fun _ _ h_ => R.asE rfl cA (TL.nil h_)) ?_
       refine Plan.done (Post.thnN ?_)
       refine T.has Has.nil ?_
       refine T.ret ?_
       have hM : k_9 = false := by subst er69; subst er62; subst e60; subst er53; subst er34; subst er28; subst er24; subst er18; subst er12; rw [k_9, LR.seq_go, LR.seq_go, LR.seq_go, LR.seq_go, LR.seq_go, if_pos g39, if_pos g43, if_pos g47, if_pos g51, LR.seq_go, if_pos g57, LR.seq_go, if_pos g66, LR.seq_go, if_neg g73]
       exact fin1L (v := .bool false) [] rfl rfl (List.Sublist.refl _) ⟨rfl, by first | rw [hM] | rfl⟩
      refine vO 30 [31, 32, 33, 34, 35, 36, 37, 38, 39, 40, 41, 42] rfl rfl rfl rfl ?_
      refine vO 31 [32, 33, 34, 35, 36, 37, 38, 39, 40, 41, 42] rfl rfl rfl rfl ?_
      refine vO 32 [33, 34, 35, 36, 37, 38, 39, 40, 41, 42] rfl rfl rfl rfl ?_
      refine vO 33 [34, 35, 36, 37, 38, 39, 40, 41, 42] rfl rfl rfl rfl ?_
      refine vO 34 [35, 36, 37, 38, 39, 40, 41, 42] rfl rfl rfl rfl ?_
      refine vA 35 [36, 37, 38, 39, 40, 41, 42] rfl (fun _ _ h_ => R.pkFE rfl rfl cA (TL.nil h_)) ?_
      refine vM 36 [37, 38, 39, 40, 41, 42] rfl rfl cA ?_
      refine vO 37 [38, 39, 40, 41, 42] rfl rfl rfl rfl ?_
      refine vO 38 [39, 40, 41, 42] rfl rfl rfl rfl ?_
      refine vO 39 [40, 41, 42] rfl rfl rfl rfl ?_
      refine vO 40 [41, 42] rfl rfl rfl rfl ?_
      refine vA 41 [42] rfl (fun _ _ h_ => R.pkFE rfl rfl cA (TL.nil h_)) ?_
      refine vA 42 [] rfl (fun _ _ h_ => R.asE rfl cA (TL.nil h_)) ?_
      refine Plan.done (Post.thnN ?_)
      refine T.has Has.nil ?_
      refine T.ret ?_
      have hM : k_9 = false := by subst er62; subst e60; subst er53; subst er34; subst er28; subst er24; subst er18; subst er12; rw [k_9, LR.seq_go, LR.seq_go, LR.seq_go, LR.seq_go, LR.seq_go, if_pos g39, if_pos g43, if_pos g47, if_pos g51, LR.seq_go, if_pos g57, LR.seq_go, if_neg g66]
      exact fin1L (v := .bool false) [] rfl rfl (List.Sublist.refl _) ⟨rfl, by first | rw [hM] | rfl⟩
     refine vO 21 [22, 23, 24, 25, 26, 27, 28, 29, 30, 31, 32, 33, 34, 35, 36, 37, 38, 39, 40, 41, 42] rfl rfl rfl rfl ?_
     refine vO 22 [23, 24, 25, 26, 27, 28, 29, 30, 31, 32, 33, 34, 35, 36, 37, 38, 39, 40, 41, 42] rfl rfl rfl rfl ?_
     refine vO 23 [24, 25, 26, 27, 28, 29, 30, 31, 32, 33, 34, 35, 36, 37, 38, 39, 40, 41, 42] rfl rfl rfl rfl ?_
     refine vO 24 [25, 26, 27, 28, 29, 30, 31, 32, 33, 34, 35, 36, 37, 38, 39, 40, 41, 42] rfl rfl rfl rfl ?_
     refine vO 25 [26, 27, 28, 29, 30, 31, 32, 33, 34, 35, 36, 37, 38, 39, 40, 41, 42] rfl rfl rfl rfl ?_
     refine vO 26 [27, 28, 29, 30, 31, 32, 33, 34, 35, 36, 37, 38, 39, 40, 41, 42] rfl rfl rfl rfl ?_
     refine vO 27 [28, 29, 30, 31, 32, 33, 34, 35, 36, 37, 38, 39, 40, 41, 42] rfl rfl rfl rfl ?_
     refine vA 28 [29, 30, 31, 32, 33, 34, 35, 36, 37, 38, 39, 40, 41, 42] rfl (fun _ _ h_ => R.pkFE rfl rfl cA (TL.nil h_)) ?_
     refine vM 29 [30, 31, 32, 33, 34, 35, 36, 37, 38, 39, 40, 41, 42] rfl rfl cA ?_
     refine vO 30 [31, 32, 33, 34, 35, 36, 37, 38, 39, 40, 41, 42] rfl rfl rfl rfl ?_
     refine vO 31 [32, 33, 34, 35, 36, 37, 38, 39, 40, 41, 42] rfl rfl rfl rfl ?_
     refine vO 32 [33, 34, 35, 36, 37, 38, 39, 40, 41, 42] rfl rfl rfl rfl ?_
     refine vO 33 [34, 35, 36, 37, 38, 39, 40, 41, 42] rfl rfl rfl rfl ?_
     refine vO 34 [35, 36, 37, 38, 39, 40, 41, 42] rfl rfl rfl rfl ?_
     refine vA 35 [36, 37, 38, 39, 40, 41, 42] rfl (fun _ _ h_ => R.pkFE rfl rfl cA (TL.nil h_)) ?_
     refine vM 36 [37, 38, 39, 40, 41, 42] rfl rfl cA ?_
     refine vO 37 [38, 39, 40, 41, 42] rfl rfl rfl rfl ?_
     refine vO 38 [39, 40, 41, 42] rfl rfl rfl rfl ?_
     refine vO 39 [40, 41, 42] rfl rfl rfl rfl ?_
     refine vO 40 [41, 42] rfl rfl rfl rfl ?_
     refine vA 41 [42] rfl (fun _ _ h_ => R.pkFE rfl rfl cA (TL.nil h_)) ?_
     refine vA 42 [] rfl (fun _ _ h_ => R.asE rfl cA (TL.nil h_)) ?_
     refine Plan.done (Post.thnN ?_)
     refine T.has Has.nil ?_
     refine T.ret ?_
     have hM : k_9 = false := by subst er53; subst er34; subst er28; subst er24; subst er18; subst er12; rw [k_9, LR.seq_go, LR.seq_go, LR.seq_go, LR.seq_go, LR.seq_go, if_pos g39, if_pos g43, if_pos g47, if_pos g51, LR.seq_go, if_neg g57]
     exact fin1L (v := .bool false) [] rfl rfl (List.Sublist.refl _) ⟨rfl, by first | rw [hM] | rfl⟩
    refine vO 15 [16, 17, 18, 19, 20, 21, 22, 23, 24, 25, 26, 27, 28, 29, 30, 31, 32, 33, 34, 35, 36, 37, 38, 39, 40, 41, 42] rfl rfl rfl rfl ?_
    refine vO 16 [17, 18, 19, 20, 21, 22, 23, 24, 25, 26, 27, 28, 29, 30, 31, 32, 33, 34, 35, 36, 37, 38, 39, 40, 41, 42] rfl rfl rfl rfl ?_
    refine vO 17 [18, 19, 20, 21, 22, 23, 24, 25, 26, 27, 28, 29, 30, 31, 32, 33, 34, 35, 36, 37, 38, 39, 40, 41, 42] rfl rfl rfl rfl ?_
    refine vO 18 [19, 20, 21, 22, 23, 24, 25, 26, 27, 28, 29, 30, 31, 32, 33, 34, 35, 36, 37, 38, 39, 40, 41, 42] rfl rfl rfl rfl ?_
    refine vA 19 [20, 21, 22, 23, 24, 25, 26, 27, 28, 29, 30, 31, 32, 33, 34, 35, 36, 37, 38, 39, 40, 41, 42] rfl (fun _ _ h_ => R.pkFE rfl rfl cA (TL.nil h_)) ?_
    refine vM 20 [21, 22, 23, 24, 25, 26, 27, 28, 29, 30, 31, 32, 33, 34, 35, 36, 37, 38, 39, 40, 41, 42] rfl rfl cA ?_
    refine vO 21 [22, 23, 24, 25, 26, 27, 28, 29, 30, 31, 32, 33, 34, 35, 36, 37, 38, 39, 40, 41, 42] rfl rfl rfl rfl ?_
    refine vO 22 [23, 24, 25, 26, 27, 28, 29, 30, 31, 32, 33, 34, 35, 36, 37, 38, 39, 40, 41, 42] rfl rfl rfl rfl ?_
    refine vO 23 [24, 25, 26, 27, 28, 29, 30, 31, 32, 33, 34, 35, 36, 37, 38, 39, 40, 41, 42] rfl rfl rfl rfl ?_
    refine vO 24 [25, 26, 27, 28, 29, 30, 31, 32, 33, 34, 35, 36, 37, 38, 39, 40, 41, 42] rfl rfl rfl rfl ?_
    refine vO 25 [26, 27, 28, 29, 30, 31, 32, 33, 34, 35, 36, 37, 38, 39, 40, 41, 42] rfl rfl rfl rfl ?_
    refine vO 26 [27, 28, 29, 30, 31, 32, 33, 34, 35, 36, 37, 38, 39, 40, 41, 42] rfl rfl rfl rfl ?_
    refine vO 27 [28, 29, 30, 31, 32, 33, 34, 35, 36, 37, 38, 39, 40, 41, 42] rfl rfl rfl rfl ?_
    refine vA 28 [29, 30, 31, 32, 33, 34, 35, 36, 37, 38, 39, 40, 41, 42] rfl (fun _ _ h_ => R.pkFE rfl rfl cA (TL.nil h_)) ?_
    refine vM 29 [30, 31, 32, 33, 34, 35, 36, 37, 38, 39, 40, 41, 42] rfl rfl cA ?_
    refine vO 30 [31, 32, 33, 34, 35, 36, 37, 38, 39, 40, 41, 42] rfl rfl rfl rfl ?_
    refine vO 31 [32, 33, 34, 35, 36, 37, 38, 39, 40, 41, 42] rfl rfl rfl rfl ?_
    refine vO 32 [33, 34, 35, 36, 37, 38, 39, 40, 41, 42] rfl rfl rfl rfl ?_
    refine vO 33 [34, 35, 36, 37, 38, 39, 40, 41, 42] rfl rfl rfl rfl ?_
    refine vO 34 [35, 36, 37, 38, 39, 40, 41, 42] rfl rfl rfl rfl ?_
    refine vA 35 [36, 37, 38, 39, 40, 41, 42] rfl (fun _ _ h_ => R.pkFE rfl rfl cA (TL.nil h_)) ?_
    refine vM 36 [37, 38, 39, 40, 41, 42] rfl rfl cA ?_
    refine vO 37 [38, 39, 40, 41, 42] rfl rfl rfl rfl ?_
    refine vO 38 [39, 40, 41, 42] rfl rfl rfl rfl ?_
    refine vO 39 [40, 41, 42] rfl rfl rfl rfl ?_
    refine vO 40 [41, 42] rfl rfl rfl rfl ?_
    refine vA 41 [42] rfl (fun _ _ h_ => R.pkFE rfl rfl cA (TL.nil h_)) ?_
    refine vA 42 [] rfl (fun _ _ h_ => R.asE rfl cA (TL.nil h_)) ?_
    refine Plan.done (Post.thnN ?_)
    refine T.has Has.nil ?_
    refine T.ret ?_
    have hM : k_9 = false := by subst er34; subst er28; subst er24; subst er18; subst er12; rw [k_9, LR.seq_go, LR.seq_go, LR.seq_go, LR.seq_go, LR.seq_go, if_pos g39, if_pos g43, if_pos g47, if_neg g51]
    exact fin1L (v := .bool false) [] rfl rfl (List.Sublist.refl _) ⟨rfl, by first | rw [hM] | rfl⟩
   refine vO 11 [12, 13, 14, 15, 16, 17, 18, 19, 20, 21, 22, 23, 24, 25, 26, 27, 28, 29, 30, 31, 32, 33, 34, 35, 36, 37, 38, 39, 40, 41, 42] rfl rfl rfl rfl ?_
   refine vO 12 [13, 14, 15, 16, 17, 18, 19, 20, 21, 22, 23, 24, 25, 26, 27, 28, 29, 30, 31, 32, 33, 34, 35, 36, 37, 38, 39, 40, 41, 42] rfl rfl rfl rfl ?_
   refine vA 13 [14, 15, 16, 17, 18, 19, 20, 21, 22, 23, 24, 25, 26, 27, 28, 29, 30, 31, 32, 33, 34, 35, 36, 37, 38, 39, 40, 41, 42] rfl (fun _ _ h_ => R.pkFE rfl rfl cA (TL.nil h_)) ?_
   refine vM 14 [15, 16, 17, 18, 19, 20, 21, 22, 23, 24, 25, 26, 27, 28, 29, 30, 31, 32, 33, 34, 35, 36, 37, 38, 39, 40, 41, 42] rfl rfl cA ?_
   refine vO 15 [16, 17, 18, 19, 20, 21, 22, 23, 24, 25, 26, 27, 28, 29, 30, 31, 32, 33, 34, 35, 36, 37, 38, 39, 40, 41, 42] rfl rfl rfl rfl ?_
   refine vO 16 [17, 18, 19, 20, 21, 22, 23, 24, 25, 26, 27, 28, 29, 30, 31, 32, 33, 34, 35, 36, 37, 38, 39, 40, 41, 42] rfl rfl rfl rfl ?_
   refine vO 17 [18, 19, 20, 21, 22, 23, 24, 25, 26, 27, 28, 29, 30, 31, 32, 33, 34, 35, 36, 37, 38, 39, 40, 41, 42] rfl rfl rfl rfl ?_
   refine vO 18 [19, 20, 21, 22, 23, 24, 25, 26, 27, 28, 29, 30, 31, 32, 33, 34, 35, 36, 37, 38, 39, 40, 41, 42] rfl rfl rfl rfl ?_
   refine vA 19 [20, 21, 22, 23, 24, 25, 26, 27, 28, 29, 30, 31, 32, 33, 34, 35, 36, 37, 38, 39, 40, 41, 42] rfl (fun _ _ h_ => R.pkFE rfl rfl cA (TL.nil h_)) ?_
   refine vM 20 [21, 22, 23, 24, 25, 26, 27, 28, 29, 30, 31, 32, 33, 34, 35, 36, 37, 38, 39, 40, 41, 42] rfl rfl cA ?_
   refine vO 21 [22, 23, 24, 25, 26, 27, 28, 29, 30, 31, 32, 33, 34, 35, 36, 37, 38, 39, 40, 41, 42] rfl rfl rfl rfl ?_
   refine vO 22 [23, 24, 25, 26, 27, 28, 29, 30, 31, 32, 33, 34, 35, 36, 37, 38, 39, 40, 41, 42] rfl rfl rfl rfl ?_
   refine vO 23 [24, 25, 26, 27, 28, 29, 30, 31, 32, 33, 34, 35, 36, 37, 38, 39, 40, 41, 42] rfl rfl rfl rfl ?_
   refine vO 24 [25, 26, 27, 28, 29, 30, 31, 32, 33, 34, 35, 36, 37, 38, 39, 40, 41, 42] rfl rfl rfl rfl ?_
   refine vO 25 [26, 27, 28, 29, 30, 31, 32, 33, 34, 35, 36, 37, 38, 39, 40, 41, 42] rfl rfl rfl rfl ?_
   refine vO 26 [27, 28, 29, 30, 31, 32, 33, 34, 35, 36, 37, 38, 39, 40, 41, 42] rfl rfl rfl rfl ?_
   refine vO 27 [28, 29, 30, 31, 32, 33, 34, 35, 36, 37, 38, 39, 40, 41, 42] rfl rfl rfl rfl ?_
   refine vA 28 [29, 30, 31, 32, 33, 34, 35, 36, 37, 38, 39, 40, 41, 42] rfl (fun _ _ h_ => R.pkFE rfl rfl cA (TL.nil h_)) ?_
   refine vM 29 [30, 31, 32, 33, 34, 35, 36, 37, 38, 39, 40, 41, 42] rfl rfl cA ?_
   refine vO 30 [31, 32, 33, 34, 35, 36, 37, 38, 39, 40, 41, 42] rfl rfl rfl rfl ?_
   refine vO 31 [32, 33, 34, 35, 36, 37, 38, 39, 40, 41, 42] rfl rfl rfl rfl ?_
   refine vO 32 [33, 34, 35, 36, 37, 38, 39, 40, 41, 42] rfl rfl rfl rfl ?_
   refine vO 33 [34, 35, 36, 37, 38, 39, 40, 41, 42] rfl rfl rfl rfl ?_
   refine vO 34 [35, 36, 37, 38, 39, 40, 41, 42] rfl rfl rfl rfl ?_
   refine vA 35 [36, 37, 38, 39, 40, 41, 42] rfl (fun _ _ h_ => R.pkFE rfl rfl cA (TL.nil h_)) ?_
   refine vM 36 [37, 38, 39, 40, 41, 42] rfl rfl cA ?_
   refine vO 37 [38, 39, 40, 41, 42] rfl rfl rfl rfl ?_
   refine vO 38 [39, 40, 41, 42] rfl rfl rfl rfl ?_
   refine vO 39 [40, 41, 42] rfl rfl rfl rfl ?_
   refine vO 40 [41, 42] rfl rfl rfl rfl ?_
   refine vA 41 [42] rfl (fun _ _ h_ => R.pkFE rfl rfl cA (TL.nil h_)) ?_
   refine vA 42 [] rfl (fun _ _ h_ => R.asE rfl cA (TL.nil h_)) ?_
   refine Plan.done (Post.thnN ?_)
   refine T.has Has.nil ?_
   refine T.ret ?_
   have hM : k_9 = false := by subst er34; subst er28; subst er24; subst er18; subst er12; rw [k_9, LR.seq_go, LR.seq_go, LR.seq_go, LR.seq_go, LR.seq_go, if_pos g39, if_pos g43, if_neg g47]
   exact fin1L (v := .bool false) [] rfl rfl (List.Sublist.refl _) ⟨rfl, by first | rw [hM] | rfl⟩
  refine vO 7 [8, 9, 10, 11, 12, 13, 14, 15, 16, 17, 18, 19, 20, 21, 22, 23, 24, 25, 26, 27, 28, 29, 30, 31, 32, 33, 34, 35, 36, 37, 38, 39, 40, 41, 42] rfl rfl rfl rfl ?_
  refine vO 8 [9, 10, 11, 12, 13, 14, 15, 16, 17, 18, 19, 20, 21, 22, 23, 24, 25, 26, 27, 28, 29, 30, 31, 32, 33, 34, 35, 36, 37, 38, 39, 40, 41, 42] rfl rfl rfl rfl ?_
  refine vA 9 [10, 11, 12, 13, 14, 15, 16, 17, 18, 19, 20, 21, 22, 23, 24, 25, 26, 27, 28, 29, 30, 31, 32, 33, 34, 35, 36, 37, 38, 39, 40, 41, 42] rfl (fun _ _ h_ => R.pkFE rfl rfl cA (TL.nil h_)) ?_
  refine vM 10 [11, 12, 13, 14, 15, 16, 17, 18, 19, 20, 21, 22, 23, 24, 25, 26, 27, 28, 29, 30, 31, 32, 33, 34, 35, 36, 37, 38, 39, 40, 41, 42] rfl rfl cA ?_
  refine vO 11 [12, 13, 14, 15, 16, 17, 18, 19, 20, 21, 22, 23, 24, 25, 26, 27, 28, 29, 30, 31, 32, 33, 34, 35, 36, 37, 38, 39, 40, 41, 42] rfl rfl rfl rfl ?_
  refine vO 12 [13, 14, 15, 16, 17, 18, 19, 20, 21, 22, 23, 24, 25, 26, 27, 28, 29, 30, 31, 32, 33, 34, 35, 36, 37, 38, 39, 40, 41, 42] rfl rfl rfl rfl ?_
  refine vA 13 [14, 15, 16, 17, 18, 19, 20, 21, 22, 23, 24, 25, 26, 27, 28, 29, 30, 31, 32, 33, 34, 35, 36, 37, 38, 39, 40, 41, 42] rfl (fun _ _ h_ => R.pkFE rfl rfl cA (TL.nil h_)) ?_
  refine vM 14 [15, 16, 17, 18, 19, 20, 21, 22, 23, 24, 25, 26, 27, 28, 29, 30, 31, 32, 33, 34, 35, 36, 37, 38, 39, 40, 41, 42] rfl rfl cA ?_
  refine vO 15 [16, 17, 18, 19, 20, 21, 22, 23, 24, 25, 26, 27, 28, 29, 30, 31, 32, 33, 34, 35, 36, 37, 38, 39, 40, 41, 42] rfl rfl rfl rfl ?_
  refine vO 16 [17, 18, 19, 20, 21, 22, 23, 24, 25, 26, 27, 28, 29, 30, 31, 32, 33, 34, 35, 36, 37, 38, 39, 40, 41, 42] rfl rfl rfl rfl ?_
  refine vO 17 [18, 19, 20, 21, 22, 23, 24, 25, 26, 27, 28, 29, 30, 31, 32, 33, 34, 35, 36, 37, 38, 39, 40, 41, 42] rfl rfl rfl rfl ?_
  refine vO 18 [19, 20, 21, 22, 23, 24, 25, 26, 27, 28, 29, 30, 31, 32, 33, 34, 35, 36, 37, 38, 39, 40, 41, 42] rfl rfl rfl rfl ?_
  refine vA 19 [20, 21, 22, 23, 24, 25, 26, 27, 28, 29, 30, 31, 32, 33, 34, 35, 36, 37, 38, 39, 40, 41, 42] rfl (fun _ _ h_ => R.pkFE rfl rfl cA (TL.nil h_)) ?_
  refine vM 20 [21, 22, 23, 24, 25, 26, 27, 28, 29, 30, 31, 32, 33, 34, 35, 36, 37, 38, 39, 40, 41, 42] rfl rfl cA ?_
  refine vO 21 [22, 23, 24, 25, 26, 27, 28, 29, 30, 31, 32, 33, 34, 35, 36, 37, 38, 39, 40, 41, 42] rfl rfl rfl rfl ?_
  refine vO 22 [23, 24, 25, 26, 27, 28, 29, 30, 31, 32, 33, 34, 35, 36, 37, 38, 39, 40, 41, 42] rfl rfl rfl rfl ?_
  refine vO 23 [24, 25, 26, 27, 28, 29, 30, 31, 32, 33, 34, 35, 36, 37, 38, 39, 40, 41, 42] rfl rfl rfl rfl ?_
  refine vO 24 [25, 26, 27, 28, 29, 30, 31, 32, 33, 34, 35, 36, 37, 38, 39, 40, 41, 42] rfl rfl rfl rfl ?_
  refine vO 25 [26, 27, 28, 29, 30, 31, 32, 33, 34, 35, 36, 37, 38, 39, 40, 41, 42] rfl rfl rfl rfl ?_
  refine vO 26 [27, 28, 29, 30, 31, 32, 33, 34, 35, 36, 37, 38, 39, 40, 41, 42] rfl rfl rfl rfl ?_
  refine vO 27 [28, 29, 30, 31, 32, 33, 34, 35, 36, 37, 38, 39, 40, 41, 42] rfl rfl rfl rfl ?_
  refine vA 28 [29, 30, 31, 32, 33, 34, 35, 36, 37, 38, 39, 40, 41, 42] rfl (fun _ _ h_ => R.pkFE rfl rfl cA (TL.nil h_)) ?_
  refine vM 29 [30, 31, 32, 33, 34, 35, 36, 37, 38, 39, 40, 41, 42] rfl rfl cA ?_
  refine vO 30 [31, 32, 33, 34, 35, 36, 37, 38, 39, 40, 41, 42] rfl rfl rfl rfl ?_
  refine vO 31 [32, 33, 34, 35, 36, 37, 38, 39, 40, 41, 42] rfl rfl rfl rfl ?_
  refine vO 32 [33, 34, 35, 36, 37, 38, 39, 40, 41, 42] rfl rfl rfl rfl ?_
  refine vO 33 [34, 35, 36, 37, 38, 39, 40, 41, 42] rfl rfl rfl rfl ?_
  refine vO 34 [35, 36, 37, 38, 39, 40, 41, 42] rfl rfl rfl rfl ?_
  refine vA 35 [36, 37, 38, 39, 40, 41, 42] rfl (fun _ _ h_ => R.pkFE rfl rfl cA (TL.nil h_)) ?_
  refine vM 36 [37, 38, 39, 40, 41, 42] rfl rfl cA ?_
  refine vO 37 [38, 39, 40, 41, 42] rfl rfl rfl rfl ?_
  refine vO 38 [39, 40, 41, 42] rfl rfl rfl rfl ?_
  refine vO 39 [40, 41, 42] rfl rfl rfl rfl ?_
  refine vO 40 [41, 42] rfl rfl rfl rfl ?_
  refine vA 41 [42] rfl (fun _ _ h_ => R.pkFE rfl rfl cA (TL.nil h_)) ?_
  refine vA 42 [] rfl (fun _ _ h_ => R.asE rfl cA (TL.nil h_)) ?_
  refine Plan.done (Post.thnN ?_)
  refine T.has Has.nil ?_
  refine T.ret ?_
  have hM : k_9 = false := by subst er34; subst er28; subst er24; subst er18; subst er12; rw [k_9, LR.seq_go, LR.seq_go, LR.seq_go, LR.seq_go, LR.seq_go, if_pos g39, if_neg g43]
  exact fin1L (v := .bool false) [] rfl rfl (List.Sublist.refl _) ⟨rfl, by first | rw [hM] | rfl⟩
 refine vO 3 [4, 5, 6, 7, 8, 9, 10, 11, 12, 13, 14, 15, 16, 17, 18, 19, 20, 21, 22, 23, 24, 25, 26, 27, 28, 29, 30, 31, 32, 33, 34, 35, 36, 37, 38, 39, 40, 41, 42] rfl rfl rfl rfl ?_
 refine vO 4 [5, 6, 7, 8, 9, 10, 11, 12, 13, 14, 15, 16, 17, 18, 19, 20, 21, 22, 23, 24, 25, 26, 27, 28, 29, 30, 31, 32, 33, 34, 35, 36, 37, 38, 39, 40, 41, 42] rfl rfl rfl rfl ?_
 refine vA 5 [6, 7, 8, 9, 10, 11, 12, 13, 14, 15, 16, 17, 18, 19, 20, 21, 22, 23, 24, 25, 26, 27, 28, 29, 30, 31, 32, 33, 34, 35, 36, 37, 38, 39, 40, 41, 42] rfl (fun _ _ h_ => R.pkFE rfl rfl cA (TL.nil h_)) ?_
 refine vM 6 [7, 8, 9, 10, 11, 12, 13, 14, 15, 16, 17, 18, 19, 20, 21, 22, 23, 24, 25, 26, 27, 28, 29, 30, 31, 32, 33, 34, 35, 36, 37, 38, 39, 40, 41, 42] rfl rfl cA ?_
 refine vO 7 [8, 9, 10, 11, 12, 13, 14, 15, 16, 17, 18, 19, 20, 21, 22, 23, 24, 25, 26, 27, 28, 29, 30, 31, 32, 33, 34, 35, 36, 37, 38, 39, 40, 41, 42] rfl rfl rfl rfl ?_
 refine vO 8 [9, 10, 11, 12, 13, 14, 15, 16, 17, 18, 19, 20, 21, 22, 23, 24, 25, 26, 27, 28, 29, 30, 31, 32, 33, 34, 35, 36, 37, 38, 39, 40, 41, 42] rfl rfl rfl rfl ?_
 refine vA 9 [10, 11, 12, 13, 14, 15, 16, 17, 18, 19, 20, 21, 22, 23, 24, 25, 26, 27, 28, 29, 30, 31, 32, 33, 34, 35, 36, 37, 38, 39, 40, 41, 42] rfl (fun _ _ h_ => R.pkFE rfl rfl cA (TL.nil h_)) ?_
 refine vM 10 [11, 12, 13, 14, 15, 16, 17, 18, 19, 20, 21, 22, 23, 24, 25, 26, 27, 28, 29, 30, 31, 32, 33, 34, 35, 36, 37, 38, 39, 40, 41, 42] rfl rfl cA ?_
 refine vO 11 [12, 13, 14, 15, 16, 17, 18, 19, 20, 21, 22, 23, 24, 25, 26, 27, 28, 29, 30, 31, 32, 33, 34, 35, 36, 37, 38, 39, 40, 41, 42] rfl rfl rfl rfl ?_
 refine vO 12 [13, 14, 15, 16, 17, 18, 19, 20, 21, 22, 23, 24, 25, 26, 27, 28, 29, 30, 31, 32, 33, 34, 35, 36, 37, 38, 39, 40, 41, 42] rfl rfl rfl rfl ?_
 refine vA 13 [14, 15, 16, 17, 18, 19, 20, 21, 22, 23, 24, 25, 26, 27, 28, 29, 30, 31, 32, 33, 34, 35, 36, 37, 38, 39, 40, 41, 42] rfl (fun _ _ h_ => R.pkFE rfl rfl cA (TL.nil h_)) ?_
 refine vM 14 [15, 16, 17, 18, 19, 20, 21, 22, 23, 24, 25, 26, 27, 28, 29, 30, 31, 32, 33, 34, 35, 36, 37, 38, 39, 40, 41, 42] rfl rfl cA ?_
 refine vO 15 [16, 17, 18, 19, 20, 21, 22, 23, 24, 25, 26, 27, 28, 29, 30, 31, 32, 33, 34, 35, 36, 37, 38, 39, 40, 41, 42] rfl rfl rfl rfl ?_
 refine vO 16 [17, 18, 19, 20, 21, 22, 23, 24, 25, 26, 27, 28, 29, 30, 31, 32, 33, 34, 35, 36, 37, 38, 39, 40, 41, 42] rfl rfl rfl rfl ?_
 refine vO 17 [18, 19, 20, 21, 22, 23, 24, 25, 26, 27, 28, 29, 30, 31, 32, 33, 34, 35, 36, 37, 38, 39, 40, 41, 42] rfl rfl rfl rfl ?_
 refine vO 18 [19, 20, 21, 22, 23, 24, 25, 26, 27, 28, 29, 30, 31, 32, 33, 34, 35, 36, 37, 38, 39, 40, 41, 42] rfl rfl rfl rfl ?_
 refine vA 19 [20, 21, 22, 23, 24, 25, 26, 27, 28, 29, 30, 31, 32, 33, 34, 35, 36, 37, 38, 39, 40, 41, 42] rfl (fun _ _ h_ => R.pkFE rfl rfl cA (TL.nil h_)) ?_
 refine vM 20 [21, 22, 23, 24, 25, 26, 27, 28, 29, 30, 31, 32, 33, 34, 35, 36, 37, 38, 39, 40, 41, 42] rfl rfl cA ?_
 refine vO 21 [22, 23, 24, 25, 26, 27, 28, 29, 30, 31, 32, 33, 34, 35, 36, 37, 38, 39, 40, 41, 42] rfl rfl rfl rfl ?_
 refine vO 22 [23, 24, 25, 26, 27, 28, 29, 30, 31, 32, 33, 34, 35, 36, 37, 38, 39, 40, 41, 42] rfl rfl rfl rfl ?_
 refine vO 23 [24, 25, 26, 27, 28, 29, 30, 31, 32, 33, 34, 35, 36, 37, 38, 39, 40, 41, 42] rfl rfl rfl rfl ?_
 refine vO 24 [25, 26, 27, 28, 29, 30, 31, 32, 33, 34, 35, 36, 37, 38, 39, 40, 41, 42] rfl rfl rfl rfl ?_
 refine vO 25 [26, 27, 28, 29, 30, 31, 32, 33, 34, 35, 36, 37, 38, 39, 40, 41, 42] rfl rfl rfl rfl ?_
 refine vO 26 [27, 28, 29, 30, 31, 32, 33, 34, 35, 36, 37, 38, 39, 40, 41, 42] rfl rfl rfl rfl ?_
 refine vO 27 [28, 29, 30, 31, 32, 33, 34, 35, 36, 37, 38, 39, 40, 41, 42] rfl rfl rfl rfl ?_
 refine vA 28 [29, 30, 31, 32, 33, 34, 35, 36, 37, 38, 39, 40, 41, 42] rfl (fun _ _ h_ => R.pkFE rfl rfl cA (TL.nil h_)) ?_
 refine vM 29 [30, 31, 32, 33, 34, 35, 36, 37, 38, 39, 40, 41, 42] rfl rfl cA ?_
 refine vO 30 [31, 32, 33, 34, 35, 36, 37, 38, 39, 40, 41, 42] rfl rfl rfl rfl ?_
 refine vO 31 [32, 33, 34, 35, 36, 37, 38, 39, 40, 41, 42] rfl rfl rfl rfl ?_
 refine vO 32 [33, 34, 35, 36, 37, 38, 39, 40, 41, 42] rfl rfl rfl rfl ?_
 refine vO 33 [34, 35, 36, 37, 38, 39, 40, 41, 42] rfl rfl rfl rfl ?_
 refine vO 34 [35, 36, 37, 38, 39, 40, 41, 42] rfl rfl rfl rfl ?_
 refine vA 35 [36, 37, 38, 39, 40, 41, 42] rfl (fun _ _ h_ => R.pkFE rfl rfl cA (TL.nil h_)) ?_
 refine vM 36 [37, 38, 39, 40, 41, 42] rfl rfl cA ?_
 refine vO 37 [38, 39, 40, 41, 42] rfl rfl rfl rfl ?_
 refine vO 38 [39, 40, 41, 42] rfl rfl rfl rfl ?_
 refine vO 39 [40, 41, 42] rfl rfl rfl rfl ?_
 refine vO 40 [41, 42] rfl rfl rfl rfl ?_
 refine vA 41 [42] rfl (fun _ _ h_ => R.pkFE rfl rfl cA (TL.nil h_)) ?_
 refine vA 42 [] rfl (fun _ _ h_ => R.asE rfl cA (TL.nil h_)) ?_
 refine Plan.done (Post.thnN ?_)
 refine T.has Has.nil ?_
 refine T.ret ?_
 have hM : k_9 = false := by subst er34; subst er28; subst er24; subst er18; subst er12; rw [k_9, LR.seq_go, LR.seq_go, LR.seq_go, LR.seq_go, LR.seq_go, if_neg g39]
 exact fin1L (v := .bool false) [] rfl rfl (List.Sublist.refl _) ⟨rfl, by first | rw [hM] | rfl⟩
end Go.SX

set_option linter.unusedVariables false
set_option linter.unusedSimpArgs false
namespace Go.SX
open Go
theorem w14_true : k_9 = true := by kernel_rfl
theorem cmp_Id_eq (x y : Int) : k_47 x y = 0 ↔ x = y := by
  unfold k_47 k_9c
  simp only [ne_eq, not_true_eq_false, decide_false, Bool.false_eq_true, if_false]
  by_cases h : x < y
  · rw [if_pos h]; exact ⟨fun q => (by cases q), fun q => by omega⟩
  · rw [if_neg h]
    by_cases h2 : y < x
    · rw [if_pos h2]; exact ⟨fun q => (by cases q), fun q => by omega⟩
    · rw [if_neg h2]; exact ⟨fun _ => by omega, fun _ => rfl⟩
/-- the ids, in their order -/
def idAt (x : Ix) (k : Nat) : Int := (x.map Prod.fst).getD k 0
theorem idAt_lt {x : Ix} (hs : (x.map Prod.fst).Pairwise (· < ·)) {i j : Nat} (h : i < j) (hj : j < x.length) : idAt x i < idAt x j := by
  unfold idAt
  have hj' : j < (x.map Prod.fst).length := by rw [List.length_map]; exact hj
  rw [List.getD_eq_getElem?_getD, List.getD_eq_getElem?_getD, List.getElem?_eq_getElem hj', List.getElem?_eq_getElem (by omega : i < (x.map Prod.fst).length)]
  exact (List.pairwise_iff_getElem.1 hs) i j (by omega) hj' h
theorem bf_lb (x : Ix) (t : Int) (tt : List Int) (hs : (x.map Prod.fst).Pairwise (· < ·)) (hl : x.length ≤ 2000000) : ∀ (k m i j : Nat), j - i ≤ k → k < m → i ≤ j → j ≤ x.length →
    (∀ q, q < i → idAt x q < t) → (∀ q, j ≤ q → q < x.length → t ≤ idAt x q) →
    ∃ n o : Nat, k_11 x (t, tt) (fun z0 z1 => k_2d z0 z1) m ((i : Int), (j : Int)) = ((n : Int), (o : Int)) ∧ n ≤ x.length ∧ (∀ q, q < n → idAt x q < t) ∧ (∀ q, n ≤ q → q < x.length → t ≤ idAt x q)
  | k, 0, i, j, _, h, _, _, _, _ => by omega
  | k, m + 1, i, j, h1, h2, h3, h4, h5, h6 => by
    simp only [k_11]
    by_cases h : i < j
    · rw [if_pos (show (i : Int) < (j : Int) by omega), midI (i := (i : Int)) (j := (j : Int)) (by omega) (by omega) (by omega)]
      obtain ⟨d, hd⟩ : ∃ d : Nat, d = (i + j) / 2 := ⟨_, rfl⟩
      have e1 : ((i : Int) + (j : Int)) / 2 = (d : Int) := by omega
      have d1 : i ≤ d := by omega
      have d2 : d < j := by omega
      rw [e1, Int.toNat_natCast]
      have hc : k_2d (x.getD d (0, [])) (t, tt) < 0 ↔ idAt x d < t := by
        unfold k_2d idAt
        rw [cmp_Id_lt, getD_fst]
      cases k with
      | zero => omega
      | succ k =>
        by_cases q : idAt x d < t
        · rw [if_pos (hc.2 q), show (d : Int) + 1 = ((d + 1 : Nat) : Int) by omega]
          refine bf_lb x t tt hs hl k m (d + 1) j (by omega) (by omega) (by omega) h4 (fun z hz => ?_) h6
          rcases Nat.lt_or_ge z d with e | e
          · exact Int.lt_trans (idAt_lt hs e (by omega)) q
          · have : z = d := by omega
            rw [this]; exact q
        · rw [if_neg (fun z => q (hc.1 z))]
          refine bf_lb x t tt hs hl k m i d (by omega) (by omega) d1 (by omega) h5 (fun z hz hzl => ?_)
          rcases Nat.eq_or_lt_of_le hz with e | e
          · subst e; omega
          · have := idAt_lt hs e hzl; omega
    · rw [if_neg (show ¬ (i : Int) < (j : Int) by omega)]
      exact ⟨i, j, rfl, by omega, h5, fun q h7 h8 => h6 q (by omega) h8⟩
theorem bf_find (x : Ix) (t : Int) (tt : List Int) (hs : (x.map Prod.fst).Pairwise (· < ·)) (hl : x.length ≤ 2000000) :
    (∃ (n : Nat) (r : Int × List Int), x[n]? = some r ∧ r.1 = t ∧ k_5 x (t, tt) (fun z0 z1 => k_2d z0 z1) = ((n : Int), true)) ∨
    ((∀ r ∈ x, r.1 ≠ t) ∧ (k_5 x (t, tt) (fun z0 z1 => k_2d z0 z1)).2 = false) := by
  obtain ⟨n, o, h1, h2, h3, h4⟩ := bf_lb x t tt hs hl x.length (((x.length : Int) - 0).toNat + 1) 0 x.length (by omega) (by omega) (by omega) (Nat.le_refl _) (fun q h => by omega) (fun q h h' => by omega)
  unfold k_5
  simp only [LR.seq_go]
  rw [show ((0 : Int), (x.length : Int)) = (((0 : Nat) : Int), (x.length : Int)) from rfl, h1]
  have hno : (∀ k, k < x.length → idAt x k ≠ t) → ∀ r ∈ x, r.1 ≠ t := fun hk r hr e => by
    obtain ⟨i, hi⟩ := List.mem_iff_getElem?.1 hr
    refine hk i (List.getElem?_eq_some_iff.1 hi).1 ?_
    unfold idAt
    rw [List.getD_eq_getElem?_getD, List.getElem?_map, hi]; exact e
  by_cases hn : n < x.length
  · rw [if_pos (show (n : Int) < (x.length : Int) by omega), Int.toNat_natCast]
    have hx : x[n]? = some x[n] := List.getElem?_eq_getElem hn
    have hid : idAt x n = x[n].1 := by unfold idAt; rw [List.getD_eq_getElem?_getD, List.getElem?_map, hx]; rfl
    have hc : k_2d (x.getD n (0, [])) (t, tt) = 0 ↔ idAt x n = t := by
      unfold k_2d idAt
      rw [cmp_Id_eq, getD_fst]
    by_cases e : idAt x n = t
    · rw [decide_eq_true (hc.2 e)]
      exact .inl ⟨n, x[n], hx, by rw [← hid]; exact e, rfl⟩
    · rw [decide_eq_false (fun z => e (hc.1 z))]
      refine .inr ⟨hno (fun k hk q => ?_), rfl⟩
      rcases Nat.lt_trichotomy k n with z | z | z
      · have := h3 k z; omega
      · subst z; exact e q
      · have := idAt_lt hs z hk
        have := h4 n (Nat.le_refl _) hn
        omega
  · rw [if_neg (show ¬ (n : Int) < (x.length : Int) by omega)]
    exact .inr ⟨hno (fun k hk q => by have := h3 k (by omega); omega), rfl⟩
/-- the tables of an id -/
def findA : Ix → Int → List Int
  | [], _ => []
  | r :: x, t => if r.1 = t then r.2 else findA x t
theorem findA_mem : ∀ {x : Ix} (hs : (x.map Prod.fst).Pairwise (· < ·)) {r : Int × List Int}, r ∈ x → findA x r.1 = r.2
  | [], _, r, h => by cases h
  | q :: x, hs, r, h => by
    rw [List.map_cons, List.pairwise_cons] at hs
    rw [findA]
    rcases List.mem_cons.1 h with rfl | h
    · rw [if_pos rfl]
    · rw [if_neg (fun e => by have := hs.1 r.1 (List.mem_map_of_mem h); omega), findA_mem hs.2 h]
theorem findA_no : ∀ {x : Ix} {t : Int}, (∀ r ∈ x, r.1 ≠ t) → findA x t = []
  | [], _, _ => rfl
  | q :: x, t, h => by rw [findA, if_neg (h q (List.mem_cons_self ..)), findA_no (fun r hr => h r (List.mem_cons_of_mem _ hr))]
theorem own14_l1 : ∀ (l s : Ix), k_43 l s = s ++ l.map (fun r => (r.1, r.2.take (min r.2.length 12)))
  | [], s => by simp [k_43]
  | y :: ys, s => by rw [k_43, own14_l1 ys]; simp
theorem own14_eq (x : Ix) : k_34 x = (x.take (min x.length 60)).map (fun r => (r.1, r.2.take (min r.2.length 12))) := by
  unfold k_34
  rw [LR.seq_go, own14_l1, List.nil_append]
theorem own14_U {x : Ix} (h : ∀ r ∈ x, U r.1) : ∀ r ∈ k_34 x, U r.1 := by
  rw [own14_eq]
  intro r hr
  obtain ⟨q, hq, rfl⟩ := List.mem_map.1 hr
  exact h q (List.mem_of_mem_take hq)
theorem inA_mem {x : Ix} {n y : Int} : y ∈ inA x n ↔ ∃ r ∈ x, n ∈ r.2 ∧ r.1 = y := by
  unfold inA
  rw [List.mem_map]
  constructor
  · rintro ⟨r, hr, e⟩
    obtain ⟨h1, h2⟩ := List.mem_filter.1 hr
    exact ⟨r, h1, of_decide_eq_true h2, e⟩
  · rintro ⟨r, h1, h2, e⟩
    exact ⟨r, List.mem_filter.2 ⟨h1, decide_eq_true h2⟩, e⟩
theorem bareA_mem {l : List Int} {y : Int} : y ∈ bareA l ↔ y ∈ l ∧ kindG y ≠ 4 := by
  unfold bareA
  rw [List.mem_filter, Bool.not_eq_true', decide_eq_false_iff_not]
end Go.SX
