/- SX: cutting slices, making them, storing into them; structs. -/
import Derived.Test.YtkhjpgimjkofcaaSx5
import Derived.Test.YtkhjpgimjkofcaaSx6
set_option linter.unusedVariables false
set_option linter.unusedSimpArgs false
namespace Go.SX
open Go
attribute [local semireducible] T TL

/-- x[l:h:m] of elements of sz cells. -/
def slcV (v : Value) (l h m sz : Nat) : Value := match v with
  | .slice A _ _ => .slice (if m = l then A else A.map (·.add (l * sz))) (h - l) (m - l)
  | v => v

theorem RdS.slc {α : Type} {E : ER α} {H : Heap} {A : Option Addr} {c : Nat} {xs : List α} (hr : RdS E H (.slice A xs.length c) xs) {l h m : Nat} (h1 : l ≤ h) (h2 : h ≤ xs.length) (h3 : h ≤ m) (h4 : m ≤ c) :
    RdS E H (slcV (.slice A xs.length c) l h m E.size) ((xs.take h).drop l) := by
  obtain ⟨A', c', e, h5, h6, h7⟩ := hr
  cases e
  have hlen : ((xs.take h).drop l).length = h - l := by simp; omega
  refine ⟨_, m - l, by rw [hlen]; rfl, by rw [hlen]; omega, by omega, fun i y hy => ?_⟩
  have hi : i < h - l := by rw [← hlen]; exact (List.getElem?_eq_some_iff.1 hy).1
  rw [List.getElem?_drop, List.getElem?_take_of_lt (by omega)] at hy
  obtain ⟨b, o, rfl, he⟩ := h7 _ y hy
  rw [if_neg (by omega)]
  refine ⟨b, o + l * E.size, by simp [Addr.add_lit], ?_⟩
  rw [Nat.add_assoc, ← Nat.add_mul]
  exact he

theorem OwnS.take {α : Type} {E : ER α} {e : TypeId} {H : Heap} {v : Value} {xs : List α} {c : Chunk} (h : OwnS E e H v xs c) {i cap : Nat} (hi : i ≤ xs.length) (hv : ∃ A n, v = .slice A n cap) : OwnS E e H (slcV v 0 i cap E.size) (xs.take i) c := by
  obtain ⟨A, n, hv⟩ := hv
  rcases h with ⟨rfl, rfl, rfl⟩ | ⟨b, cap', cs, rfl, rfl, h3, h4, h5, h6⟩
  · have : i = 0 := by simpa using hi
    subst this
    cases hv
    exact .inl ⟨by simp [slcV], by simp, rfl⟩
  · cases hv
    have hlen : (xs.take i).length = i := by simp; omega
    refine .inr ⟨b, cap, cs, by simp only [slcV, Nat.zero_mul]; rw [hlen]; split <;> simp [Addr.add], rfl, by rw [hlen]; omega, h4, h5, fun k y hy => ?_⟩
    have hk : k < i := by rw [← hlen]; exact (List.getElem?_eq_some_iff.1 hy).1
    rw [List.getElem?_take_of_lt hk] at hy
    exact h6 k y hy

/-- The end of a row of one's own, as a source. -/
theorem Src.ownDrop {α : Type} {E : ER α} {e : TypeId} {H : Heap} {L : Own} {v : Value} {xs : List α} {c : Chunk} (h : OwnS E e H v xs c) (hin : In L c) {j m : Nat} (hj : j ≤ xs.length) (hm : xs.length ≤ m) :
    ∃ cs, CellsOf E H cs (xs.drop j) ∧ Src H L (slcV v j xs.length m E.size) (xs.drop j).length cs := by
  rcases h with ⟨rfl, rfl, rfl⟩ | ⟨b, cap, ar, rfl, rfl, h3, h4, h5, h6⟩
  · exact ⟨[], by simp [CellsOf], by
      refine ⟨none, m - j, ?_, .inl rfl, fun b o e => by cases e⟩
      simp [slcV]⟩
  · obtain ⟨cs, h7, h8⟩ := cells_of_get (H := H) (xs.drop j) (fun q => ar[j * E.size + q]?) (fun i y hy => by
      rw [List.getElem?_drop] at hy
      obtain ⟨l, h9, h10⟩ := h6 _ y hy
      exact ⟨l, h9, fun q u hq => by have := h10 q u hq; rw [Nat.add_mul, Nat.add_assoc] at this; exact this⟩)
    by_cases hmj : m = j
    · have : xs.drop j = [] := List.drop_eq_nil_of_le (by omega)
      rw [this] at h7 ⊢
      have h7' : cs = [] := h7
      subst h7'
      refine ⟨[], rfl, some ⟨b, 0, none⟩, m - j, ?_, .inl rfl, fun b o e hd w hs q u hq => by simp at hq⟩
      have : xs.length - j = 0 := by omega
      simp [slcV, hmj, this]
    · refine ⟨cs, h7, some ⟨b, j * E.size, none⟩, m - j, ?_, .inr ⟨b, _, rfl⟩, fun b' o' e' hd w hs q u hq => ?_⟩
      · simp [slcV, hmj, Addr.add_lit]
      · cases e'
        have hb := hs.l (b, .cells ar e) (List.mem_append_left _ (hin.mem (List.mem_singleton.2 rfl)))
        exact cell_of_heap hb (h8 q u hq)

section
variable {fr : Fr} {x : Cx} {Q : Post} {σ : Env} {H : Heap} {L : Own} {ds : List Nat} {ol rest : List Oper}
variable {d : Nat} {ty : TypeId} {p : String} {af : Array Edge} {g : Option (Nat × Bool)}
variable {t e : TypeId} {X lo hi mx : Operand} {A : Option Addr} {n c sz : Nat} {kl kh km : IntKind} {l h m : Int}

theorem R.sLH (ht : fr.P.underlying t = some (.slice e)) (hsz : ∀ w, (sizeOf e).run fr.P w = .ok sz w) (hw : wan fr.N ol σ d g = true) (hx : ev σ X = .slice A n c) (hl : ev σ lo = .int kl l) (hh : ev σ hi = .int kh h)
    (h0 : 0 ≤ l) (h1 : l ≤ h) (h2 : h ≤ c) (hk : TL fr x ol rest Q (upd σ d (slcV (.slice A n c) l.toNat h.toNat c sz)) H L ds) : TL fr x ol (⟨some d, .slice t X (some lo) (some hi) none, ty, p, af, g⟩ :: rest) Q σ H L ds :=
  TL.pureE hw rfl (fun w => by
    have b1 := fun code => run_sliceBound (P := fr.P) w kh h c code (by omega) (by omega)
    have b2 := fun code => run_sliceBound (P := fr.P) w kl l h.toNat code h0 (by omega)
    simp [execOp, Instr.sliceAt, run_underlying ht, Instr.slice, Instr.sliceBounds, hx, hl, hh, b1, b2, hsz, slcV]) hk
theorem R.sH (ht : fr.P.underlying t = some (.slice e)) (hsz : ∀ w, (sizeOf e).run fr.P w = .ok sz w) (hw : wan fr.N ol σ d g = true) (hx : ev σ X = .slice A n c) (hh : ev σ hi = .int kh h)
    (h0 : 0 ≤ h) (h2 : h ≤ c) (hk : TL fr x ol rest Q (upd σ d (slcV (.slice A n c) 0 h.toNat c sz)) H L ds) : TL fr x ol (⟨some d, .slice t X none (some hi) none, ty, p, af, g⟩ :: rest) Q σ H L ds :=
  TL.pureE hw rfl (fun w => by
    have a1 : 0 ≤ h ∧ h ≤ (c : Int) := by omega
    simp [execOp, Instr.sliceAt, run_underlying ht, Instr.slice, Instr.sliceBounds, Instr.sliceBound, asIntOf, hx, hh, a1, hsz, slcV]) hk
theorem R.sL (ht : fr.P.underlying t = some (.slice e)) (hsz : ∀ w, (sizeOf e).run fr.P w = .ok sz w) (hw : wan fr.N ol σ d g = true) (hx : ev σ X = .slice A n c) (hl : ev σ lo = .int kl l)
    (h0 : 0 ≤ l) (h2 : l ≤ n) (hk : TL fr x ol rest Q (upd σ d (slcV (.slice A n c) l.toNat n c sz)) H L ds) : TL fr x ol (⟨some d, .slice t X (some lo) none none, ty, p, af, g⟩ :: rest) Q σ H L ds :=
  TL.pureE hw rfl (fun w => by
    simp [execOp, Instr.sliceAt, run_underlying ht, Instr.slice, Instr.sliceBounds, Instr.sliceBound, asIntOf, hx, hl, h0, h2, hsz, slcV]) hk
theorem R.sHM (ht : fr.P.underlying t = some (.slice e)) (hsz : ∀ w, (sizeOf e).run fr.P w = .ok sz w) (hw : wan fr.N ol σ d g = true) (hx : ev σ X = .slice A n c) (hh : ev σ hi = .int kh h) (hm : ev σ mx = .int km m)
    (h0 : 0 ≤ h) (h1 : h ≤ m) (h2 : m ≤ c) (hk : TL fr x ol rest Q (upd σ d (slcV (.slice A n c) 0 h.toNat m.toNat sz)) H L ds) : TL fr x ol (⟨some d, .slice t X none (some hi) (some mx), ty, p, af, g⟩ :: rest) Q σ H L ds :=
  TL.pureE hw rfl (fun w => by
    have b1 := fun code => run_sliceBound (P := fr.P) w km m c code (by omega) (by omega)
    have b2 := fun code => run_sliceBound (P := fr.P) w kh h m.toNat code h0 (by omega)
    simp [execOp, Instr.sliceAt, run_underlying ht, Instr.slice, Instr.sliceBounds, hx, hh, hm, b1, b2, hsz, slcV]) hk
theorem R.sLHM (ht : fr.P.underlying t = some (.slice e)) (hsz : ∀ w, (sizeOf e).run fr.P w = .ok sz w) (hw : wan fr.N ol σ d g = true) (hx : ev σ X = .slice A n c) (hl : ev σ lo = .int kl l) (hh : ev σ hi = .int kh h) (hm : ev σ mx = .int km m)
    (h0 : 0 ≤ l) (h1 : l ≤ h) (h3 : h ≤ m) (h2 : m ≤ c) (hk : TL fr x ol rest Q (upd σ d (slcV (.slice A n c) l.toNat h.toNat m.toNat sz)) H L ds) : TL fr x ol (⟨some d, .slice t X (some lo) (some hi) (some mx), ty, p, af, g⟩ :: rest) Q σ H L ds :=
  TL.pureE hw rfl (fun w => by
    have b1 := fun code => run_sliceBound (P := fr.P) w km m c code (by omega) (by omega)
    have b2 := fun code => run_sliceBound (P := fr.P) w kh h m.toNat code (by omega) (by omega)
    have b3 := fun code => run_sliceBound (P := fr.P) w kl l h.toNat code h0 (by omega)
    simp [execOp, Instr.sliceAt, run_underlying ht, Instr.slice, Instr.sliceBounds, hx, hl, hh, hm, b1, b2, b3, hsz, slcV]) hk

/-- append to a slice without room that is only read: a row of one's own. -/
theorem R.appN {α : Type} {E : ER α} {bytes : Nat} {S : Operand} {xv : Value} {xs ys : List α} {cells : List Value} (hty : TyE fr.P t e E bytes) (hw : wan fr.N ol σ d g = true)
    (hs : ev σ S = .slice A xs.length xs.length) (hx : ev σ X = xv) (hr : RdS E H (.slice A xs.length xs.length) xs) (hsrc : Src H L xv ys.length cells) (hys : CellsOf E H cells ys) (hy0 : ys ≠ [])
    (h63 : xs.length + ys.length ≤ 4611686018427387904) (hby : (xs.length + ys.length) * bytes ≤ 140737488355328)
    (hk : ∀ v' c', OwnS E e H v' (xs ++ ys) c' → TL fr x ol rest Q (upd σ d v') H (c' :: L) ds) :
    TL fr x ol (⟨some d, .call { callee := .builtin .append, args := #[S, X], argTypes := #[t, t] }, ty, p, af, g⟩ :: rest) Q σ H L ds := by
  obtain ⟨ht, ⟨i, z, hi, hz, hsize, hbytes, hzs⟩, hpos⟩ := hty
  refine TL.value hw rfl (fun w hst => ?_)
  have hex : (execOp (ev σ) ⟨some d, .call { callee := .builtin .append, args := #[S, X], argTypes := #[t, t] }, ty, p, af, g⟩) = (do pure (Next.value (← Builtin.append_ #[t, t] ty #[.slice A xs.length xs.length, xv]))) := by
    simp [execOp, resolve, invoke, builtin, hs, hx]
  rw [hex]
  obtain ⟨AX, cx, rfl, hA, hcell⟩ := hsrc
  have hlen := hys.length
  have hmax : xs.length + ys.length ≤ maxLen := by unfold maxLen; omega
  have hylen : 0 < ys.length := by cases ys with | nil => exact absurd rfl hy0 | cons _ _ => simp
  have hne : cells ≠ [] := by
    intro e
    rw [e] at hlen
    simp only [List.length_nil] at hlen
    have := Nat.mul_pos hylen hpos
    omega
  obtain ⟨sb, so, rfl⟩ := hA.resolve_left hne
  have hnews : ∀ j u, cells[j]? = some u → w.cell? ((⟨sb, so, none⟩ : Addr).add j) = some u := fun j u hj => by rw [Addr.add_lit]; exact hcell sb so rfl _ w hst.sat j u hj
  have hnl : cells.length = ys.length * i.size := by rw [hsize]; exact hlen
  obtain ⟨old, hold, hsrc0⟩ := Src.rd (L := L) hr
  obtain ⟨A0, c0, e0, hA0, hc0⟩ := hsrc0
  cases e0
  have hol := hold.length
  have hns : Builtin.nextslicecap (xs.length + ys.length) xs.length * i.bytes ≤ 281474976710656 := by
    have h1 : Builtin.nextslicecap (xs.length + ys.length) xs.length ≤ 2 * (xs.length + ys.length) := nextslicecap_le (by omega)
    rw [hbytes]
    calc Builtin.nextslicecap (xs.length + ys.length) xs.length * bytes ≤ 2 * (xs.length + ys.length) * bytes := Nat.mul_le_mul_right _ h1
      _ ≤ 281474976710656 := by rw [Nat.mul_assoc]; omega
  have hge := grownCap_ge w (xs.length + ys.length) xs.length e
  have hcm := grownCap_le_maxLen w (xs.length + ys.length) xs.length e hmax
  have hrun : (Builtin.append_ #[t, t] ty #[.slice A xs.length xs.length, .slice (some ⟨sb, so, none⟩) ys.length cx]).run fr.P w =
      .ok (.slice (some ⟨w.heap.size, 0, none⟩) (xs.length + ys.length) (grownCap w (xs.length + ys.length) xs.length e))
        (w.drew.alloc (.cells (old.toArray ++ cells.toArray ++ Builtin.zeroCells z.cells (grownCap w (xs.length + ys.length) xs.length e - (xs.length + ys.length))) e)) := by
    rcases hA0 with rfl | ⟨b, o, rfl⟩
    · have h0 : xs = [] := by
        cases xs with
        | nil => rfl
        | cons a r => exact absurd hol.symm (Nat.ne_of_gt (Nat.mul_pos (Nat.succ_pos r.length) hpos))
      subst h0
      cases A with
      | none =>
        have := run_append_nil (P := fr.P) w t ty e i z ht hi hz ⟨sb, so, none⟩ ys.length cx cells hnl hnews hylen (by simp at h63; omega) (by rw [hbytes]; simp at hby; omega)
        simpa using this
      | some ad =>
        have := run_append_grow (P := fr.P) w t ty e i z ht hi hz ad 0 0 [] (by simp) (fun j u hj => by simp at hj) ⟨sb, so, none⟩ ys.length cx cells hnl hnews (by omega) (by simp at h63; omega) (by simpa using hns)
        simpa using this
    · exact run_append_grow (P := fr.P) w t ty e i z ht hi hz ⟨b, o, none⟩ xs.length xs.length old (by rw [hsize]; exact hol) (fun j u hj => by rw [Addr.add_lit]; exact hc0 b o rfl _ w hst.sat j u hj) ⟨sb, so, none⟩ ys.length cx cells hnl hnews (by omega) (by omega) hns
  refine ⟨_, _, H, [(w.heap.size, .cells (old.toArray ++ cells.toArray ++ Builtin.zeroCells z.cells (grownCap w (xs.length + ys.length) xs.length e - (xs.length + ys.length))) e)] :: L, run_value hrun, ?_, hk _ _ ?_⟩
  · have h1 := hst.drew.alloc (.cells (old.toArray ++ cells.toArray ++ Builtin.zeroCells z.cells (grownCap w (xs.length + ys.length) xs.length e - (xs.length + ys.length))) e)
    simpa using h1
  · refine own_after hold hys (fun j u hj => ?_) _ _ hge hcm (by
      simp only [Array.size_append, List.size_toArray, zeroCells_size, hzs, hlen, hol, ← Nat.add_mul]
      congr 1
      omega)
    have hlt := (List.getElem?_eq_some_iff.1 hj).1
    rw [Array.getElem?_append_left (by simpa using hlt)]
    simpa using hj

/-- make([]T, n): n zeros of one's own. -/
theorem R.mks {α : Type} {E : ER α} {bytes : Nat} {z0 : α} {zc : List Value} {N C : Operand} {q : Nat} {kn kc : IntKind} (hty : TyE fr.P t e E bytes) (hz : ∀ i z, fr.P.info? e = some i → i.zero = some z → z.cells.toList = zc) (hz0 : ∀ H, E.R H zc z0) (hw : wan fr.N ol σ d g = true)
    (hn : ev σ N = .int kn (q : Nat)) (hc : ev σ C = .int kc (q : Nat)) (hq : q ≤ 4611686018427387904) (hby : bytes * q ≤ 281474976710656)
    (hk : ∀ v' c', OwnS E e H v' (List.replicate q z0) c' → TL fr x ol rest Q (upd σ d v') H (c' :: L) ds) :
    TL fr x ol (⟨some d, .makeSlice t N C, ty, p, af, g⟩ :: rest) Q σ H L ds := by
  obtain ⟨ht, ⟨i, z, hi, hzz, hsize, hbytes, hzs⟩, hpos⟩ := hty
  refine TL.value hw rfl (fun w hst => ?_)
  have hrun := run_make (P := fr.P) w t e i z ht hi hzz kn kc (q : Int) (q : Int) (by omega) (by omega) (by
    rw [hbytes]
    have : ((bytes * q : Nat) : Int) ≤ 281474976710656 := by omega
    rwa [Int.natCast_mul] at this) (by omega)
  simp only [Int.toNat_natCast] at hrun
  refine ⟨.slice (some ⟨w.heap.size, 0, none⟩) q q, w.alloc (.cells (madeCells z.cells (q * i.size)) e), H, [(w.heap.size, .cells (madeCells z.cells (q * i.size)) e)] :: L, ?_, ?_, hk (.slice (some ⟨w.heap.size, 0, none⟩) q q) _ ?_⟩
  · simp only [execOp, hn, hc]
    exact run_value hrun
  · have h2 := hst.alloc (.cells (madeCells z.cells (q * i.size)) e)
    simpa using h2
  · have hzc := hz i z hi hzz
    refine .inr ⟨w.heap.size, q, madeCells z.cells (q * i.size), by simp, rfl, by simp, by unfold maxLen; omega, by rw [size_madeCells, hsize], fun j y hy => ?_⟩
    have hjq : j < q := by have := (List.getElem?_eq_some_iff.1 hy).1; simpa using this
    rw [List.getElem?_replicate, if_pos hjq] at hy
    injection hy with hy
    subst hy
    refine ⟨zc, hz0 H, fun r u hr => ?_⟩
    have hrl : r < E.size := by rw [← E.len (hz0 H)]; exact (List.getElem?_eq_some_iff.1 hr).1
    have hlt : j * E.size + r < q * i.size := by
      rw [hsize]
      calc j * E.size + r < j * E.size + E.size := by omega
        _ = (j + 1) * E.size := by rw [Nat.add_mul, Nat.one_mul]
        _ ≤ q * E.size := Nat.mul_le_mul_right _ hjq
    unfold madeCells
    rw [Array.getElem?_map, Array.getElem?_range, if_pos hlt]
    simp only [Option.map_some]
    rw [hzs, Nat.mul_comm, Nat.mul_add_mod, Nat.mod_eq_of_lt hrl]
    have : z.cells[r]? = some u := by rw [← Array.getElem?_toList, hzc]; exact hr
    rw [getElem!_pos z.cells r (by rw [hzs]; exact hrl)]
    rw [Array.getElem?_eq_getElem (by rw [hzs]; exact hrl)] at this
    exact this

/-- copy(dst, src), src as long as dst: dst becomes it. -/
theorem R.copy {α : Type} {E : ER α} {bytes : Nat} {S : Operand} {v xv : Value} {xs ys : List α} {ch : Chunk} {R : Own} {cells : List Value} {t2 : TypeId} (hty : TyE fr.P t e E bytes) (hw : wants ol σ g = true) {dd : Option Nat} (hdd : ∀ q, dd = some q → Nat.blt q fr.N = true)
    (hs : ev σ S = v) (hx : ev σ X = xv) (hown : OwnS E e H v xs ch) (hdel : Del L ch R) (hsrc : Src H L xv ys.length cells) (hys : CellsOf E H cells ys) (hlen : ys.length = xs.length)
    (hk : ∀ c', OwnS E e H v ys c' → TL fr x ol rest Q (match dd with | some q => upd σ q (.int .i64 xs.length) | none => σ) H (c' :: R) ds) :
    TL fr x ol (⟨dd, .call { callee := .builtin .copy, args := #[S, X], argTypes := #[t, t2] }, ty, p, af, g⟩ :: rest) Q σ H L ds := by
  obtain ⟨ht, ⟨i, z, hi, hzz, hsize, hbytes, hzs⟩, hpos⟩ := hty
  intro a w hsim hd hst
  have hst1 : St x H (ch ++ (R.flatten ++ hid fr.rd ds)) w := hst.perm (by rw [← List.append_assoc]; exact hdel.perm.append_right _)
  obtain ⟨AX, cx, rfl, hA, hcell⟩ := hsrc
  have hcl := hys.length
  have hfirst : (Builtin.firstCells E.size ys.length (.slice AX ys.length cx)).run fr.P w = .ok cells.toArray w := by
    rcases hA with rfl | ⟨sb, so, rfl⟩
    · have h0 : ys.length * E.size = 0 := by rw [← hcl]; rfl
      have h1 : ys.length = 0 := by rcases Nat.mul_eq_zero.1 h0 with h | h <;> omega
      cases AX <;> simp [Builtin.firstCells, h1, loadCells, loadCellsFrom]
    · exact run_firstCells_some w E.size ys.length ⟨sb, so, none⟩ ys.length cx cells hcl (fun j u hj => by rw [Addr.add_lit]; exact hcell sb so rfl _ w hst.sat j u hj)
  have hszr : ∀ w, (sizeOf e).run fr.P w = .ok E.size w := fun w => by simp [sizeOf, typeInfo, hi, hsize]
  unfold wpLo
  rw [if_pos (wanted_of hsim hw)]
  refine ⟨fun f _ => fenceFn _ f, ?_⟩
  rw [semAt_of rfl, hsim.eval]
  have hex : (execOp (ev σ) ⟨dd, .call { callee := .builtin .copy, args := #[S, X], argTypes := #[t, t2] }, ty, p, af, g⟩) = (do pure (Next.value (← Builtin.copy_ #[t, t2] ty #[v, .slice AX ys.length cx]))) := by
    simp [execOp, resolve, invoke, builtin, hs, hx]
  rw [hex]
  have fin : ∀ (c' : Chunk) (w' : World), OwnS E e H v ys c' → St x H (c' ++ (R.flatten ++ hid fr.rd ds)) w' → wpLo (fence fr.rd) fr.P ol.toArray (lift fr x Q) rest (a.put dd (.int .i64 xs.length)) w' := by
    intro c' w' ho h2
    have hk' := hk c' ho
    cases dd with
    | none => exact hk' a w' hsim hd (by simpa using h2)
    | some q => exact hk' _ w' (hsim.putA q _ (hdd q rfl)) hd (by simpa using h2)
  rcases hown with ⟨rfl, rfl, rfl⟩ | ⟨b, cap, cs, rfl, rfl, h3, h4, h5, h6⟩
  · have hy : ys = [] := List.length_eq_zero_iff.1 (by simpa using hlen)
    subst hy
    have hrun : (Builtin.copy_ #[t, t2] ty #[.slice none 0 0, .slice AX 0 cx]).run fr.P w = .ok (.int .i64 0) w := by
      simp only [List.length_nil] at hfirst
      simp [Builtin.copy_, run_underlying ht, Builtin.lenOf, hszr, hfirst, goInt]
    simp only [List.length_nil] at fin ⊢
    rw [run_value hrun]
    exact fin [] w (.inl ⟨rfl, rfl, rfl⟩) hst1
  · have hb := hst1.sat.l (b, .cells cs e) (List.mem_append_left _ (List.mem_singleton.2 rfl))
    simp only at hb
    have hfit : 0 + 0 + cells.length ≤ cs.size := by
      rw [hcl, h5, hlen]; simp only [Nat.zero_add]; exact Nat.mul_le_mul_right _ h3
    have hstore := run_storeCells_at fr.P b 0 e cells 0 cs w hb hfit hys.one
    simp only [Nat.zero_add, List.take_zero, List.nil_append] at hstore
    have hrun : (Builtin.copy_ #[t, t2] ty #[.slice (some ⟨b, 0, none⟩) xs.length cap, .slice AX ys.length cx]).run fr.P w = .ok (.int .i64 xs.length) (w.setRow b (cells ++ cs.toList.drop cells.length).toArray) := by
      rw [hlen] at hfirst ⊢
      simp [Builtin.copy_, run_underlying ht, Builtin.lenOf, hszr, hfirst, hstore, goInt]
    rw [run_value hrun]
    have hcs : (cells ++ cs.toList.drop cells.length).length = cs.size := by
      have := hfit
      simp only [List.length_append, List.length_drop, Array.length_toList]; omega
    refine fin [(b, .cells (cells ++ cs.toList.drop cells.length).toArray e)] _ ?_ ?_
    · refine .inr ⟨b, cap, _, by rw [hlen], rfl, by omega, h4, by rw [List.size_toArray, hcs]; exact h5, fun j y hy => ?_⟩
      obtain ⟨l, h7, h8⟩ := hys.get j y hy
      refine ⟨l, h7, fun r u hr => ?_⟩
      have h9 := h8 r u hr
      rw [List.getElem?_toArray, List.getElem?_append_left (List.getElem?_eq_some_iff.1 h9).1]
      exact h9
    · refine hst1.turn (o' := .cells (cells ++ cs.toList.drop cells.length).toArray e) rfl rfl rfl (by simp [World.setRow]) (by simp only [World.setRow]; rw [Array.getElem?_modify, if_pos rfl, hb]; rfl) (fun c hc => by
        simp only [World.setRow, Array.getElem?_modify]
        rw [if_neg (fun e => hc e.symm)])

/-- A store into an element (one cell) of a row of one's own. -/
theorem R.stE {α : Type} {E : ER α} {te : TypeId} {Ad V : Operand} {v u : Value} {xs : List α} {y : α} {ch : Chunk} {R : Own} {j b : Nat} (hsz : ∀ w, (sizeOf te).run fr.P w = .ok 1 w) (hw : wants ol σ g = true) (hE : E.size = 1)
    (hown : OwnS E e H v xs ch) (hdel : Del L ch R) (hix : IxAt v E.size j b (j * E.size)) (ha : ev σ Ad = .pointer (some ⟨b, j * E.size, none⟩)) (hv : ev σ V = u) (hy : E.R H [u] y)
    (hk : ∀ c', OwnS E e H v (xs.set j y) c' → TL fr x ol rest Q σ H (c' :: R) ds) :
    TL fr x ol (⟨none, .store te Ad V, ty, p, af, g⟩ :: rest) Q σ H L ds := by
  intro a w hs hd hst
  have hst1 : St x H (ch ++ (R.flatten ++ hid fr.rd ds)) w := hst.perm (by rw [← List.append_assoc]; exact hdel.perm.append_right _)
  have h1 := E.one hy u (List.mem_singleton.2 rfl)
  obtain ⟨o0, n0, c0, hv0, hjn, _⟩ := hix
  rcases hown with ⟨rfl, rfl, rfl⟩ | ⟨b', cap, cs, rfl, rfl, h3, h4, h5, h6⟩
  · cases hv0
  · cases hv0
    rw [hE, Nat.mul_one] at ha h5
    have hb := hst1.sat.l (b, .cells cs e) (List.mem_append_left _ (List.mem_singleton.2 rfl))
    simp only at hb
    have hlt : j < cs.size := by rw [h5]; omega
    have hc : w.cell? ⟨b, j, none⟩ = some cs[j] := cell_of_heap hb (Array.getElem?_eq_getElem hlt)
    have hfz : w.frozen? ⟨b, j, none⟩ = false := by simp [World.frozen?, hb]
    have hcs : u.cells = #[u] := by cases u <;> first | rfl | cases h1
    have hst2 := hst1.turn (w' := w.setCell ⟨b, j, none⟩ u) (o' := .cells (cs.setIfInBounds j u) e) rfl rfl rfl (by simp) (by simp only [World.setCell]; rw [Array.getElem?_modify, if_pos rfl, hb]; rfl) (fun c hc => by
      simp only [World.setCell, Array.getElem?_modify]
      rw [if_neg (fun e => hc e.symm)])
    unfold wpLo
    rw [if_pos (wanted_of hs hw)]
    refine ⟨fun f _ => fenceFn _ f, ?_⟩
    rw [semAt_of rfl, hs.eval]
    have hrun : (execOp (ev σ) ⟨none, .store te Ad V, ty, p, af, g⟩).run fr.P w = .ok .skip (w.setCell ⟨b, j, none⟩ u) := by
      simp [execOp, Instr.storeAt, Instr.sureAddr, storeVar, ha, hv, hsz, hcs, storeCells, run_store _ _ _ _ _ h1, Addr.add_zero', hc, hfz]
    rw [hrun]
    refine hk [(b, .cells (cs.setIfInBounds j u) e)] (Or.inr ?_) _ _ hs hd (by simpa using hst2)
    refine ⟨b, c0, _, by rw [List.length_set], rfl, by rw [List.length_set]; exact h3, h4, by rw [Array.size_setIfInBounds, hE, Nat.mul_one]; exact h5, fun k q hq => ?_⟩
    rw [hE, Nat.mul_one]
    by_cases hkj : k = j
    · subst hkj
      rw [List.getElem?_set_self hjn] at hq
      injection hq with hq
      subst hq
      refine ⟨[u], hy, fun r u' hr => ?_⟩
      cases r with
      | zero =>
        simp only [List.getElem?_cons_zero, Option.some.injEq] at hr
        subst hr
        rw [Nat.add_zero, Array.getElem?_setIfInBounds_self_of_lt hlt]
      | succ r => simp at hr
    · rw [List.getElem?_set_ne (fun e => hkj e.symm)] at hq
      obtain ⟨l, h7, h8⟩ := h6 k q hq
      refine ⟨l, h7, fun r u' hr => ?_⟩
      have hr0 : r = 0 := by
        have h9 := E.len h7
        have := (List.getElem?_eq_some_iff.1 hr).1
        omega
      subst hr0
      have := h8 0 u' hr
      rw [hE, Nat.mul_one, Nat.add_zero] at this
      rw [Nat.add_zero, Array.getElem?_setIfInBounds_ne (fun e => hkj e.symm)]
      exact this
end
end Go.SX
