/- SX: operations: values, calls, boxes. -/
import Derived.Test.YtkhjpgimjkofcaaSx1
import Derived.IntWalk
import Derived.Laws.Append
import Derived.WideLaws
set_option linter.unusedVariables false
set_option linter.unusedSimpArgs false
namespace Go.SX
open Go
attribute [local semireducible] T

def nth {α : Type} : List α → Nat → Option α
  | [], _ => none
  | a :: _, 0 => some a
  | _ :: r, n + 1 => nth r n
theorem nth_eq {α : Type} : ∀ (l : List α) (n : Nat), nth l n = l[n]?
  | [], n => by simp [nth]
  | a :: r, 0 => by simp [nth]
  | a :: r, n + 1 => by simp [nth, nth_eq r n]

def yl (ol : List Oper) (σ : Env) (j : Nat) : Option Bool :=
  match nth ol j with
  | some o => match o.dst with
    | some t => match σ t with
      | .bool b => some b
      | _ => none
    | none => none
  | none => none
def beqB : Bool → Bool → Bool
  | true, true => true
  | false, false => true
  | _, _ => false
def wants (ol : List Oper) (σ : Env) : Option (Nat × Bool) → Bool
  | none => true
  | some (j, b) => match yl ol σ j with
    | some c => beqB c b
    | none => false
def wan (N : Nat) (ol : List Oper) (σ : Env) (d : Nat) (g : Option (Nat × Bool)) : Bool := Nat.blt d N && wants ol σ g

def wpLo (F : Fence) (P : Program) (ops : Array Oper) (Q : Exit → Act → World → Prop) : List Oper → Act → World → Prop
  | [], a, w => Q .normal a w
  | o :: r, a, w => if Region.wanted o (yielded ops a.tmps) then o.wpIn F 0 P a w (wpLo F P ops Q r) Q
      else (∀ f, o.about P w a.eval = some f → F.fn f) ∧ wpLo F P ops Q r (a.put o.dst undef) w

theorem wpOpsIn_of_wpLo {F : Fence} {P : Program} {ops : Array Oper} {Q : Exit → Act → World → Prop} : ∀ (is : List Nat) (a : Act) (w : World),
    wpLo F P ops Q (is.filterMap (fun i => ops[i]?)) a w → wpOpsIn F 0 P ops Q is a w
  | [], _, _, h => h
  | i :: is, a, w, h => by
    simp only [wpOpsIn]
    cases ho : ops[i]? with
    | none =>
      rw [List.filterMap_cons_none ho] at h
      exact wpOpsIn_of_wpLo is a w h
    | some o =>
      rw [List.filterMap_cons_some ho] at h
      simp only [wpLo] at h
      simp only
      have e : wpLo F P ops Q (is.filterMap fun i => ops[i]?) = fun a w => wpLo F P ops Q (is.filterMap fun i => ops[i]?) a w := rfl
      split at h
      · rename_i hw
        rw [if_pos hw]
        obtain ⟨h1, h2⟩ := h
        refine ⟨h1, ?_⟩
        unfold Oper.uponIn at h2 ⊢
        split at h2
        · exact wpOpsIn_of_wpLo is _ _ h2
        · exact wpOpsIn_of_wpLo is _ _ h2
        · exact wpOpsIn_of_wpLo is _ _ h2
        · exact ⟨h2.1, h2.2.mono fun e w' h3 => by cases e <;> first | exact wpOpsIn_of_wpLo is _ _ h3 | exact h3⟩
        · exact ⟨h2.1, h2.2.mono fun v w' h3 => wpOpsIn_of_wpLo is _ _ h3⟩
        · exact ⟨h2.1, h2.2.mono fun e w' h3 => by cases e <;> first | exact wpOpsIn_of_wpLo is _ _ h3 | exact h3⟩
        · exact h2
        · exact h2
      · rename_i hw
        rw [if_neg hw]
        exact ⟨h.1, wpOpsIn_of_wpLo is _ _ h.2⟩

theorem range_filterMap (l : List Oper) : (List.range l.length).filterMap (fun i => l.toArray[i]?) = l := by
  have : ∀ (l : List Oper) (k : Nat) (f : Nat → Option Oper), (∀ i, f (k + i) = l[i]?) → (List.range' k l.length).filterMap f = l := by
    intro l
    induction l with
    | nil => intro k f _; simp
    | cons a l ih =>
      intro k f h
      rw [List.length_cons, List.range'_succ, List.filterMap_cons_some (by have := h 0; simpa using this)]
      rw [ih (k + 1) f (fun i => by have := h (i + 1); rw [show k + 1 + i = k + (i + 1) by omega, this]; simp)]
  rw [List.range_eq_range']
  exact this l 0 _ (fun i => by simp)

def TL (fr : Fr) (x : Cx) (ol : List Oper) (l : List Oper) (Q : Post) (σ : Env) (H : Heap) (L : Own) (ds : List Nat) : Prop :=
  ∀ a w, Sim fr.N σ a.tmps → a.defers = ds.map mk → St x H (L.flatten ++ hid fr.rd ds) w → wpLo (fence fr.rd) fr.P ol.toArray (lift fr x Q) l a w

section
variable {fr : Fr} {x : Cx} {Q : Post} {σ : Env} {H : Heap} {L : Own} {ds : List Nat} {ol rest : List Oper}

theorem T.region {id : Nat} {l : List Oper} (h : TL fr x l l Q σ H L ds) : T fr x (.region id l.toArray false) Q σ H L ds := by
  intro a w hs hd hst
  refine wpIn_region (wpOpsIn_of_wpLo _ a w ?_)
  have := range_filterMap l
  rw [show (List.range l.toArray.size) = List.range l.length by simp, this]
  exact h a w hs hd hst
theorem TL.nil (h : Q .normal σ H L ds) : TL fr x ol [] Q σ H L ds := fun _ _ hs hd hst => lift_intro hs hd hst h

theorem yl_eq {a : Act} {N : Nat} (hs : Sim N σ a.tmps) (j : Nat) (b : Bool) (h : yl ol σ j = some b) : yielded ol.toArray a.tmps j = some b := by
  unfold yl at h
  rw [nth_eq] at h
  unfold yielded
  simp only [List.getElem?_toArray]
  cases ho : ol[j]? with
  | none => rw [ho] at h; cases h
  | some o =>
    rw [ho] at h
    simp only at h
    simp only [Option.bind_some]
    cases hd : o.dst with
    | none => rw [hd] at h; cases h
    | some t =>
      rw [hd] at h
      simp only at h
      simp only [Option.bind_some]
      have hv := hs.val t
      rw [← hv] at h
      cases ht : a.tmps[t]? with
      | none =>
        rw [Array.getD_eq_getD_getElem?, ht] at h
        simp [undef] at h
      | some v =>
        rw [Array.getD_eq_getD_getElem?, ht] at h
        simp only [Option.getD_some] at h
        cases v <;> simp_all
theorem wanted_of {a : Act} {N : Nat} (hs : Sim N σ a.tmps) {o : Oper} (h : wants ol σ o.guard = true) : Region.wanted o (yielded ol.toArray a.tmps) = true := by
  unfold wants at h
  unfold Region.wanted
  cases hg : o.guard with
  | none => rfl
  | some p =>
    obtain ⟨j, b⟩ := p
    rw [hg] at h
    simp only at h
    cases hy : yl ol σ j with
    | none => rw [hy] at h; cases h
    | some c =>
      rw [hy] at h
      simp only at h
      simp only [yl_eq hs j c hy]
      cases b <;> cases c <;> first | rfl | cases h
theorem unwanted_of {a : Act} {N : Nat} (hs : Sim N σ a.tmps) {o : Oper} {j : Nat} {b c : Bool} (hg : o.guard = some (j, b)) (h : yl ol σ j = some c) (hne : beqB c b = false) : Region.wanted o (yielded ol.toArray a.tmps) = false := by
  unfold Region.wanted
  rw [hg]
  simp only [yl_eq hs j c h]
  cases b <;> cases c <;> first | rfl | cases hne

theorem wan_lt {N d : Nat} {g : Option (Nat × Bool)} (h : wan N ol σ d g = true) : Nat.blt d N = true ∧ wants ol σ g = true := by
  unfold wan at h; simpa using h

theorem fenceFn (rd : Option (Nat × Loop)) (f : FuncId) : (fence rd).fn f := trivial

def isDefer : Op → Bool
  | .defer _ => true
  | _ => false
theorem semAt_of {rd : Option Nat} {ρ : Operand → Value} {o : Oper} (h : isDefer o.op = false) : o.semAt rd ρ = execOp ρ o :=
  Oper.semAt_eq rd ρ o (fun c hc => by rw [hc] at h; cases h)

theorem Sim.putA {N : Nat} {a : Act} (h : Sim N σ a.tmps) (d : Nat) (v : Value) (hd : Nat.blt d N = true) : Sim N (upd σ d v) (a.put (some d) v).tmps := h.put d v hd

/-- An operation that yields a value. -/
theorem TL.value {d : Nat} {op : Op} {ty : TypeId} {p : String} {af : Array Edge} {g : Option (Nat × Bool)} (hw : wan fr.N ol σ d g = true) (hnd : isDefer op = false)
    (h : ∀ w, St x H (L.flatten ++ hid fr.rd ds) w → ∃ v w' H' L', (execOp (ev σ) ⟨some d, op, ty, p, af, g⟩).run fr.P w = .ok (.value v) w' ∧
      St x H' (L'.flatten ++ hid fr.rd ds) w' ∧ TL fr x ol rest Q (upd σ d v) H' L' ds) :
    TL fr x ol (⟨some d, op, ty, p, af, g⟩ :: rest) Q σ H L ds := by
  intro a w hs hd hst
  obtain ⟨hdN, hwn⟩ := wan_lt hw
  obtain ⟨v, w', H', L', hrun, hst', hT⟩ := h w hst
  unfold wpLo
  rw [if_pos (wanted_of hs hwn)]
  refine ⟨fun f _ => fenceFn _ f, ?_⟩
  rw [semAt_of hnd, hs.eval, hrun]
  exact hT _ w' (hs.putA d v hdN) hd hst'

theorem TL.pureE {d : Nat} {op : Op} {ty : TypeId} {p : String} {af : Array Edge} {g : Option (Nat × Bool)} {v : Value} (hw : wan fr.N ol σ d g = true) (hnd : isDefer op = false)
    (hop : ∀ w, (execOp (ev σ) ⟨some d, op, ty, p, af, g⟩).run fr.P w = .ok (.value v) w) (h : TL fr x ol rest Q (upd σ d v) H L ds) :
    TL fr x ol (⟨some d, op, ty, p, af, g⟩ :: rest) Q σ H L ds :=
  TL.value hw hnd (fun w hst => ⟨v, w, H, L, hop w, hst, h⟩)

/-- An operation that a guard shuts out. -/
theorem TL.off {d : Nat} {op : Op} {ty : TypeId} {p : String} {af : Array Edge} {j : Nat} {b c : Bool} (hdN : Nat.blt d fr.N = true) (hy : yl ol σ j = some c) (hne : beqB c b = false)
    (h : TL fr x ol rest Q (upd σ d undef) H L ds) : TL fr x ol (⟨some d, op, ty, p, af, some (j, b)⟩ :: rest) Q σ H L ds := by
  intro a w hs hd hst
  unfold wpLo
  rw [if_neg (by rw [unwanted_of hs rfl hy hne]; simp)]
  exact ⟨fun f _ => fenceFn _ f, h _ w (hs.putA d undef hdN) hd hst⟩
theorem TL.off0 {op : Op} {ty : TypeId} {p : String} {af : Array Edge} {j : Nat} {b c : Bool} (hy : yl ol σ j = some c) (hne : beqB c b = false)
    (h : TL fr x ol rest Q σ H L ds) : TL fr x ol (⟨none, op, ty, p, af, some (j, b)⟩ :: rest) Q σ H L ds := by
  intro a w hs hd hst
  unfold wpLo
  rw [if_neg (by rw [unwanted_of hs rfl hy hne]; simp)]
  exact ⟨fun f _ => fenceFn _ f, h _ w hs hd hst⟩
/-- The slot of a test is made a literal. -/
theorem TL.gsplit (t : Nat) {b : Bool} (hb : σ t = .bool b) {l : List Oper} (h1 : b = true → TL fr x ol l Q (upd σ t (.bool true)) H L ds) (h2 : b = false → TL fr x ol l Q (upd σ t (.bool false)) H L ds) : TL fr x ol l Q σ H L ds := by
  cases b with
  | true => have := h1 rfl; rwa [upd_self _ _ _ hb] at this
  | false => have := h2 rfl; rwa [upd_self _ _ _ hb] at this
theorem TL.gsplitD (t : Nat) {p : Prop} [Decidable p] (hb : σ t = .bool (decide p)) {l : List Oper} (h1 : p → TL fr x ol l Q (upd σ t (.bool true)) H L ds) (h2 : ¬p → TL fr x ol l Q (upd σ t (.bool false)) H L ds) : TL fr x ol l Q σ H L ds :=
  TL.gsplit t hb (fun h => h1 (of_decide_eq_true h)) (fun h => h2 (of_decide_eq_false h))
/-- A slot's value is written otherwise. -/
theorem TL.set (t : Nat) (v : Value) (hb : σ t = v) {l : List Oper} (h : TL fr x ol l Q (upd σ t v) H L ds) : TL fr x ol l Q σ H L ds := by
  rwa [upd_self _ _ _ hb] at h
theorem T.set (t : Nat) (v : Value) (hb : σ t = v) {c : Code} (h : T fr x c Q (upd σ t v) H L ds) : T fr x c Q σ H L ds := by
  rwa [upd_self _ _ _ hb] at h

section pure
variable {d : Nat} {ty : TypeId} {p : String} {af : Array Edge} {g : Option (Nat × Bool)}
theorem R.mv {X : Operand} (hw : wan fr.N ol σ d g = true) (h : TL fr x ol rest Q (upd σ d (ev σ X)) H L ds) : TL fr x ol (⟨some d, .move X, ty, p, af, g⟩ :: rest) Q σ H L ds :=
  TL.pureE hw rfl (fun _ => rfl) h
theorem R.as {X : Operand} (hw : wan fr.N ol σ d g = true) (h : TL fr x ol rest Q (upd σ d (ev σ X)) H L ds) : TL fr x ol (⟨some d, .assign X, ty, p, af, g⟩ :: rest) Q σ H L ds :=
  TL.pureE hw rfl (fun _ => rfl) h
theorem R.pkT {c A B : Operand} (hw : wan fr.N ol σ d g = true) (hc : ev σ c = .bool true) (h : TL fr x ol rest Q (upd σ d (ev σ A)) H L ds) : TL fr x ol (⟨some d, .pick c A B, ty, p, af, g⟩ :: rest) Q σ H L ds :=
  TL.pureE hw rfl (fun w => by simp [execOp, hc, asBool]) h
theorem R.pkF {c A B : Operand} (hw : wan fr.N ol σ d g = true) (hc : ev σ c = .bool false) (h : TL fr x ol rest Q (upd σ d (ev σ B)) H L ds) : TL fr x ol (⟨some d, .pick c A B, ty, p, af, g⟩ :: rest) Q σ H L ds :=
  TL.pureE hw rfl (fun w => by simp [execOp, hc, asBool]) h

variable {X Y : Operand} {a b : Int} {k : IntKind} {xt yt : TypeId}
theorem R.add (hw : wan fr.N ol σ d g = true) (hx : ev σ X = .int k a) (hy : ev σ Y = .int k b) (h : TL fr x ol rest Q (upd σ d (.int k (k.wrap (a + b)))) H L ds) : TL fr x ol (⟨some d, .binOp .add xt X Y yt, ty, p, af, g⟩ :: rest) Q σ H L ds :=
  TL.pureE hw rfl (fun w => by simp [execOp, eqGuard, binOp, Op.intArith, hx, hy]) h
theorem R.sub (hw : wan fr.N ol σ d g = true) (hx : ev σ X = .int k a) (hy : ev σ Y = .int k b) (h : TL fr x ol rest Q (upd σ d (.int k (k.wrap (a - b)))) H L ds) : TL fr x ol (⟨some d, .binOp .sub xt X Y yt, ty, p, af, g⟩ :: rest) Q σ H L ds :=
  TL.pureE hw rfl (fun w => by simp [execOp, eqGuard, binOp, Op.intArith, hx, hy]) h
theorem R.mul (hw : wan fr.N ol σ d g = true) (hx : ev σ X = .int k a) (hy : ev σ Y = .int k b) (h : TL fr x ol rest Q (upd σ d (.int k (k.wrap (a * b)))) H L ds) : TL fr x ol (⟨some d, .binOp .mul xt X Y yt, ty, p, af, g⟩ :: rest) Q σ H L ds :=
  TL.pureE hw rfl (fun w => by simp [execOp, eqGuard, binOp, Op.intArith, hx, hy]) h
theorem R.addI (hw : wan fr.N ol σ d g = true) (hx : ev σ X = .int .i64 a) (hy : ev σ Y = .int .i64 b) (hb : -9223372036854775808 ≤ a + b ∧ a + b ≤ 9223372036854775807) (h : TL fr x ol rest Q (upd σ d (.int .i64 (a + b))) H L ds) : TL fr x ol (⟨some d, .binOp .add xt X Y yt, ty, p, af, g⟩ :: rest) Q σ H L ds :=
  R.add hw hx hy (by rw [IntWalk.i64_in _ hb]; exact h)
theorem R.subI (hw : wan fr.N ol σ d g = true) (hx : ev σ X = .int .i64 a) (hy : ev σ Y = .int .i64 b) (hb : -9223372036854775808 ≤ a - b ∧ a - b ≤ 9223372036854775807) (h : TL fr x ol rest Q (upd σ d (.int .i64 (a - b))) H L ds) : TL fr x ol (⟨some d, .binOp .sub xt X Y yt, ty, p, af, g⟩ :: rest) Q σ H L ds :=
  R.sub hw hx hy (by rw [IntWalk.i64_in _ hb]; exact h)
theorem R.mulI (hw : wan fr.N ol σ d g = true) (hx : ev σ X = .int .i64 a) (hy : ev σ Y = .int .i64 b) (hb : -9223372036854775808 ≤ a * b ∧ a * b ≤ 9223372036854775807) (h : TL fr x ol rest Q (upd σ d (.int .i64 (a * b))) H L ds) : TL fr x ol (⟨some d, .binOp .mul xt X Y yt, ty, p, af, g⟩ :: rest) Q σ H L ds :=
  R.mul hw hx hy (by rw [IntWalk.i64_in _ hb]; exact h)
theorem R.quo (hw : wan fr.N ol σ d g = true) (hx : ev σ X = .int k a) (hy : ev σ Y = .int k b) (hb : b ≠ 0) (h : TL fr x ol rest Q (upd σ d (.int k (k.wrap (a.tdiv b)))) H L ds) : TL fr x ol (⟨some d, .binOp .quo xt X Y yt, ty, p, af, g⟩ :: rest) Q σ H L ds :=
  TL.pureE hw rfl (fun w => by simp [execOp, eqGuard, binOp, Op.intDiv, hx, hy, hb]) h
theorem R.rem (hw : wan fr.N ol σ d g = true) (hx : ev σ X = .int k a) (hy : ev σ Y = .int k b) (hb : b ≠ 0) (h : TL fr x ol rest Q (upd σ d (.int k (a.tmod b))) H L ds) : TL fr x ol (⟨some d, .binOp .rem xt X Y yt, ty, p, af, g⟩ :: rest) Q σ H L ds :=
  TL.pureE hw rfl (fun w => by simp [execOp, eqGuard, binOp, Op.intDiv, hx, hy, hb]) h
theorem R.eql (hw : wan fr.N ol σ d g = true) (hx : ev σ X = .int k a) (hy : ev σ Y = .int k b) (h : TL fr x ol rest Q (upd σ d (.bool (decide (a = b)))) H L ds) : TL fr x ol (⟨some d, .binOp .eql xt X Y yt, ty, p, af, g⟩ :: rest) Q σ H L ds :=
  TL.pureE hw rfl (fun w => by simp [execOp, eqGuard, binOp, Op.intCmp, hx, hy]; rfl) h
theorem R.neq (hw : wan fr.N ol σ d g = true) (hx : ev σ X = .int k a) (hy : ev σ Y = .int k b) (h : TL fr x ol rest Q (upd σ d (.bool (decide (a ≠ b)))) H L ds) : TL fr x ol (⟨some d, .binOp .neq xt X Y yt, ty, p, af, g⟩ :: rest) Q σ H L ds :=
  TL.pureE hw rfl (fun w => by
    have : (a != b) = decide (a ≠ b) := by by_cases e : a = b <;> simp [e]
    simp [execOp, eqGuard, binOp, Op.intCmp, hx, hy, this]) h
theorem R.lss (hw : wan fr.N ol σ d g = true) (hx : ev σ X = .int k a) (hy : ev σ Y = .int k b) (h : TL fr x ol rest Q (upd σ d (.bool (decide (a < b)))) H L ds) : TL fr x ol (⟨some d, .binOp .lss xt X Y yt, ty, p, af, g⟩ :: rest) Q σ H L ds :=
  TL.pureE hw rfl (fun w => by simp [execOp, eqGuard, binOp, Op.intCmp, hx, hy]) h
theorem R.leq (hw : wan fr.N ol σ d g = true) (hx : ev σ X = .int k a) (hy : ev σ Y = .int k b) (h : TL fr x ol rest Q (upd σ d (.bool (decide (a ≤ b)))) H L ds) : TL fr x ol (⟨some d, .binOp .leq xt X Y yt, ty, p, af, g⟩ :: rest) Q σ H L ds :=
  TL.pureE hw rfl (fun w => by simp [execOp, eqGuard, binOp, Op.intCmp, hx, hy]) h
theorem R.gtr (hw : wan fr.N ol σ d g = true) (hx : ev σ X = .int k a) (hy : ev σ Y = .int k b) (h : TL fr x ol rest Q (upd σ d (.bool (decide (b < a)))) H L ds) : TL fr x ol (⟨some d, .binOp .gtr xt X Y yt, ty, p, af, g⟩ :: rest) Q σ H L ds :=
  TL.pureE hw rfl (fun w => by simp [execOp, eqGuard, binOp, Op.intCmp, hx, hy]) h
theorem R.geq (hw : wan fr.N ol σ d g = true) (hx : ev σ X = .int k a) (hy : ev σ Y = .int k b) (h : TL fr x ol rest Q (upd σ d (.bool (decide (b ≤ a)))) H L ds) : TL fr x ol (⟨some d, .binOp .geq xt X Y yt, ty, p, af, g⟩ :: rest) Q σ H L ds :=
  TL.pureE hw rfl (fun w => by simp [execOp, eqGuard, binOp, Op.intCmp, hx, hy]) h
end pure
end

def band (k : IntKind) (a b : Int) : Int := k.wrap ((BitVec.ofInt k.bits a &&& BitVec.ofInt k.bits b).toNat)
def bor (k : IntKind) (a b : Int) : Int := k.wrap ((BitVec.ofInt k.bits a ||| BitVec.ofInt k.bits b).toNat)
def bxor (k : IntKind) (a b : Int) : Int := k.wrap ((BitVec.ofInt k.bits a ^^^ BitVec.ofInt k.bits b).toNat)
def bshl (k : IntKind) (a y : Int) : Int := k.wrap (a * 2 ^ (min y.toNat k.bits))
def bshr (k : IntKind) (a y : Int) : Int := a.fdiv (2 ^ (min y.toNat k.bits))

section
variable {fr : Fr} {x : Cx} {Q : Post} {σ : Env} {H : Heap} {L : Own} {ds : List Nat} {ol rest : List Oper}
variable {d : Nat} {ty : TypeId} {p : String} {af : Array Edge} {g : Option (Nat × Bool)}
variable {X Y : Operand} {a b : Int} {k k' : IntKind} {xt yt : TypeId}
theorem R.and (hw : wan fr.N ol σ d g = true) (hx : ev σ X = .int k a) (hy : ev σ Y = .int k b) (h : TL fr x ol rest Q (upd σ d (.int k (band k a b))) H L ds) : TL fr x ol (⟨some d, .binOp .and xt X Y yt, ty, p, af, g⟩ :: rest) Q σ H L ds :=
  TL.pureE hw rfl (fun w => by simp [execOp, eqGuard, binOp, Op.intBits, hx, hy, band]) h
theorem R.or (hw : wan fr.N ol σ d g = true) (hx : ev σ X = .int k a) (hy : ev σ Y = .int k b) (h : TL fr x ol rest Q (upd σ d (.int k (bor k a b))) H L ds) : TL fr x ol (⟨some d, .binOp .or xt X Y yt, ty, p, af, g⟩ :: rest) Q σ H L ds :=
  TL.pureE hw rfl (fun w => by simp [execOp, eqGuard, binOp, Op.intBits, hx, hy, bor]) h
theorem R.xor (hw : wan fr.N ol σ d g = true) (hx : ev σ X = .int k a) (hy : ev σ Y = .int k b) (h : TL fr x ol rest Q (upd σ d (.int k (bxor k a b))) H L ds) : TL fr x ol (⟨some d, .binOp .xor xt X Y yt, ty, p, af, g⟩ :: rest) Q σ H L ds :=
  TL.pureE hw rfl (fun w => by simp [execOp, eqGuard, binOp, Op.intBits, hx, hy, bxor]) h
theorem R.shl (hw : wan fr.N ol σ d g = true) (hx : ev σ X = .int k a) (hy : ev σ Y = .int k' b) (hb : 0 ≤ b) (h : TL fr x ol rest Q (upd σ d (.int k (bshl k a b))) H L ds) : TL fr x ol (⟨some d, .binOp .shl xt X Y yt, ty, p, af, g⟩ :: rest) Q σ H L ds :=
  TL.pureE hw rfl (fun w => by simp [execOp, eqGuard, binOp, Op.shift, hx, hy, bshl, show ¬ b < 0 by omega]) h
theorem R.shr (hw : wan fr.N ol σ d g = true) (hx : ev σ X = .int k a) (hy : ev σ Y = .int k' b) (hb : 0 ≤ b) (h : TL fr x ol rest Q (upd σ d (.int k (bshr k a b))) H L ds) : TL fr x ol (⟨some d, .binOp .shr xt X Y yt, ty, p, af, g⟩ :: rest) Q σ H L ds :=
  TL.pureE hw rfl (fun w => by simp [execOp, eqGuard, binOp, Op.shift, hx, hy, bshr, show ¬ b < 0 by omega]) h
theorem R.not {t : Bool} (hw : wan fr.N ol σ d g = true) (hx : ev σ X = .bool t) (h : TL fr x ol rest Q (upd σ d (.bool (!t))) H L ds) : TL fr x ol (⟨some d, .unOp .not xt X, ty, p, af, g⟩ :: rest) Q σ H L ds :=
  TL.pureE hw rfl (fun w => by simp [execOp, Op.unary, hx]) h
theorem R.notD {q : Prop} [Decidable q] (hw : wan fr.N ol σ d g = true) (hx : ev σ X = .bool (decide q)) (h : TL fr x ol rest Q (upd σ d (.bool (decide (¬ q)))) H L ds) : TL fr x ol (⟨some d, .unOp .not xt X, ty, p, af, g⟩ :: rest) Q σ H L ds :=
  R.not hw hx (by rw [← decide_not]; exact h)
theorem R.neg (hw : wan fr.N ol σ d g = true) (hx : ev σ X = .int k a) (h : TL fr x ol rest Q (upd σ d (.int k (k.wrap (0 - a)))) H L ds) : TL fr x ol (⟨some d, .unOp .neg xt X, ty, p, af, g⟩ :: rest) Q σ H L ds :=
  TL.pureE hw rfl (fun w => by simp [execOp, Op.unary, Op.intArith, hx]) h
/-- Two bools. -/
theorem run_equalIn_bool {P : Program} {t : TypeId} (hu : P.underlying t = some .bool) (m : Nat) (s u : Bool) (w : World) : (Op.equalIn (m + 1) t (.bool s) (.bool u)).run P w = .ok (s == u) w := by
  simp only [Op.equalIn, Sem.run_bind, run_underlying hu, Result.andThen]
  rfl
theorem run_equal_bool {P : Program} {t : TypeId} (hu : P.underlying t = some .bool) (s u : Bool) (w : World) : (Op.equal t (.bool s) (.bool u)).run P w = .ok (s == u) w := run_equalIn_bool hu 9999 s u w
theorem R.eqlB {s t : Bool} (hu : fr.P.underlying xt = some .bool) (hw : wan fr.N ol σ d g = true) (hx : ev σ X = .bool s) (hy : ev σ Y = .bool t) (h : TL fr x ol rest Q (upd σ d (.bool (s == t))) H L ds) : TL fr x ol (⟨some d, .binOp .eql xt X Y yt, ty, p, af, g⟩ :: rest) Q σ H L ds :=
  TL.pureE hw rfl (fun w => by
    have he := run_equal_bool hu s t w
    simp only [execOp, eqGuard, hx, hy, binOp]
    simp [he]) h
theorem R.neqB {s t : Bool} (hu : fr.P.underlying xt = some .bool) (hw : wan fr.N ol σ d g = true) (hx : ev σ X = .bool s) (hy : ev σ Y = .bool t) (h : TL fr x ol rest Q (upd σ d (.bool (s != t))) H L ds) : TL fr x ol (⟨some d, .binOp .neq xt X Y yt, ty, p, af, g⟩ :: rest) Q σ H L ds :=
  TL.pureE hw rfl (fun w => by
    have he := run_equal_bool hu s t w
    simp only [execOp, eqGuard, hx, hy, binOp]
    simp [he, bne]) h
theorem R.conv {ks kd : IntKind} {src dst : TypeId} (hs : fr.P.underlying src = some (.int ks)) (hd : fr.P.underlying dst = some (.int kd)) (hw : wan fr.N ol σ d g = true) (hx : ev σ X = .int k a) (h : TL fr x ol rest Q (upd σ d (.int kd (kd.wrap a))) H L ds) :
    TL fr x ol (⟨some d, .convert src dst X, ty, p, af, g⟩ :: rest) Q σ H L ds :=
  TL.pureE hw rfl (fun w => by simp [execOp, convert, run_underlying hs, run_underlying hd, hx, Conv.intToInt]) h
theorem R.ext {l : List Value} {i : Nat} {v : Value} (hw : wan fr.N ol σ d g = true) (hx : ev σ X = .tuple l.toArray) (hi : nth l i = some v) (h : TL fr x ol rest Q (upd σ d v) H L ds) : TL fr x ol (⟨some d, .extract X i, ty, p, af, g⟩ :: rest) Q σ H L ds :=
  TL.pureE hw rfl (fun w => by rw [nth_eq] at hi; simp [execOp, Instr.extract, hx, hi]) h
theorem R.len {A : Option Addr} {n c : Nat} {t e : TypeId} (ht : fr.P.underlying t = some (.slice e)) (hw : wan fr.N ol σ d g = true) (hx : ev σ X = .slice A n c) (h : TL fr x ol rest Q (upd σ d (.int .i64 n)) H L ds) :
    TL fr x ol (⟨some d, .call { callee := .builtin .len, args := #[X], argTypes := #[t] }, ty, p, af, g⟩ :: rest) Q σ H L ds :=
  TL.pureE hw rfl (fun w => by simp [execOp, resolve, invoke, builtin, Builtin.len_, hx, run_underlying ht, goInt]) h
theorem R.cap {A : Option Addr} {n c : Nat} {t e : TypeId} (ht : fr.P.underlying t = some (.slice e)) (hw : wan fr.N ol σ d g = true) (hx : ev σ X = .slice A n c) (h : TL fr x ol rest Q (upd σ d (.int .i64 c)) H L ds) :
    TL fr x ol (⟨some d, .call { callee := .builtin .cap, args := #[X], argTypes := #[t] }, ty, p, af, g⟩ :: rest) Q σ H L ds :=
  TL.pureE hw rfl (fun w => by simp [execOp, resolve, invoke, builtin, Builtin.cap_, hx, run_underlying ht, goInt]) h
theorem R.min2 {at_ : Array TypeId} (hw : wan fr.N ol σ d g = true) (hx : ev σ X = .int k a) (hy : ev σ Y = .int k' b) (h : TL fr x ol rest Q (upd σ d (.int k (if b < a then b else a))) H L ds) :
    TL fr x ol (⟨some d, .call { callee := .builtin .min, args := #[X, Y], argTypes := at_ }, ty, p, af, g⟩ :: rest) Q σ H L ds :=
  TL.pureE hw rfl (fun w => by simp [execOp, resolve, invoke, builtin, Builtin.min_, Builtin.min2, hx, hy]) h
theorem R.max2 {at_ : Array TypeId} (hw : wan fr.N ol σ d g = true) (hx : ev σ X = .int k a) (hy : ev σ Y = .int k' b) (h : TL fr x ol rest Q (upd σ d (.int k (if a < b then b else a))) H L ds) :
    TL fr x ol (⟨some d, .call { callee := .builtin .max, args := #[X, Y], argTypes := at_ }, ty, p, af, g⟩ :: rest) Q σ H L ds :=
  TL.pureE hw rfl (fun w => by simp [execOp, resolve, invoke, builtin, Builtin.max_, Builtin.max2, hx, hy]) h
theorem R.mkf {fn : Fn} {caps : List Operand} {cs : List Value} (hw : wan fr.N ol σ d g = true) (hc : caps.map (ev σ) = cs) (h : TL fr x ol rest Q (upd σ d (.func fn #[] cs.toArray)) H L ds) :
    TL fr x ol (⟨some d, .makeFunc fn #[] caps.toArray, ty, p, af, g⟩ :: rest) Q σ H L ds :=
  TL.pureE hw rfl (fun w => by simp [execOp, Instr.makeFunc, ← hc]) h
theorem R.nilck {ad : Addr} (hw : wan fr.N ol σ d g = true) (hx : ev σ X = .pointer (some ad)) (h : TL fr x ol rest Q (upd σ d (.pointer (some ad))) H L ds) : TL fr x ol (⟨some d, .nilCheck X, ty, p, af, g⟩ :: rest) Q σ H L ds :=
  TL.pureE hw rfl (fun w => by simp [execOp, hx]) h
/-- Whatever closed run. -/
theorem R.run {op : Op} {v : Value} (hw : wan fr.N ol σ d g = true) (hnd : isDefer op = false) (hop : ∀ w, (execOp (ev σ) ⟨some d, op, ty, p, af, g⟩).run fr.P w = .ok (.value v) w) (h : TL fr x ol rest Q (upd σ d v) H L ds) :
    TL fr x ol (⟨some d, op, ty, p, af, g⟩ :: rest) Q σ H L ds := TL.pureE hw hnd hop h
end
attribute [irreducible] TL
end Go.SX
